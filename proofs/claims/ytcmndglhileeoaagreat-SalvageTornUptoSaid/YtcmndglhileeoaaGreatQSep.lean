/- A logic of parts of memory: what stands in which part, parts beside one another, what a call may turn. No program. -/
import Derived.Test.YtcmndglhileeoaaGreatQHeap
import Derived.Deep.Draws
set_option linter.unusedSimpArgs false
set_option linter.unusedVariables false
namespace Rv
open Go Go.RowKit

/-- What may be said of a part of memory. -/
def HP : Type := (Nat → Option Obj) → Prop
def HP.star (P Q : HP) : HP := fun h => ∃ a b : Nat → Option Obj, (∀ k, a k = none ∨ b k = none) ∧ h = (fun k => (a k).or (b k)) ∧ P a ∧ Q b
instance : Mul HP := ⟨HP.star⟩
def HP.emp : HP := fun h => h = fun _ => none
instance : OfNat HP 1 := ⟨HP.emp⟩

theorem or_none' {α : Type} (x : Option α) : x.or none = x := by cases x <;> rfl
theorem star_comm (P Q : HP) : P * Q = Q * P := by
  funext h
  refine propext ⟨?_, ?_⟩ <;>
  · rintro ⟨a, b, hd, rfl, hp, hq⟩
    refine ⟨b, a, fun k => (hd k).symm, ?_, hq, hp⟩
    funext k
    rcases hd k with e | e <;> rw [e] <;> simp
theorem star_assoc1 {P Q R : HP} {h : Nat → Option Obj} (hh : (P * Q * R) h) : (P * (Q * R)) h := by
  obtain ⟨ab, c, hd, rfl, ⟨a, b, he, rfl, hp, hq⟩, hr⟩ := hh
  refine ⟨a, fun k => (b k).or (c k), fun k => ?_, ?_, hp, b, c, fun k => ?_, rfl, hq, hr⟩
  · rcases he k with e | e
    · exact .inl e
    · rcases hd k with d | d
      · left; cases ha : a k <;> simp_all
      · right; simp [e, d]
  · funext k; exact Option.or_assoc
  · rcases hd k with d | d
    · left; cases ha : a k <;> simp_all
    · exact .inr d
theorem star_assoc (P Q R : HP) : P * Q * R = P * (Q * R) := by
  funext h
  refine propext ⟨star_assoc1, fun hh => ?_⟩
  rw [star_comm] at hh
  have h1 := star_assoc1 hh
  rw [star_comm] at h1
  have h2 := star_assoc1 h1
  rw [star_comm] at h2
  exact h2
instance : Std.Associative (α := HP) (· * ·) := ⟨star_assoc⟩
instance : Std.Commutative (α := HP) (· * ·) := ⟨star_comm⟩
theorem star_one (P : HP) : P * 1 = P := by
  funext h
  refine propext ⟨?_, fun hp => ⟨h, fun _ => none, fun k => .inr rfl, ?_, hp, rfl⟩⟩
  · rintro ⟨a, b, hd, rfl, hp, rfl⟩
    have : (fun k => (a k).or none) = a := by funext k; simp
    rw [this]; exact hp
  · funext k; simp
theorem one_star (P : HP) : 1 * P = P := by rw [star_comm, star_one]

/-- Memory has such parts (and maybe more). -/
def Sat (w : World) (P : HP) : Prop := ∃ h, P h ∧ ∀ k o, h k = some o → w.heap[k]? = some o
theorem Sat.perm {w : World} {P Q : HP} (h : Sat w P) (e : P = Q) : Sat w Q := e ▸ h
theorem Sat.drew {w : World} {P : HP} (h : Sat w P) : Sat w.drew P := h
theorem Sat.drewN {w : World} {P : HP} (n : Nat) (h : Sat w P) : Sat (w.drewN n) P := h
theorem Sat.imp {w : World} {P Q R : HP} (h : Sat w (P * R)) (hi : ∀ a, P a → Q a) : Sat w (Q * R) := by
  obtain ⟨_, ⟨a, b, hd, rfl, hp, hr⟩, hs⟩ := h
  exact ⟨_, ⟨a, b, hd, rfl, hi a hp, hr⟩, hs⟩
theorem Sat.parts {w : World} {P R : HP} (h : Sat w (P * R)) : ∃ a b : Nat → Option Obj, P a ∧ R b ∧ (∀ k, a k = none ∨ b k = none) ∧ (∀ k o, a k = some o → w.heap[k]? = some o) ∧ (∀ k o, b k = some o → w.heap[k]? = some o) := by
  obtain ⟨_, ⟨a, b, hd, rfl, hp, hr⟩, hs⟩ := h
  refine ⟨a, b, hp, hr, hd, fun k o h => hs k o (by simp only [h, Option.some_or]), fun k o h => hs k o ?_⟩
  rcases hd k with d | d
  · simp only [d, h, Option.none_or]
  · rw [d] at h; cases h
theorem Sat.of_parts {w : World} {P R : HP} {a b : Nat → Option Obj} (hp : P a) (hr : R b) (hd : ∀ k, a k = none ∨ b k = none) (ha : ∀ k o, a k = some o → w.heap[k]? = some o) (hb : ∀ k o, b k = some o → w.heap[k]? = some o) : Sat w (P * R) := by
  refine ⟨_, ⟨a, b, hd, rfl, hp, hr⟩, fun k o (h : (a k).or (b k) = some o) => ?_⟩
  cases hk : a k with
  | none => rw [hk, Option.none_or] at h; exact hb k o h
  | some o' => rw [hk, Option.some_or] at h; injection h with h; subst h; exact ha k _ hk
theorem Sat.left {w : World} {P R : HP} (h : Sat w (P * R)) : Sat w P := let ⟨a, _, hp, _, _, ha, _⟩ := h.parts; ⟨a, hp, ha⟩
theorem Sat.right {w : World} {P R : HP} (h : Sat w (P * R)) : Sat w R := (h.perm (star_comm _ _)).left
theorem Sat.one {w : World} {P : HP} (h : Sat w P) : Sat w (P * 1) := by rw [star_one]; exact h

theorem Sat.swap {w : World} {A B R : HP} (h : Sat w (A * (B * R))) : Sat w (B * (A * R)) := h.perm (by ac_rfl)
theorem Sat.drop2 {w : World} {A B R : HP} (h : Sat w (A * (B * R))) : Sat w (A * R) := h.swap.right
theorem Sat.drop3 {w : World} {A B C R : HP} (h : Sat w (A * (B * (C * R)))) : Sat w (A * (B * R)) := (h.perm (show A * (B * (C * R)) = C * (A * (B * R)) by ac_rfl)).right
theorem Sat.third {w : World} {A B C R : HP} (h : Sat w (A * (B * (C * R)))) : Sat w (C * (A * (B * R))) := h.perm (by ac_rfl)
theorem Sat.fourth {w : World} {A B C D R : HP} (h : Sat w (A * (B * (C * (D * R))))) : Sat w (D * (A * (B * (C * R)))) := h.perm (by ac_rfl)
/-- A step that turned only blocks of the first part. -/
theorem Sat.turn {w w' : World} {P Q R : HP} (h : Sat w (P * R))
    (hq : ∀ a, P a → (∀ k o, a k = some o → w.heap[k]? = some o) → (∀ k, k < w.heap.size → a k = none → w'.heap[k]? = w.heap[k]?) ∧ ∃ a', Q a' ∧ (∀ k o, a' k = some o → w'.heap[k]? = some o) ∧ (∀ k, a k = none → k < w.heap.size → a' k = none)) : Sat w' (Q * R) := by
  obtain ⟨a, b, hp, hr, hd, ha, hb⟩ := h.parts
  obtain ⟨hk, a', q, h1, h2⟩ := hq a hp ha
  have hlt : ∀ k o, b k = some o → k < w.heap.size := fun k o h => (Array.getElem?_eq_some_iff.1 (hb k o h)).1
  refine Sat.of_parts q hr (fun k => ?_) h1 (fun k o h => ?_)
  · cases hbk : b k with
    | none => exact .inr rfl
    | some o => exact .inl (h2 k ((hd k).resolve_right (by rw [hbk]; simp)) (hlt k o hbk))
  · rw [hk k (hlt k o h) ((hd k).resolve_right (by rw [h]; simp))]
    exact hb k o h

/-- One block. -/
def pt (g : Nat) (o : Obj) : HP := fun h => h = fun k => if k = g then some o else none
theorem pt_at {g : Nat} {o : Obj} {a : Nat → Option Obj} (h : pt g o a) (k : Nat) : a k = if k = g then some o else none := congrFun h k
/-- All memory as it is now. -/
def allOf (w : World) : HP := fun h => h = fun k => w.heap[k]?
theorem sat_all (w : World) : Sat w (allOf w) := ⟨_, rfl, fun _ _ h => h⟩

theorem Sat.heap {w : World} {g : Nat} {o : Obj} {R : HP} (h : Sat w (pt g o * R)) : w.heap[g]? = some o := by
  obtain ⟨a, b, hp, _, _, ha, _⟩ := h.parts
  exact ha g o (by rw [pt_at hp, if_pos rfl])
theorem Sat.lt {w : World} {g : Nat} {o : Obj} {R : HP} (h : Sat w (pt g o * R)) : g < w.heap.size := (Array.getElem?_eq_some_iff.1 h.heap).1
theorem Sat.ne {w : World} {g g' : Nat} {o o' : Obj} {R : HP} (h : Sat w (pt g o * (pt g' o' * R))) : g ≠ g' := by
  obtain ⟨a, b, hp, ⟨c, d, _, rfl, hc, _⟩, hd, _, _⟩ := h.parts
  rintro rfl
  have := hd g
  simp only at this
  rw [pt_at hp, if_pos rfl, pt_at hc, if_pos rfl] at this
  simp at this
theorem Sat.put {w w' : World} {g : Nat} {o o' : Obj} {R : HP} (h : Sat w (pt g o * R)) (hg : w'.heap[g]? = some o') (hk : ∀ k, k ≠ g → w'.heap[k]? = w.heap[k]?) : Sat w' (pt g o' * R) := by
  refine h.turn fun a hp ha => ⟨fun k hlt hn => hk k (fun e => ?_), _, rfl, fun k x hx => ?_, fun k hn hlt => ?_⟩
  · rw [pt_at hp, if_pos e] at hn; cases hn
  · by_cases e : k = g
    · rw [if_pos e] at hx; injection hx with hx; subst hx; rw [e]; exact hg
    · rw [if_neg e] at hx; cases hx
  · refine if_neg (fun e => ?_)
    rw [pt_at hp, if_pos e] at hn; cases hn
theorem Sat.setCell {w : World} {g i : Nat} {cs : Array Value} {t : TypeId} {m : Nat × Nat} {R : HP} (h : Sat w (pt g (.cells cs t m) * R)) (v : Value) : Sat (w.setCell ⟨g, i, none⟩ v) (pt g (.cells (cs.setIfInBounds i v) t m) * R) :=
  h.put (Proofs.YtcmndglhileeoaaGreat.set_at h.heap i v) (fun k hk => Proofs.YtcmndglhileeoaaGreat.set_off i v hk)
theorem Sat.alloc {w : World} {R : HP} (h : Sat w R) (o : Obj) : Sat (w.alloc o) (pt w.heap.size o * R) := by
  obtain ⟨b, hr, hb⟩ := h
  refine Sat.of_parts rfl hr (fun k => ?_) (fun k x hx => ?_) (fun k x hx => ?_)
  · cases hbk : b k with
    | none => exact .inr rfl
    | some o' => exact .inl (if_neg (fun e => by have := (Array.getElem?_eq_some_iff.1 (hb k o' hbk)).1; omega))
  · by_cases e : k = w.heap.size
    · rw [if_pos e] at hx; injection hx with hx; subst hx; rw [e]; exact heap_alloc_new w _
    · rw [if_neg e] at hx; cases hx
  · have := (Array.getElem?_eq_some_iff.1 (hb k x hx)).1
    rw [Below.heap_alloc w o k this]; exact hb k x hx
theorem Sat.below {w w' : World} {R : HP} (h : Sat w R) (hb : Below w.heap.size w w') : Sat w' R := by
  obtain ⟨b, hr, hs⟩ := h
  exact ⟨b, hr, fun k o hk => (hb.block k (Array.getElem?_eq_some_iff.1 (hs k o hk)).1).trans (hs k o hk)⟩
/-- New memory that a call made. -/
theorem Sat.fresh {w w' : World} {P R : HP} (h : Sat w R) (hb : Below w.heap.size w w') (a : Nat → Option Obj) (hp : P a) (ha : ∀ k o, a k = some o → w'.heap[k]? = some o) (hn : ∀ k, k < w.heap.size → a k = none) : Sat w' (P * R) := by
  obtain ⟨b, hr, hs⟩ := h
  refine Sat.of_parts hp hr (fun k => ?_) ha (fun k o hk => (hb.block k (Array.getElem?_eq_some_iff.1 (hs k o hk)).1).trans (hs k o hk))
  cases hbk : b k with
  | none => exact .inr rfl
  | some o' => exact .inl (hn k (Array.getElem?_eq_some_iff.1 (hs k o' hbk)).1)
theorem Sat.all_block {w0 w : World} {R : HP} (h : Sat w (allOf w0 * R)) (k : Nat) (hk : k < w0.heap.size) : w.heap[k]? = w0.heap[k]? := by
  obtain ⟨a, b, rfl, _, _, ha, _⟩ := h.parts
  cases hw : w0.heap[k]? with
  | none => rw [Array.getElem?_eq_none_iff] at hw; omega
  | some o => exact ha k o hw

/-- The streams are as they were; no block has gone. -/
abbrev Same (w w' : World) : Prop := Proofs.YtcmndglhileeoaaGreat.Kept (fun _ => True) w w'
theorem Same.refl (w : World) : Same w w := Proofs.YtcmndglhileeoaaGreat.Kept.refl _ _
theorem Same.then {a b c : World} (h : Same a b) (k : Same b c) : Same a c := Proofs.YtcmndglhileeoaaGreat.Kept.trans h k (fun _ _ _ => trivial)
theorem Same.of {S : Nat → Prop} {a b : World} (h : Proofs.YtcmndglhileeoaaGreat.Kept S a b) : Same a b := h.mono (fun _ _ _ => trivial)
theorem Same.below {B : Nat} {a b : World} (h : Below B a b) : Same a b := ⟨h.os, h.tape, h.output, h.size, fun _ _ h => absurd trivial h⟩
theorem Same.drew {a b : World} (h : Same a b) : Same a b.drew := ⟨h.os, h.tape, h.output, h.size, fun _ _ h => absurd trivial h⟩
theorem Same.drewN {a b : World} (n : Nat) (h : Same a b) : Same a (b.drewN n) := ⟨h.os, h.tape, h.output, h.size, fun _ _ h => absurd trivial h⟩
theorem Same.to_below {w0 w : World} {R : HP} (h : Same w0 w) (hs : Sat w (allOf w0 * R)) : Below w0.heap.size w0 w := ⟨h.os, h.tape, h.output, h.size, fun k hk => hs.all_block k hk⟩

/-- A part that is told by a world and a set of blocks. -/
def own (X : World → (Nat → Prop) → Prop) : HP := fun a => ∃ (w : World) (S : Nat → Prop), X w S ∧ (∀ k, S k → a k = w.heap[k]?) ∧ ∀ k, ¬ S k → a k = none
/-- It speaks of the blocks of its set alone. -/
def Lcl (X : World → (Nat → Prop) → Prop) : Prop := ∀ w w' S, X w S → (∀ k, S k → k < w.heap.size → w'.heap[k]? = w.heap[k]?) → X w' (fun k => S k ∧ k < w.heap.size)
theorem own_of {X : World → (Nat → Prop) → Prop} {w : World} {S : Nat → Prop} (h : X w S) : ∃ a, own X a ∧ (∀ k o, a k = some o → w.heap[k]? = some o) ∧ (∀ k, ¬ S k → a k = none) := by
  classical
  refine ⟨fun k => if S k then w.heap[k]? else none, ⟨w, S, h, fun k hk => if_pos hk, fun k hk => if_neg hk⟩, fun k o hk => ?_, fun k hk => if_neg hk⟩
  by_cases hs : S k
  · simp only [if_pos hs] at hk; exact hk
  · simp only [if_neg hs] at hk; cases hk
theorem own_get {X : World → (Nat → Prop) → Prop} (hl : Lcl X) {w : World} {a : Nat → Option Obj} (h : own X a) (ha : ∀ k o, a k = some o → w.heap[k]? = some o) : X w (fun k => ∃ o, a k = some o) := by
  obtain ⟨w1, S, hx, h1, h2⟩ := h
  have := hl w1 w S hx (fun k hk hlt => by
    have e := h1 k hk
    cases hw : w1.heap[k]? with
    | none => rw [Array.getElem?_eq_none_iff] at hw; omega
    | some o => rw [hw] at e; exact ha k o e)
  have e : (fun k => S k ∧ k < w1.heap.size) = (fun k => ∃ o, a k = some o) := by
    funext k
    refine propext ⟨fun ⟨hs, hlt⟩ => ?_, fun ⟨o, ho⟩ => ?_⟩
    · refine ⟨w1.heap[k], ?_⟩
      rw [h1 k hs]; simp [hlt]
    · by_cases hs : S k
      · rw [h1 k hs] at ho
        exact ⟨hs, (Array.getElem?_eq_some_iff.1 ho).1⟩
      · rw [h2 k hs] at ho; cases ho
  rw [e] at this
  exact this
theorem Sat.own_out {X : World → (Nat → Prop) → Prop} (hl : Lcl X) {w : World} {R : HP} (h : Sat w (own X * R)) :
    ∃ S, X w S ∧ (∀ k, S k → k < w.heap.size) ∧
      ∀ (w' : World) (Q : HP) (a' : Nat → Option Obj), (∀ k, k < w.heap.size → ¬ S k → w'.heap[k]? = w.heap[k]?) → Q a' → (∀ k o, a' k = some o → w'.heap[k]? = some o) → (∀ k, ¬ S k → k < w.heap.size → a' k = none) → Sat w' (Q * R) := by
  obtain ⟨a, b, hp, hr, hd, ha, hb⟩ := h.parts
  refine ⟨_, own_get hl hp ha, fun k ⟨o, ho⟩ => (Array.getElem?_eq_some_iff.1 (ha k o ho)).1, fun w' Q a' hk hq h1 h2 => ?_⟩
  have hlt : ∀ k o, b k = some o → k < w.heap.size := fun k o h => (Array.getElem?_eq_some_iff.1 (hb k o h)).1
  have hno : ∀ k o, b k = some o → ¬ ∃ o, a k = some o := fun k o h ⟨o', h'⟩ => by
    rcases hd k with d | d
    · rw [d] at h'; cases h'
    · rw [d] at h; cases h
  refine Sat.of_parts hq hr (fun k => ?_) h1 (fun k o h => ?_)
  · cases hbk : b k with
    | none => exact .inr rfl
    | some o => exact .inl (h2 k (hno k o hbk) (hlt k o hbk))
  · rw [hk k (hlt k o h) (hno k o h)]; exact hb k o h
/-- The same, behind a call that tells what it turned and where the new thing lies. -/
theorem Sat.own_turn {X : World → (Nat → Prop) → Prop} (hl : Lcl X) {w : World} {R : HP} (h : Sat w (own X * R)) :
    ∃ S, X w S ∧ (∀ k, S k → k < w.heap.size) ∧
      ∀ (w' : World) (Y : World → (Nat → Prop) → Prop) (S' : Nat → Prop), Proofs.YtcmndglhileeoaaGreat.Kept S w w' → Y w' S' → (∀ k, S' k → S k ∨ w.heap.size ≤ k) → Sat w' (own Y * R) := by
  obtain ⟨S, h1, h2, h3⟩ := h.own_out hl
  refine ⟨S, h1, h2, fun w' Y S' hk hy hs => ?_⟩
  obtain ⟨a, q1, q2, q3⟩ := own_of hy
  refine h3 w' (own Y) a (fun k hlt hn => hk.block k hlt hn) q1 q2 (fun k hn hlt => q3 k (fun hs' => ?_))
  rcases hs k hs' with e | e
  · exact hn e
  · omega
theorem Sat.own_new {Y : World → (Nat → Prop) → Prop} {w w' : World} {R : HP} (h : Sat w R) (hb : Below w.heap.size w w') (S' : Nat → Prop) (hy : Y w' S') (hs : ∀ k, S' k → w.heap.size ≤ k) : Sat w' (own Y * R) := by
  obtain ⟨a, q1, q2, q3⟩ := own_of hy
  exact h.fresh hb a q1 q2 (fun k hk => q3 k (fun e => by have := hs k e; omega))
/-- Two parts out of one that has both. -/
theorem Sat.own_two {X Y : World → (Nat → Prop) → Prop} {w : World} {R : HP} (h : Sat w (own (fun w S => ∃ A B : Nat → Prop, X w A ∧ Y w B ∧ (∀ k, A k → ¬ B k) ∧ (∀ k, A k → S k) ∧ (∀ k, B k → S k)) * R)) : Sat w (own X * (own Y * R)) := by
  classical
  obtain ⟨a, b, ⟨w1, S, ⟨A, B, hx, hy, hd, hA, hB⟩, h1, h2⟩, hr, hj, ha, hb⟩ := h.parts
  have e1 : ∀ k o, (if A k then w1.heap[k]? else none) = some o → a k = some o := fun k o hk => by
    by_cases hk' : A k
    · rw [if_pos hk'] at hk; rw [h1 k (hA k hk')]; exact hk
    · rw [if_neg hk'] at hk; cases hk
  have e2 : ∀ k o, (if B k then w1.heap[k]? else none) = some o → a k = some o := fun k o hk => by
    by_cases hk' : B k
    · rw [if_pos hk'] at hk; rw [h1 k (hB k hk')]; exact hk
    · rw [if_neg hk'] at hk; cases hk
  have j2 : ∀ k, (if B k then w1.heap[k]? else none) = none ∨ b k = none := fun k => by
    cases hk : (if B k then w1.heap[k]? else none) with
    | none => exact .inl rfl
    | some o => exact .inr ((hj k).resolve_left (by rw [e2 k o hk]; simp))
  refine Sat.of_parts (a := fun k => if A k then w1.heap[k]? else none) (b := fun k => (if B k then w1.heap[k]? else none).or (b k)) ⟨w1, A, hx, fun k hk => if_pos hk, fun k hk => if_neg hk⟩
    ⟨fun k => if B k then w1.heap[k]? else none, b, j2, rfl, ⟨w1, B, hy, fun k hk => if_pos hk, fun k hk => if_neg hk⟩, hr⟩ (fun k => ?_) (fun k o hk => ha k o (e1 k o hk)) (fun k o (hk : (if B k then w1.heap[k]? else none).or (b k) = some o) => ?_)
  · cases hk : (if A k then w1.heap[k]? else none) with
    | none => exact .inl rfl
    | some o =>
      right
      have hk' : A k := by
        by_cases h : A k
        · exact h
        · rw [if_neg h] at hk; cases hk
      rw [if_neg (hd k hk'), Option.none_or]
      exact (hj k).resolve_left (by rw [e1 k o hk]; simp)
  · cases hk2 : (if B k then w1.heap[k]? else none) with
    | none => rw [hk2, Option.none_or] at hk; exact hb k o hk
    | some o' => rw [hk2, Option.some_or] at hk; injection hk with hk; subst hk; exact ha k _ (e2 k _ hk2)

/-! ### rows -/
/-- A row of values of one cell each, of one's own (nil: none). -/
def rowX (e : TypeId) (v : Value) (vs : List Value) : World → (Nat → Prop) → Prop := fun w S => Proofs.YtcmndglhileeoaaGreat.OwnV w 0 e v vs ∧ ∀ k, v.ownBlock = some k → S k
def row (e : TypeId) (v : Value) (vs : List Value) : HP := own (rowX e v vs)
theorem row_loc (e : TypeId) (v : Value) (vs : List Value) : Lcl (rowX e v vs) := fun w w' S ⟨ho, hs⟩ hk =>
  ⟨ho.step fun k hk' hlt => hk k (hs k hk') hlt, fun k hk' => ⟨hs k hk', (ho.block k hk').2⟩⟩
theorem Sat.row_own {w : World} {e : TypeId} {v : Value} {vs : List Value} {R : HP} (h : Sat w (row e v vs * R)) : Proofs.YtcmndglhileeoaaGreat.OwnV w 0 e v vs := by
  obtain ⟨S, h1, _⟩ := Sat.own_out (row_loc e v vs) h
  exact h1.1
theorem Sat.row_turn {w w' : World} {e : TypeId} {v v' : Value} {vs vs' : List Value} {R : HP} (h : Sat w (row e v vs * R)) (hk : Proofs.YtcmndglhileeoaaGreat.Kept (fun k => v.ownBlock = some k) w w') (ho : Proofs.YtcmndglhileeoaaGreat.OwnV w' 0 e v' vs')
    (hl : ∀ k, v'.ownBlock = some k → v.ownBlock = some k ∨ w.heap.size ≤ k) : Sat w' (row e v' vs' * R) := by
  obtain ⟨S, h1, _, h3⟩ := Sat.own_turn (row_loc e v vs) h
  exact h3 w' (rowX e v' vs') (fun k => v'.ownBlock = some k) (hk.mono (fun i _ hi => h1.2 i hi)) ⟨ho, fun k hk => hk⟩ (fun k hk => (hl k hk).imp (h1.2 k) id)
theorem Sat.row_nil {w : World} {R : HP} (e : TypeId) (h : Sat w R) : Sat w (row e (.slice none 0 0) [] * R) :=
  h.own_new (Below.refl _ _) (fun _ => False) ⟨Proofs.YtcmndglhileeoaaGreat.OwnV.nil _ _ _, fun k hk => by simp [Value.ownBlock] at hk⟩ (fun _ h => h.elim)
theorem Sat.row_new {w w' : World} {e : TypeId} {v : Value} {vs : List Value} {R : HP} (h : Sat w R) (hb : Below w.heap.size w w') (ho : Proofs.YtcmndglhileeoaaGreat.OwnV w' 0 e v vs) (hl : ∀ k, v.ownBlock = some k → w.heap.size ≤ k) : Sat w' (row e v vs * R) :=
  h.own_new hb (fun k => v.ownBlock = some k) ⟨ho, fun k hk => hk⟩ hl

/-- A new block is a row. -/
theorem Sat.to_row {w : World} {g : Nat} {cs : Array Value} {e : TypeId} {R : HP} {vs : List Value} (h : Sat w (pt g (.cells cs e) * R)) (hv : cs.toList = vs) (hm : vs.length ≤ maxLen) : Sat w (row e (.slice (some ⟨g, 0, none⟩) vs.length vs.length) vs * R) := by
  subst hv
  have hg := h.heap
  refine h.imp (fun a ha => ⟨w, fun k => k = g, ⟨⟨by simp, .inr ⟨g, _, cs, rfl, Nat.zero_le _, hg, Nat.le_refl _, hm, by simp, by rw [Nat.mul_one]; exact List.take_length⟩⟩, fun k hk => ?_⟩, fun k hk => ?_, fun k hk => ?_⟩)
  · have : g = k := by simpa [Value.ownBlock] using hk
    exact this.symm
  · rw [pt_at ha, if_pos hk, hk, hg]
  · rw [pt_at ha, if_neg hk]

/-- Bytes that stand in a part of memory, wherever else it lies. -/
def RdIn (R : HP) (A : Option Addr) (vs : List Value) : Prop := ∀ w, Sat w R → Proofs.YtcmndglhileeoaaGreat.RdV w A vs
theorem RdIn.left {P R : HP} {A : Option Addr} {vs : List Value} (h : RdIn P A vs) : RdIn (P * R) A vs := fun w hw => h w hw.left
theorem RdIn.right {P R : HP} {A : Option Addr} {vs : List Value} (h : RdIn R A vs) : RdIn (P * R) A vs := fun w hw => h w hw.right
theorem RdIn.all {w : World} {A : Option Addr} {vs : List Value} (h : Proofs.YtcmndglhileeoaaGreat.RdV w A vs) : RdIn (allOf w) A vs := fun w' hw j u hu => by
  obtain ⟨ad, e, hc⟩ := h j u hu
  refine ⟨ad, e, ?_⟩
  rw [World.cell?_of_block (w := w)]
  · exact hc
  · exact (hw.one).all_block _ (World.block_lt_of_cell? w _ hc)
theorem RdIn.row {e : TypeId} {A : Option Addr} {n c : Nat} {vs : List Value} : RdIn (row e (.slice A n c) vs) A vs := fun w hw => by
  obtain ⟨A', c', he, _, _, hr⟩ := hw.one.row_own.shape
  injection he with h1 h2 h3
  subst h1
  exact hr
end Rv
