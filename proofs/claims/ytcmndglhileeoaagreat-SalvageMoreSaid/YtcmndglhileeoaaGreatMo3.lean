/- A part of the proof (RowMore): its texts in a row: Sep, SepR, Row, Policy, Policy2, Right, Right2, SepB. Each text's own remark stands at its head. -/
import Derived.Test.YtcmndglhileeoaaGreatMo2
import Derived.Deep.Draws
import Derived.Test.YtcmndglhileeoaaGreatRows
import Derived.ProofKit
import Derived.OpenShut
import Derived.ShutString
import Derived.ChangeOld
import Derived.Below
import Derived.SizedLaws
import Derived.ChangeSlices
import Derived.Deep.Cut
import Derived.Deep.WholeRow
import Derived.RegionTactic
import Derived.KernelRfl
import Derived.BigQuiet
import Derived.Deep.QuietTactic
import Derived.Lib.AppendStr
/- A logic of parts of memory: what stands in which part, parts beside one another, what a call may turn. No program. -/
set_option linter.unusedSimpArgs false
set_option linter.unusedVariables false
namespace Rv
open Go Go.RowKit

/-- What may be said of a part of memory. -/
def HP : Type := (Nat → Option Obj) → Prop
def HP.star (P Q : HP) : HP := fun h => ∃ a b : Nat → Option Obj, (∀ k, a k = none ∨ b k = none) ∧ h = (fun k => (a k).or (b k)) ∧ P a ∧ Q b
instance : Mul HP := ⟨HP.star⟩
def HP.emp : HP := fun h => h = fun _ => none
instance : OfNat HP 1 := ⟨HP.emp⟩

theorem or_none' {α : Type} (x : Option α) : x.or none = x := by cases x <;> rfl
theorem star_comm (P Q : HP) : P * Q = Q * P := by
  funext h
  refine propext ⟨?_, ?_⟩ <;>
  · rintro ⟨a, b, hd, rfl, hp, hq⟩
    refine ⟨b, a, fun k => (hd k).symm, ?_, hq, hp⟩
    funext k
    rcases hd k with e | e <;> rw [e] <;> simp
theorem star_assoc1 {P Q R : HP} {h : Nat → Option Obj} (hh : (P * Q * R) h) : (P * (Q * R)) h := by
  obtain ⟨ab, c, hd, rfl, ⟨a, b, he, rfl, hp, hq⟩, hr⟩ := hh
  refine ⟨a, fun k => (b k).or (c k), fun k => ?_, ?_, hp, b, c, fun k => ?_, rfl, hq, hr⟩
  · rcases he k with e | e
    · exact .inl e
    · rcases hd k with d | d
      · left; cases ha : a k <;> simp_all
      · right; simp [e, d]
  · funext k; exact Option.or_assoc
  · rcases hd k with d | d
    · left; cases ha : a k <;> simp_all
    · exact .inr d
theorem star_assoc (P Q R : HP) : P * Q * R = P * (Q * R) := by
  funext h
  refine propext ⟨star_assoc1, fun hh => ?_⟩
  rw [star_comm] at hh
  have h1 := star_assoc1 hh
  rw [star_comm] at h1
  have h2 := star_assoc1 h1
  rw [star_comm] at h2
  exact h2
instance : Std.Associative (α := HP) (· * ·) := ⟨star_assoc⟩
instance : Std.Commutative (α := HP) (· * ·) := ⟨star_comm⟩
theorem star_one (P : HP) : P * 1 = P := by
  funext h
  refine propext ⟨?_, fun hp => ⟨h, fun _ => none, fun k => .inr rfl, ?_, hp, rfl⟩⟩
  · rintro ⟨a, b, hd, rfl, hp, rfl⟩
    have : (fun k => (a k).or none) = a := by funext k; simp
    rw [this]; exact hp
  · funext k; simp
theorem one_star (P : HP) : 1 * P = P := by rw [star_comm, star_one]

/-- Memory has such parts (and maybe more). -/
def Sat (w : World) (P : HP) : Prop := ∃ h, P h ∧ ∀ k o, h k = some o → w.heap[k]? = some o
theorem Sat.perm {w : World} {P Q : HP} (h : Sat w P) (e : P = Q) : Sat w Q := e ▸ h
theorem Sat.drew {w : World} {P : HP} (h : Sat w P) : Sat w.drew P := h
theorem Sat.drewN {w : World} {P : HP} (n : Nat) (h : Sat w P) : Sat (w.drewN n) P := h
theorem Sat.imp {w : World} {P Q R : HP} (h : Sat w (P * R)) (hi : ∀ a, P a → Q a) : Sat w (Q * R) := by
  obtain ⟨_, ⟨a, b, hd, rfl, hp, hr⟩, hs⟩ := h
  exact ⟨_, ⟨a, b, hd, rfl, hi a hp, hr⟩, hs⟩
theorem Sat.parts {w : World} {P R : HP} (h : Sat w (P * R)) : ∃ a b : Nat → Option Obj, P a ∧ R b ∧ (∀ k, a k = none ∨ b k = none) ∧ (∀ k o, a k = some o → w.heap[k]? = some o) ∧ (∀ k o, b k = some o → w.heap[k]? = some o) := by
  obtain ⟨_, ⟨a, b, hd, rfl, hp, hr⟩, hs⟩ := h
  refine ⟨a, b, hp, hr, hd, fun k o h => hs k o (by simp only [h, Option.some_or]), fun k o h => hs k o ?_⟩
  rcases hd k with d | d
  · simp only [d, h, Option.none_or]
  · rw [d] at h; cases h
theorem Sat.of_parts {w : World} {P R : HP} {a b : Nat → Option Obj} (hp : P a) (hr : R b) (hd : ∀ k, a k = none ∨ b k = none) (ha : ∀ k o, a k = some o → w.heap[k]? = some o) (hb : ∀ k o, b k = some o → w.heap[k]? = some o) : Sat w (P * R) := by
  refine ⟨_, ⟨a, b, hd, rfl, hp, hr⟩, fun k o (h : (a k).or (b k) = some o) => ?_⟩
  cases hk : a k with
  | none => rw [hk, Option.none_or] at h; exact hb k o h
  | some o' => rw [hk, Option.some_or] at h; injection h with h; subst h; exact ha k _ hk
theorem Sat.left {w : World} {P R : HP} (h : Sat w (P * R)) : Sat w P := let ⟨a, _, hp, _, _, ha, _⟩ := h.parts; ⟨a, hp, ha⟩
theorem Sat.right {w : World} {P R : HP} (h : Sat w (P * R)) : Sat w R := (h.perm (star_comm _ _)).left
theorem Sat.one {w : World} {P : HP} (h : Sat w P) : Sat w (P * 1) := by rw [star_one]; exact h

theorem Sat.swap {w : World} {A B R : HP} (h : Sat w (A * (B * R))) : Sat w (B * (A * R)) := h.perm (by ac_rfl)
theorem Sat.drop2 {w : World} {A B R : HP} (h : Sat w (A * (B * R))) : Sat w (A * R) := h.swap.right
theorem Sat.drop3 {w : World} {A B C R : HP} (h : Sat w (A * (B * (C * R)))) : Sat w (A * (B * R)) := (h.perm (show A * (B * (C * R)) = C * (A * (B * R)) by ac_rfl)).right
theorem Sat.third {w : World} {A B C R : HP} (h : Sat w (A * (B * (C * R)))) : Sat w (C * (A * (B * R))) := h.perm (by ac_rfl)
theorem Sat.fourth {w : World} {A B C D R : HP} (h : Sat w (A * (B * (C * (D * R))))) : Sat w (D * (A * (B * (C * R)))) := h.perm (by ac_rfl)
/-- A step that turned only blocks of the first part. -/
theorem Sat.turn {w w' : World} {P Q R : HP} (h : Sat w (P * R))
    (hq : ∀ a, P a → (∀ k o, a k = some o → w.heap[k]? = some o) → (∀ k, k < w.heap.size → a k = none → w'.heap[k]? = w.heap[k]?) ∧ ∃ a', Q a' ∧ (∀ k o, a' k = some o → w'.heap[k]? = some o) ∧ (∀ k, a k = none → k < w.heap.size → a' k = none)) : Sat w' (Q * R) := by
  obtain ⟨a, b, hp, hr, hd, ha, hb⟩ := h.parts
  obtain ⟨hk, a', q, h1, h2⟩ := hq a hp ha
  have hlt : ∀ k o, b k = some o → k < w.heap.size := fun k o h => (Array.getElem?_eq_some_iff.1 (hb k o h)).1
  refine Sat.of_parts q hr (fun k => ?_) h1 (fun k o h => ?_)
  · cases hbk : b k with
    | none => exact .inr rfl
    | some o => exact .inl (h2 k ((hd k).resolve_right (by rw [hbk]; simp)) (hlt k o hbk))
  · rw [hk k (hlt k o h) ((hd k).resolve_right (by rw [h]; simp))]
    exact hb k o h

/-- One block. -/
def pt (g : Nat) (o : Obj) : HP := fun h => h = fun k => if k = g then some o else none
theorem pt_at {g : Nat} {o : Obj} {a : Nat → Option Obj} (h : pt g o a) (k : Nat) : a k = if k = g then some o else none := congrFun h k
/-- All memory as it is now. -/
def allOf (w : World) : HP := fun h => h = fun k => w.heap[k]?
theorem sat_all (w : World) : Sat w (allOf w) := ⟨_, rfl, fun _ _ h => h⟩

theorem Sat.heap {w : World} {g : Nat} {o : Obj} {R : HP} (h : Sat w (pt g o * R)) : w.heap[g]? = some o := by
  obtain ⟨a, b, hp, _, _, ha, _⟩ := h.parts
  exact ha g o (by rw [pt_at hp, if_pos rfl])
theorem Sat.lt {w : World} {g : Nat} {o : Obj} {R : HP} (h : Sat w (pt g o * R)) : g < w.heap.size := (Array.getElem?_eq_some_iff.1 h.heap).1
theorem Sat.ne {w : World} {g g' : Nat} {o o' : Obj} {R : HP} (h : Sat w (pt g o * (pt g' o' * R))) : g ≠ g' := by
  obtain ⟨a, b, hp, ⟨c, d, _, rfl, hc, _⟩, hd, _, _⟩ := h.parts
  rintro rfl
  have := hd g
  simp only at this
  rw [pt_at hp, if_pos rfl, pt_at hc, if_pos rfl] at this
  simp at this
theorem Sat.put {w w' : World} {g : Nat} {o o' : Obj} {R : HP} (h : Sat w (pt g o * R)) (hg : w'.heap[g]? = some o') (hk : ∀ k, k ≠ g → w'.heap[k]? = w.heap[k]?) : Sat w' (pt g o' * R) := by
  refine h.turn fun a hp ha => ⟨fun k hlt hn => hk k (fun e => ?_), _, rfl, fun k x hx => ?_, fun k hn hlt => ?_⟩
  · rw [pt_at hp, if_pos e] at hn; cases hn
  · by_cases e : k = g
    · rw [if_pos e] at hx; injection hx with hx; subst hx; rw [e]; exact hg
    · rw [if_neg e] at hx; cases hx
  · refine if_neg (fun e => ?_)
    rw [pt_at hp, if_pos e] at hn; cases hn
theorem Sat.setCell {w : World} {g i : Nat} {cs : Array Value} {t : TypeId} {m : Nat × Nat} {R : HP} (h : Sat w (pt g (.cells cs t m) * R)) (v : Value) : Sat (w.setCell ⟨g, i, none⟩ v) (pt g (.cells (cs.setIfInBounds i v) t m) * R) :=
  h.put (Proofs.YtcmndglhileeoaaGreat.set_at h.heap i v) (fun k hk => Proofs.YtcmndglhileeoaaGreat.set_off i v hk)
theorem Sat.alloc {w : World} {R : HP} (h : Sat w R) (o : Obj) : Sat (w.alloc o) (pt w.heap.size o * R) := by
  obtain ⟨b, hr, hb⟩ := h
  refine Sat.of_parts rfl hr (fun k => ?_) (fun k x hx => ?_) (fun k x hx => ?_)
  · cases hbk : b k with
    | none => exact .inr rfl
    | some o' => exact .inl (if_neg (fun e => by have := (Array.getElem?_eq_some_iff.1 (hb k o' hbk)).1; omega))
  · by_cases e : k = w.heap.size
    · rw [if_pos e] at hx; injection hx with hx; subst hx; rw [e]; exact heap_alloc_new w _
    · rw [if_neg e] at hx; cases hx
  · have := (Array.getElem?_eq_some_iff.1 (hb k x hx)).1
    rw [Below.heap_alloc w o k this]; exact hb k x hx
theorem Sat.below {w w' : World} {R : HP} (h : Sat w R) (hb : Below w.heap.size w w') : Sat w' R := by
  obtain ⟨b, hr, hs⟩ := h
  exact ⟨b, hr, fun k o hk => (hb.block k (Array.getElem?_eq_some_iff.1 (hs k o hk)).1).trans (hs k o hk)⟩
/-- New memory that a call made. -/
theorem Sat.fresh {w w' : World} {P R : HP} (h : Sat w R) (hb : Below w.heap.size w w') (a : Nat → Option Obj) (hp : P a) (ha : ∀ k o, a k = some o → w'.heap[k]? = some o) (hn : ∀ k, k < w.heap.size → a k = none) : Sat w' (P * R) := by
  obtain ⟨b, hr, hs⟩ := h
  refine Sat.of_parts hp hr (fun k => ?_) ha (fun k o hk => (hb.block k (Array.getElem?_eq_some_iff.1 (hs k o hk)).1).trans (hs k o hk))
  cases hbk : b k with
  | none => exact .inr rfl
  | some o' => exact .inl (hn k (Array.getElem?_eq_some_iff.1 (hs k o' hbk)).1)
theorem Sat.all_block {w0 w : World} {R : HP} (h : Sat w (allOf w0 * R)) (k : Nat) (hk : k < w0.heap.size) : w.heap[k]? = w0.heap[k]? := by
  obtain ⟨a, b, rfl, _, _, ha, _⟩ := h.parts
  cases hw : w0.heap[k]? with
  | none => rw [Array.getElem?_eq_none_iff] at hw; omega
  | some o => exact ha k o hw

/-- The streams are as they were; no block has gone. -/
abbrev Same (w w' : World) : Prop := Proofs.YtcmndglhileeoaaGreat.Kept (fun _ => True) w w'
theorem Same.refl (w : World) : Same w w := Proofs.YtcmndglhileeoaaGreat.Kept.refl _ _
theorem Same.then {a b c : World} (h : Same a b) (k : Same b c) : Same a c := Proofs.YtcmndglhileeoaaGreat.Kept.trans h k (fun _ _ _ => trivial)
theorem Same.of {S : Nat → Prop} {a b : World} (h : Proofs.YtcmndglhileeoaaGreat.Kept S a b) : Same a b := h.mono (fun _ _ _ => trivial)
theorem Same.below {B : Nat} {a b : World} (h : Below B a b) : Same a b := ⟨h.os, h.tape, h.output, h.size, fun _ _ h => absurd trivial h⟩
theorem Same.drew {a b : World} (h : Same a b) : Same a b.drew := ⟨h.os, h.tape, h.output, h.size, fun _ _ h => absurd trivial h⟩
theorem Same.drewN {a b : World} (n : Nat) (h : Same a b) : Same a (b.drewN n) := ⟨h.os, h.tape, h.output, h.size, fun _ _ h => absurd trivial h⟩
theorem Same.to_below {w0 w : World} {R : HP} (h : Same w0 w) (hs : Sat w (allOf w0 * R)) : Below w0.heap.size w0 w := ⟨h.os, h.tape, h.output, h.size, fun k hk => hs.all_block k hk⟩

/-- A part that is told by a world and a set of blocks. -/
def own (X : World → (Nat → Prop) → Prop) : HP := fun a => ∃ (w : World) (S : Nat → Prop), X w S ∧ (∀ k, S k → a k = w.heap[k]?) ∧ ∀ k, ¬ S k → a k = none
/-- It speaks of the blocks of its set alone. -/
def Lcl (X : World → (Nat → Prop) → Prop) : Prop := ∀ w w' S, X w S → (∀ k, S k → k < w.heap.size → w'.heap[k]? = w.heap[k]?) → X w' (fun k => S k ∧ k < w.heap.size)
theorem own_of {X : World → (Nat → Prop) → Prop} {w : World} {S : Nat → Prop} (h : X w S) : ∃ a, own X a ∧ (∀ k o, a k = some o → w.heap[k]? = some o) ∧ (∀ k, ¬ S k → a k = none) := by
  classical
  refine ⟨fun k => if S k then w.heap[k]? else none, ⟨w, S, h, fun k hk => if_pos hk, fun k hk => if_neg hk⟩, fun k o hk => ?_, fun k hk => if_neg hk⟩
  by_cases hs : S k
  · simp only [if_pos hs] at hk; exact hk
  · simp only [if_neg hs] at hk; cases hk
theorem own_get {X : World → (Nat → Prop) → Prop} (hl : Lcl X) {w : World} {a : Nat → Option Obj} (h : own X a) (ha : ∀ k o, a k = some o → w.heap[k]? = some o) : X w (fun k => ∃ o, a k = some o) := by
  obtain ⟨w1, S, hx, h1, h2⟩ := h
  have := hl w1 w S hx (fun k hk hlt => by
    have e := h1 k hk
    cases hw : w1.heap[k]? with
    | none => rw [Array.getElem?_eq_none_iff] at hw; omega
    | some o => rw [hw] at e; exact ha k o e)
  have e : (fun k => S k ∧ k < w1.heap.size) = (fun k => ∃ o, a k = some o) := by
    funext k
    refine propext ⟨fun ⟨hs, hlt⟩ => ?_, fun ⟨o, ho⟩ => ?_⟩
    · refine ⟨w1.heap[k], ?_⟩
      rw [h1 k hs]; simp [hlt]
    · by_cases hs : S k
      · rw [h1 k hs] at ho
        exact ⟨hs, (Array.getElem?_eq_some_iff.1 ho).1⟩
      · rw [h2 k hs] at ho; cases ho
  rw [e] at this
  exact this
theorem Sat.own_out {X : World → (Nat → Prop) → Prop} (hl : Lcl X) {w : World} {R : HP} (h : Sat w (own X * R)) :
    ∃ S, X w S ∧ (∀ k, S k → k < w.heap.size) ∧
      ∀ (w' : World) (Q : HP) (a' : Nat → Option Obj), (∀ k, k < w.heap.size → ¬ S k → w'.heap[k]? = w.heap[k]?) → Q a' → (∀ k o, a' k = some o → w'.heap[k]? = some o) → (∀ k, ¬ S k → k < w.heap.size → a' k = none) → Sat w' (Q * R) := by
  obtain ⟨a, b, hp, hr, hd, ha, hb⟩ := h.parts
  refine ⟨_, own_get hl hp ha, fun k ⟨o, ho⟩ => (Array.getElem?_eq_some_iff.1 (ha k o ho)).1, fun w' Q a' hk hq h1 h2 => ?_⟩
  have hlt : ∀ k o, b k = some o → k < w.heap.size := fun k o h => (Array.getElem?_eq_some_iff.1 (hb k o h)).1
  have hno : ∀ k o, b k = some o → ¬ ∃ o, a k = some o := fun k o h ⟨o', h'⟩ => by
    rcases hd k with d | d
    · rw [d] at h'; cases h'
    · rw [d] at h; cases h
  refine Sat.of_parts hq hr (fun k => ?_) h1 (fun k o h => ?_)
  · cases hbk : b k with
    | none => exact .inr rfl
    | some o => exact .inl (h2 k (hno k o hbk) (hlt k o hbk))
  · rw [hk k (hlt k o h) (hno k o h)]; exact hb k o h
/-- The same, behind a call that tells what it turned and where the new thing lies. -/
theorem Sat.own_turn {X : World → (Nat → Prop) → Prop} (hl : Lcl X) {w : World} {R : HP} (h : Sat w (own X * R)) :
    ∃ S, X w S ∧ (∀ k, S k → k < w.heap.size) ∧
      ∀ (w' : World) (Y : World → (Nat → Prop) → Prop) (S' : Nat → Prop), Proofs.YtcmndglhileeoaaGreat.Kept S w w' → Y w' S' → (∀ k, S' k → S k ∨ w.heap.size ≤ k) → Sat w' (own Y * R) := by
  obtain ⟨S, h1, h2, h3⟩ := h.own_out hl
  refine ⟨S, h1, h2, fun w' Y S' hk hy hs => ?_⟩
  obtain ⟨a, q1, q2, q3⟩ := own_of hy
  refine h3 w' (own Y) a (fun k hlt hn => hk.block k hlt hn) q1 q2 (fun k hn hlt => q3 k (fun hs' => ?_))
  rcases hs k hs' with e | e
  · exact hn e
  · omega
theorem Sat.own_new {Y : World → (Nat → Prop) → Prop} {w w' : World} {R : HP} (h : Sat w R) (hb : Below w.heap.size w w') (S' : Nat → Prop) (hy : Y w' S') (hs : ∀ k, S' k → w.heap.size ≤ k) : Sat w' (own Y * R) := by
  obtain ⟨a, q1, q2, q3⟩ := own_of hy
  exact h.fresh hb a q1 q2 (fun k hk => q3 k (fun e => by have := hs k e; omega))
/-- Two parts out of one that has both. -/
theorem Sat.own_two {X Y : World → (Nat → Prop) → Prop} {w : World} {R : HP} (h : Sat w (own (fun w S => ∃ A B : Nat → Prop, X w A ∧ Y w B ∧ (∀ k, A k → ¬ B k) ∧ (∀ k, A k → S k) ∧ (∀ k, B k → S k)) * R)) : Sat w (own X * (own Y * R)) := by
  classical
  obtain ⟨a, b, ⟨w1, S, ⟨A, B, hx, hy, hd, hA, hB⟩, h1, h2⟩, hr, hj, ha, hb⟩ := h.parts
  have e1 : ∀ k o, (if A k then w1.heap[k]? else none) = some o → a k = some o := fun k o hk => by
    by_cases hk' : A k
    · rw [if_pos hk'] at hk; rw [h1 k (hA k hk')]; exact hk
    · rw [if_neg hk'] at hk; cases hk
  have e2 : ∀ k o, (if B k then w1.heap[k]? else none) = some o → a k = some o := fun k o hk => by
    by_cases hk' : B k
    · rw [if_pos hk'] at hk; rw [h1 k (hB k hk')]; exact hk
    · rw [if_neg hk'] at hk; cases hk
  have j2 : ∀ k, (if B k then w1.heap[k]? else none) = none ∨ b k = none := fun k => by
    cases hk : (if B k then w1.heap[k]? else none) with
    | none => exact .inl rfl
    | some o => exact .inr ((hj k).resolve_left (by rw [e2 k o hk]; simp))
  refine Sat.of_parts (a := fun k => if A k then w1.heap[k]? else none) (b := fun k => (if B k then w1.heap[k]? else none).or (b k)) ⟨w1, A, hx, fun k hk => if_pos hk, fun k hk => if_neg hk⟩
    ⟨fun k => if B k then w1.heap[k]? else none, b, j2, rfl, ⟨w1, B, hy, fun k hk => if_pos hk, fun k hk => if_neg hk⟩, hr⟩ (fun k => ?_) (fun k o hk => ha k o (e1 k o hk)) (fun k o (hk : (if B k then w1.heap[k]? else none).or (b k) = some o) => ?_)
  · cases hk : (if A k then w1.heap[k]? else none) with
    | none => exact .inl rfl
    | some o =>
      right
      have hk' : A k := by
        by_cases h : A k
        · exact h
        · rw [if_neg h] at hk; cases hk
      rw [if_neg (hd k hk'), Option.none_or]
      exact (hj k).resolve_left (by rw [e1 k o hk]; simp)
  · cases hk2 : (if B k then w1.heap[k]? else none) with
    | none => rw [hk2, Option.none_or] at hk; exact hb k o hk
    | some o' => rw [hk2, Option.some_or] at hk; injection hk with hk; subst hk; exact ha k _ (e2 k _ hk2)

/-! ### rows -/
/-- A row of values of one cell each, of one's own (nil: none). -/
def rowX (e : TypeId) (v : Value) (vs : List Value) : World → (Nat → Prop) → Prop := fun w S => Proofs.YtcmndglhileeoaaGreat.OwnV w 0 e v vs ∧ ∀ k, v.ownBlock = some k → S k
def row (e : TypeId) (v : Value) (vs : List Value) : HP := own (rowX e v vs)
theorem row_loc (e : TypeId) (v : Value) (vs : List Value) : Lcl (rowX e v vs) := fun w w' S ⟨ho, hs⟩ hk =>
  ⟨ho.step fun k hk' hlt => hk k (hs k hk') hlt, fun k hk' => ⟨hs k hk', (ho.block k hk').2⟩⟩
theorem Sat.row_own {w : World} {e : TypeId} {v : Value} {vs : List Value} {R : HP} (h : Sat w (row e v vs * R)) : Proofs.YtcmndglhileeoaaGreat.OwnV w 0 e v vs := by
  obtain ⟨S, h1, _⟩ := Sat.own_out (row_loc e v vs) h
  exact h1.1
theorem Sat.row_turn {w w' : World} {e : TypeId} {v v' : Value} {vs vs' : List Value} {R : HP} (h : Sat w (row e v vs * R)) (hk : Proofs.YtcmndglhileeoaaGreat.Kept (fun k => v.ownBlock = some k) w w') (ho : Proofs.YtcmndglhileeoaaGreat.OwnV w' 0 e v' vs')
    (hl : ∀ k, v'.ownBlock = some k → v.ownBlock = some k ∨ w.heap.size ≤ k) : Sat w' (row e v' vs' * R) := by
  obtain ⟨S, h1, _, h3⟩ := Sat.own_turn (row_loc e v vs) h
  exact h3 w' (rowX e v' vs') (fun k => v'.ownBlock = some k) (hk.mono (fun i _ hi => h1.2 i hi)) ⟨ho, fun k hk => hk⟩ (fun k hk => (hl k hk).imp (h1.2 k) id)
theorem Sat.row_nil {w : World} {R : HP} (e : TypeId) (h : Sat w R) : Sat w (row e (.slice none 0 0) [] * R) :=
  h.own_new (Below.refl _ _) (fun _ => False) ⟨Proofs.YtcmndglhileeoaaGreat.OwnV.nil _ _ _, fun k hk => by simp [Value.ownBlock] at hk⟩ (fun _ h => h.elim)
theorem Sat.row_new {w w' : World} {e : TypeId} {v : Value} {vs : List Value} {R : HP} (h : Sat w R) (hb : Below w.heap.size w w') (ho : Proofs.YtcmndglhileeoaaGreat.OwnV w' 0 e v vs) (hl : ∀ k, v.ownBlock = some k → w.heap.size ≤ k) : Sat w' (row e v vs * R) :=
  h.own_new hb (fun k => v.ownBlock = some k) ⟨ho, fun k hk => hk⟩ hl

/-- A new block is a row. -/
theorem Sat.to_row {w : World} {g : Nat} {cs : Array Value} {e : TypeId} {R : HP} {vs : List Value} (h : Sat w (pt g (.cells cs e) * R)) (hv : cs.toList = vs) (hm : vs.length ≤ maxLen) : Sat w (row e (.slice (some ⟨g, 0, none⟩) vs.length vs.length) vs * R) := by
  subst hv
  have hg := h.heap
  refine h.imp (fun a ha => ⟨w, fun k => k = g, ⟨⟨by simp, .inr ⟨g, _, cs, rfl, Nat.zero_le _, hg, Nat.le_refl _, hm, by simp, by rw [Nat.mul_one]; exact List.take_length⟩⟩, fun k hk => ?_⟩, fun k hk => ?_, fun k hk => ?_⟩)
  · have : g = k := by simpa [Value.ownBlock] using hk
    exact this.symm
  · rw [pt_at ha, if_pos hk, hk, hg]
  · rw [pt_at ha, if_neg hk]

/-- Bytes that stand in a part of memory, wherever else it lies. -/
def RdIn (R : HP) (A : Option Addr) (vs : List Value) : Prop := ∀ w, Sat w R → Proofs.YtcmndglhileeoaaGreat.RdV w A vs
theorem RdIn.left {P R : HP} {A : Option Addr} {vs : List Value} (h : RdIn P A vs) : RdIn (P * R) A vs := fun w hw => h w hw.left
theorem RdIn.right {P R : HP} {A : Option Addr} {vs : List Value} (h : RdIn R A vs) : RdIn (P * R) A vs := fun w hw => h w hw.right
theorem RdIn.all {w : World} {A : Option Addr} {vs : List Value} (h : Proofs.YtcmndglhileeoaaGreat.RdV w A vs) : RdIn (allOf w) A vs := fun w' hw j u hu => by
  obtain ⟨ad, e, hc⟩ := h j u hu
  refine ⟨ad, e, ?_⟩
  rw [World.cell?_of_block (w := w)]
  · exact hc
  · exact (hw.one).all_block _ (World.block_lt_of_cell? w _ hc)
theorem RdIn.row {e : TypeId} {A : Option Addr} {n c : Nat} {vs : List Value} : RdIn (row e (.slice A n c) vs) A vs := fun w hw => by
  obtain ⟨A', c', he, _, _, hr⟩ := hw.one.row_own.shape
  injection he with h1 h2 h3
  subst h1
  exact hr
end Rv

/- Contracts of packages dict and record over parts of memory. -/
set_option linter.unusedSimpArgs false
set_option linter.unusedVariables false
namespace Go.Proofs.YtcmndglhileeoaaGreat
open Go.RowKit
open Rv (HP Sat Same pt allOf sat_all RdIn row own Lcl)

theorem DictAt.loc (g : Nat) (d : Rv.Dict) : Lcl (fun w S => DictAt w S g d) := by
  intro w w' S h hk
  obtain ⟨ok, kv, bm, ov, es, clock, h1, h2, h3, h4, h5, h6, h7, h8, h9, h10⟩ := h
  have l1 := (Array.getElem?_eq_some_iff.1 h1).1
  have l4 := (Array.getElem?_eq_some_iff.1 h4).1
  refine ⟨ok, kv, bm, ov, es, clock, (hk g h7 l1).trans h1, h2.step fun k e l => hk k (h9 k e) l, h3.step fun k e l => hk k (h10 k e) l, (hk bm h8 l4).trans h4, h5, h6, ⟨h7, l1⟩, ⟨h8, l4⟩, fun k e => ⟨h9 k e, (h2.block k e).2⟩, fun k e => ⟨h10 k e, (h3.block k e).2⟩⟩
theorem CoderAt.loc (g : Nat) (c : Rv.Coder) : Lcl (fun w S => CoderAt w S g c) := by
  intro w w' S h hk
  obtain ⟨ok, hg, gd, h1, h2⟩ := h
  have l1 := (Array.getElem?_eq_some_iff.1 h1).1
  refine ⟨ok, ⟨hg, l1⟩, gd, (hk g hg l1).trans h1, ?_⟩
  refine (DictAt.loc gd c.d w w' _ h2 (fun k hk' l => hk k hk'.1 l)).mono (fun i _ h => ⟨⟨h.1.1, h.2⟩, h.1.2⟩)

def dictP (g : Nat) (d : Rv.Dict) : HP := own (fun w S => DictAt w S g d)
def coderP (g : Nat) (c : Rv.Coder) : HP := own (fun w S => CoderAt w S g c)
def bytesP (v : Value) (xs : List UInt8) : HP := row 5 v (u8s xs)

theorem coderP_ok {w : World} {R : HP} {g : Nat} {c : Rv.Coder} (h : Sat w (coderP g c * R)) : COk c ∧ DOk c.d ∧ g < w.heap.size := by
  obtain ⟨S, h1, h2, _⟩ := Rv.Sat.own_turn (CoderAt.loc g c) h
  obtain ⟨ok, hg, gd, q1, q2⟩ := h1
  exact ⟨ok, q2.1, h2 g hg⟩

/-- Put, of a record that may be and does not fall. -/
theorem sput_ok (w : World) (R : HP) (g : Nat) (c : Rv.Coder) (r : Rv.Rec) (h : Sat w (coderP g c * R)) (hr : r.right = 0) (ht : c.tick ≤ r.tick) :
    Calls Tryz.prog 23 #[.pointer (some ⟨g, 0, none⟩), .agg #[.int .i64 r.tick, .string r.key, .int .i64 r.cost, .int .i64 r.verdict]] w fun e w' =>
      ∃ B C, e = .returned (.tuple #[.slice B (c.put r).2.length C, .int .i64 0]) ∧ Sat w' (bytesP (.slice B (c.put r).2.length C) (c.put r).2 * (coderP g (c.put r).1 * R)) ∧ Same w w' := by
  obtain ⟨S, h1, h2, h3⟩ := Rv.Sat.own_turn (CoderAt.loc g c) h
  refine (cput_ok w S g c r h1 h2 hr ht).mono ?_
  rintro e w' ⟨B, C, S', rfl, o, cd, mv, hd⟩
  refine ⟨B, C, rfl, ?_, Same.of mv.1⟩
  refine Rv.Sat.own_two (h3 w' (fun w S => ∃ A B' : Nat → Prop, Rv.rowX 5 (.slice B (c.put r).2.length C) (u8s (c.put r).2) w A ∧ CoderAt w B' g (c.put r).1 ∧ (∀ k, A k → ¬ B' k) ∧ (∀ k, A k → S k) ∧ (∀ k, B' k → S k))
    (fun k => (Value.slice B (c.put r).2.length C).ownBlock = some k ∨ S' k) mv.1 ?_ ?_)
  · exact ⟨fun k => (Value.slice B (c.put r).2.length C).ownBlock = some k, S', ⟨(o.mono (Nat.zero_le _)).toV, fun k hk => hk⟩, cd, hd, fun k hk => .inl hk, fun k hk => .inr hk⟩
  · rintro k (hk | hk)
    · exact .inr (o.toV.block k hk).1
    · exact (mv.2 k hk).1
theorem sput_bad (w : World) (R : HP) (g : Nat) (c : Rv.Coder) (r : Rv.Rec) (h : Sat w (coderP g c * R)) (hr : c.putE r ≠ 0) :
    Calls Tryz.prog 23 #[.pointer (some ⟨g, 0, none⟩), .agg #[.int .i64 r.tick, .string r.key, .int .i64 r.cost, .int .i64 r.verdict]] w fun e w' => e = .returned (.tuple #[.slice none 0 0, .int .i64 (c.putE r)]) ∧ Below w.heap.size w w' := by
  obtain ⟨S, h1, h2, h3⟩ := Rv.Sat.own_turn (CoderAt.loc g c) h
  unfold Rv.Coder.putE at hr ⊢
  by_cases h0 : r.right = 0
  · rw [if_neg (by omega)] at hr ⊢
    by_cases ht : r.tick < c.tick
    · rw [if_pos ht]; exact cput_back w S g c r h1 h0 ht
    · rw [if_neg ht] at hr; exact absurd rfl hr
  · rw [if_pos h0]; exact cput_wrong w S g c r h1 h0
theorem sclone (w : World) (R : HP) (g : Nat) (c : Rv.Coder) (h : Sat w (coderP g c * R)) :
    Calls Tryz.prog 22 #[.pointer (some ⟨g, 0, none⟩)] w fun e w' => ∃ g', e = .returned (.pointer (some ⟨g', 0, none⟩)) ∧ Sat w' (coderP g' c * (coderP g c * R)) ∧ Below w.heap.size w w' := by
  obtain ⟨S, h1, h2, h3⟩ := Rv.Sat.own_turn (CoderAt.loc g c) h
  refine (cclone_any w S g c h1).mono ?_
  rintro e w' ⟨g', rfl, cd, hb⟩
  exact ⟨g', rfl, h.own_new hb _ cd (fun k hk => hk.1), hb⟩

/-! ### dict -/
theorem dictP_ok {w : World} {R : HP} {g : Nat} {d : Rv.Dict} (h : Sat w (dictP g d * R)) : DOk d := by
  obtain ⟨S, h1, _⟩ := Rv.Sat.own_turn (DictAt.loc g d) h
  exact h1.1
theorem suse (w : World) (R : HP) (g : Nat) (d : Rv.Dict) (key : ByteArray) (h : Sat w (dictP g d * R)) (h0 : 1 ≤ key.size) (h1 : key.size ≤ 64) :
    Calls Tryz.prog 42 #[.pointer (some ⟨g, 0, none⟩), .string key] w fun e w' => e = .returned (.tuple #[.int .i64 ((d.use key).2.1 : Int), .bool (d.use key).2.2, .int .i64 0]) ∧ Sat w' (dictP g (d.use key).1 * R) ∧ Same w w' := by
  obtain ⟨S, q1, q2, q3⟩ := Rv.Sat.own_turn (DictAt.loc g d) h
  refine (use_moved w S g d key q1 h0 h1).mono ?_
  rintro e w' ⟨rfl, S', hd, mv⟩
  exact ⟨rfl, q3 w' _ S' mv.1 hd (fun k hk => (mv.2 k hk).1), Same.of mv.1⟩
theorem stouch_yes (w : World) (R : HP) (g : Nat) (d : Rv.Dict) (s : Nat) (key : ByteArray) (h : Sat w (dictP g d * R)) (hk : d.keys[s]? = some key) :
    Calls Tryz.prog 123 #[.pointer (some ⟨g, 0, none⟩), .int .i64 (s : Int)] w fun e w' => e = .returned (.tuple #[.string key, .int .i64 0]) ∧ Sat w' (dictP g (d.used s) * R) ∧ Same w w' := by
  obtain ⟨S, q1, q2, q3⟩ := Rv.Sat.own_turn (DictAt.loc g d) h
  refine (touch_yes w S g d s key q1 hk).mono ?_
  rintro e w' ⟨rfl, hd, mv⟩
  exact ⟨rfl, q3 w' _ S mv hd (fun k hk => .inl hk), Same.of mv⟩
theorem stouch_no (w : World) (R : HP) (g : Nat) (d : Rv.Dict) (s : Nat) (h : Sat w (dictP g d * R)) (hk : d.keys.length ≤ s) :
    Calls Tryz.prog 123 #[.pointer (some ⟨g, 0, none⟩), .int .i64 (s : Int)] w fun e w' => e = .returned (.tuple #[.string ⟨#[]⟩, .int .i64 50]) ∧ w = w' := by
  obtain ⟨S, q1, q2, q3⟩ := Rv.Sat.own_turn (DictAt.loc g d) h
  exact touch_no w S g d s q1 hk
theorem slook (w : World) (R : HP) (g : Nat) (d : Rv.Dict) (key : ByteArray) (h : Sat w (dictP g d * R)) :
    Calls Tryz.prog 85 #[.pointer (some ⟨g, 0, none⟩), .string key] w fun e w' => e = .returned (.int .i64 (lookRes (d.find key))) ∧ w = w' := by
  obtain ⟨S, q1, q2, q3⟩ := Rv.Sat.own_turn (DictAt.loc g d) h
  exact look_any w S g d key q1
theorem snew_dict (w : World) (R : HP) (room : Nat) (h : Sat w R) (h0 : 1 ≤ room) (h1 : room ≤ 64) :
    Calls Tryz.prog 73 #[.int .i64 (room : Int)] w fun e w' => ∃ g, e = .returned (.tuple #[.pointer (some ⟨g, 0, none⟩), .int .i64 0]) ∧ Sat w' (dictP g (Rv.Dict.new room) * R) ∧ Same w w' := by
  refine (dnew_any w room h0 h1).mono ?_
  rintro e w' ⟨g, rfl, hd, hb⟩
  exact ⟨g, rfl, h.own_new hb _ hd (fun k hk => hk), Rv.Same.below hb⟩

/-- A coder in its parts: its box, its dictionary. -/
theorem coderP_open {w : World} {R : HP} {g : Nat} {c : Rv.Coder} (h : Sat w (coderP g c * R)) :
    COk c ∧ ∃ gd, Sat w (pt g (.cells #[.pointer (some ⟨gd, 0, none⟩), .int .i64 c.tick, .int .i64 c.cost] 108 (0, 0)) * (dictP gd c.d * R)) := by
  obtain ⟨S, q1, q2, q3⟩ := Rv.Sat.own_out (CoderAt.loc g c) h
  obtain ⟨ok, hg, gd, h1, h2⟩ := q1
  refine ⟨ok, gd, ?_⟩
  obtain ⟨a, p1, p2, p3⟩ := Rv.own_of (X := fun w S => DictAt w S gd c.d) h2
  refine (q3 w (pt g _ * dictP gd c.d) (fun k => (if k = g then some (.cells #[.pointer (some ⟨gd, 0, none⟩), .int .i64 c.tick, .int .i64 c.cost] 108 (0, 0)) else none : Option Obj).or (a k)) (fun _ _ _ => rfl) ?_ ?_ ?_).perm (Rv.star_assoc _ _ _)
  · refine ⟨_, a, fun k => ?_, rfl, rfl, p1⟩
    by_cases e : k = g
    · exact .inr (p3 k (fun hk => hk.2 e))
    · exact .inl (if_neg e)
  · intro k o hk
    by_cases e : k = g
    · subst e; rw [if_pos rfl, Option.some_or] at hk; rw [h1]; exact hk
    · rw [if_neg e, Option.none_or] at hk; exact p2 k o hk
  · intro k hk hlt
    have e : k ≠ g := fun e => hk (e ▸ hg)
    simp only [if_neg e, Option.none_or]
    exact p3 k (fun h => hk h.1)
theorem coderP_shut {w : World} {R : HP} {g gd : Nat} {c : Rv.Coder} (ok : COk c) (h : Sat w (pt g (.cells #[.pointer (some ⟨gd, 0, none⟩), .int .i64 c.tick, .int .i64 c.cost] 108 (0, 0)) * (dictP gd c.d * R))) : Sat w (coderP g c * R) := by
  obtain ⟨a, b, hp, ⟨a2, b2, hd2, rfl, q1, q2⟩, hd, ha, hb⟩ := h.parts
  have hb1 : ∀ k o, a2 k = some o → w.heap[k]? = some o := fun k o hk => hb k o (by simp only [hk, Option.some_or])
  have hb2 : ∀ k o, b2 k = some o → w.heap[k]? = some o := fun k o hk => hb k o (by
    rcases hd2 k with d | d
    · simp only [d, hk, Option.none_or]
    · rw [d] at hk; cases hk)
  have dd := Rv.own_get (DictAt.loc gd c.d) q1 hb1
  have hgn : ∀ o, a2 g ≠ some o := fun o ho => by
    have := hd g
    simp only at this
    rw [Rv.pt_at hp, if_pos rfl, ho] at this
    simp at this
  have hga : w.heap[g]? = some (.cells #[.pointer (some ⟨gd, 0, none⟩), .int .i64 c.tick, .int .i64 c.cost] 108 (0, 0)) := ha g _ (by rw [Rv.pt_at hp, if_pos rfl])
  have cd : CoderAt w (fun k => k = g ∨ ∃ o, a2 k = some o) g c := ⟨ok, .inl rfl, gd, hga, dd.mono (fun i _ h' => ⟨.inr h', fun e => h'.elim (fun o1 ho => hgn o1 (e ▸ ho))⟩)⟩
  obtain ⟨a', r1, r2, r3⟩ := Rv.own_of (X := fun w S => CoderAt w S g c) cd
  refine Rv.Sat.of_parts r1 q2 (fun k => ?_) r2 hb2
  cases hk : b2 k with
  | none => exact .inr rfl
  | some o =>
    refine .inl (r3 k ?_)
    rintro (e | ⟨o', ho'⟩)
    · subst e
      have := hd k
      simp only at this
      rw [Rv.pt_at hp, if_pos rfl] at this
      rcases hd2 k with d | d
      · simp [d, hk] at this
      · rw [d] at hk; cases hk
    · rcases hd2 k with d | d
      · rw [d] at ho'; cases ho'
      · rw [d] at hk; cases hk
end Go.Proofs.YtcmndglhileeoaaGreat

/- What a row's arguments are: slices of bytes that came in. No walk. -/
set_option linter.unusedSimpArgs false
set_option linter.unusedVariables false
namespace Go.Proofs.YtcmndglhileeoaaGreat
open Go.ChangeShapes Go.WideShapes Go.ChangeAt Go.RowKit

theorem row_own : ownKnob Tryz.prog.godebug = none := by kernel_rfl
theorem row_laid : laidOutB Tryz.prog = true := by kernel_rfl
/-- The bytes behind whole numbers. -/
def toBs (zs : List Int) : List UInt8 := zs.map fun n => UInt8.ofNat n.toNat
theorem u8_wf {n : Int} (h : (Lit.int .u8 n).wf = true) : 0 ≤ n ∧ n < 256 := by
  simp only [Lit.wf, Bool.and_eq_true, decide_eq_true_eq] at h
  have h1 : IntKind.u8.min = 0 := by decide
  have h2 : IntKind.u8.max = 255 := by decide
  omega
theorem i64_wf {n : Int} (h : (Lit.int .i64 n).wf = true) : -9223372036854775808 ≤ n ∧ n ≤ 9223372036854775807 := by
  simp only [Lit.wf, Bool.and_eq_true, decide_eq_true_eq] at h
  have h1 : IntKind.i64.min = -9223372036854775808 := by decide
  have h2 : IntKind.i64.max = 9223372036854775807 := by decide
  omega
theorem cells_u8 : Tryz.prog.cellsOf 5 = 1 := by kernel_rfl
theorem bytes_u8 : Tryz.prog.bytesOf 5 = 1 := by kernel_rfl
set_option maxRecDepth 100000 in
/-- A slice of bytes that came in. -/
theorem open_bs {H : Type} {enc : TypeId × Value → H} {W : World} {base : Nat} {d : DataW H} {ps : List MemPlace} {v : Value} {ts : List TypeId} {ds : List (DataW H)} {j : Nat} (hsz : (DataW.weightsEach Tryz.prog ts ds).all (· ≤ reachBytes) = true)
    (ht : ts[j]? = some 22) (hd : ds[j]? = some d) (hv : Value.okWide Tryz.prog W .any base 22 v) (h : DataW.Trod enc Tryz.prog W 0 (fun _ => true) true 22 v d ps) :
    ∃ A xs c, v = .slice A (xs : List UInt8).length c ∧ RdB W A xs ∧ (A = none → c = 0) ∧ xs.length ≤ c ∧ c ≤ 9223372036854775807 ∧ xs.length ≤ 140737488351232 := by
  obtain ⟨a, len, cap, rfl⟩ := okWide_slice Tryz.underlying22 hv
  obtain ⟨fuel, hf⟩ := h
  rcases open_ints Tryz.underlying22 Tryz.underlying5 cells_u8 hf with ⟨hcs, _⟩ | ⟨x, l, c, zs, hcs, _, hl, hm, hz, hx, hcell, hwz⟩
  · simp [Value.cells] at hcs
    obtain ⟨rfl, rfl, rfl⟩ := hcs
    exact ⟨none, [], 0, rfl, RdB.nil _ _, fun _ => rfl, Nat.le_refl _, by omega, by simp⟩
  · simp [Value.cells] at hcs
    obtain ⟨rfl, rfl, rfl⟩ := hcs
    have hzl : zs.length = cap := by simpa using hz
    have hlen : (toBs (zs.take len)).length = len := by simp only [toBs, List.length_map, List.length_take]; omega
    refine ⟨some x, toBs (zs.take len), cap, by rw [hlen], ?_, by simp, by omega, by unfold maxLen at hm; omega, ?_⟩
    · intro i u hu
      refine ⟨x, rfl, ?_⟩
      have hi : i < len := by have := (List.getElem?_eq_some_iff.1 hu).1; omega
      rw [hcell i (by omega)]
      have hiz : i < zs.length := by omega
      have hg : zs.getD i 0 = zs[i] := by simp [List.getD, hiz]
      have hw := u8_wf (hwz zs[i] (List.getElem_mem _))
      have hu2 : u = UInt8.ofNat zs[i].toNat := by
        simp only [toBs, List.getElem?_map, List.getElem?_take, if_pos hi, List.getElem?_eq_getElem hiz, Option.map_some] at hu
        injection hu with hu
        exact hu.symm
      rw [hg, hu2]
      have hb : (UInt8.ofNat zs[i].toNat).toNat = zs[i].toNat := by
        rw [UInt8.toNat_ofNat']
        omega
      rw [hb]
      congr 2
      omega
    · rw [hlen]
      obtain ⟨hx2, _⟩ := Prod.mk.inj hx
      subst hx2
      have z := sized_slice hsz ht hd Tryz.underlying22
      have hb := bytes_u8
      simp only [lits, List.length_map, List.length_take, List.length_drop, hb, Nat.mul_one] at z
      have hr : reachBytes = 140737488351232 := rfl
      rw [Nat.min_eq_left (by omega), hr] at z
      omega
end Go.Proofs.YtcmndglhileeoaaGreat

/- The walks of package policy. Conditions: the policy's cells lie in a block of their own. -/
set_option linter.unusedSimpArgs false
set_option linter.unusedVariables false
namespace Go.Proofs.YtcmndglhileeoaaGreat
open Go.RowKit

abbrev fp (g o : Nat) : Value := .pointer (some ⟨g, o, none⟩)
abbrev fields0 (g : Nat) : Array Value := #[fp g 0, .int .i64 1, .int .i64 2, fp g 1, .int .i64 1, .int .i64 1048576, .pointer none, .int .i64 0, .int .i64 0, .pointer none, .int .i64 0, .int .i64 0, fp g 6, .int .i64 1, .int .i64 1000, fp g 7, .int .i64 1, .int .i64 64, fp g 8, .int .i64 0, .int .i64 1000, fp g 9, .int .i64 1, .int .i64 1000]
abbrev fields1 (g : Nat) : Array Value := #[fp g 0, .int .i64 1, .int .i64 2, fp g 1, .int .i64 1, .int .i64 1048576, fp g 2, .int .i64 1, .int .i64 65536, fp g 3, .int .i64 1, .int .i64 65536, fp g 6, .int .i64 1, .int .i64 1000, fp g 7, .int .i64 1, .int .i64 64, fp g 8, .int .i64 0, .int .i64 1000, fp g 9, .int .i64 1, .int .i64 1000]
abbrev fields2 (g : Nat) : Array Value := #[fp g 0, .int .i64 1, .int .i64 2, fp g 1, .int .i64 1, .int .i64 1048576, fp g 4, .int .i64 1, .int .i64 1048576, fp g 5, .int .i64 1, .int .i64 32, fp g 6, .int .i64 1, .int .i64 1000, fp g 7, .int .i64 1, .int .i64 64, fp g 8, .int .i64 0, .int .i64 1000, fp g 9, .int .i64 1, .int .i64 1000]

theorem step_alloc {P : Program} {ops : Array Oper} {o : Oper} {a : Act} {w : World} {K : Act → World → Prop} {Q : Exit → Act → World → Prop} {E : Prop} (hgd : o.guard = none) (t : TypeId) (ho : o.op = .alloc t) (z : Value)
    (hz : ∀ w, (zeroValue t).run P w = .ok z w) (h : K (a.put o.dst (.pointer (some ⟨w.heap.size, 0, none⟩))) (w.alloc (.cells z.cells t))) :
    if Region.wanted o (yielded ops a.tmps) = true then Oper.wp P o a w K Q else E := by
  have hw : Region.wanted o (yielded ops a.tmps) = true := by simp [Region.wanted, hgd]
  rw [if_pos hw]
  unfold Oper.wp
  simp [execOp, ho, hz, Result.andThen, newVar, newRow, go_sem]
  exact h

theorem step_store_row {P : Program} {ops : Array Oper} {o : Oper} {a : Act} {w : World} {K : Act → World → Prop} {Q : Exit → Act → World → Prop} {E : Prop} (hgd : o.guard = none) (ty : TypeId) (x y : Operand) (ho : o.op = .store ty x y)
    (g : Nat) (cells : Array Value) (hx : a.eval x = .pointer (some ⟨g, 0, none⟩)) (hy : a.eval y = .agg cells)
    (t : TypeId) (old : Array Value) (hg : w.heap[g]? = some (.cells old t (0, 0))) (hi : (P.info? ty).map (·.size) = some cells.size)
    (hold : old.size = cells.size) (h1 : cells.all (·.oneCell') = true) (h : K (a.put o.dst undef) (w.setRow g cells)) :
    if Region.wanted o (yielded ops a.tmps) = true then Oper.wp P o a w K Q else E := by
  have hw : Region.wanted o (yielded ops a.tmps) = true := by simp [Region.wanted, hgd]
  rw [if_pos hw]
  exact wp_store_row ty x y ho g cells hx hy t old hg hi hold h1 h

theorem results_cell_tmp {P : Program} {fn : Func} {p q : Tmp} {ty : TypeId} (h : fn.results = #[.cell p ty, .tmp q]) (tmps : Array Value) (w : World) (g : Nat) (t : TypeId) (cs : Array Value) (fr : Nat × Nat) (d : TypeDesc) (v : Value)
    (hp : tmps.getD p undef = .pointer (some ⟨g, 0, none⟩)) (hq : tmps.getD q undef = v) (hg : w.heap[g]? = some (.cells cs t fr))
    (hu : P.underlying ty = some d) (hd : (match d with | .struct _ | .array _ _ => true | _ => false) = true) (hi : (P.info? ty).map (·.size) = some cs.size) :
    (results fn tmps).run P w = .ok (.tuple #[.agg cs, v]) w := by
  have hp' : tmps[p]?.getD undef = .pointer (some ⟨g, 0, none⟩) := by simpa using hp
  have hq' : tmps[q]?.getD undef = v := by simpa using hq
  simp [results, h, hp', hq', asAddr, run_loadVar_row w g t ty cs fr d hg hu hd hi]

theorem zero131 : (Tryz.prog.info? 131).map (fun i => (i.zero, i.size)) = some (some (.agg #[.pointer none, .int .i64 0, .int .i64 0, .pointer none, .int .i64 0, .int .i64 0, .pointer none, .int .i64 0, .int .i64 0, .pointer none, .int .i64 0, .int .i64 0, .pointer none, .int .i64 0, .int .i64 0, .pointer none, .int .i64 0, .int .i64 0, .pointer none, .int .i64 0, .int .i64 0, .pointer none, .int .i64 0, .int .i64 0]), 24) := by kernel_rfl

theorem six_sets (w : World) (b g : Nat) (p q : Nat) (l1 t1 l2 t2 : Int) (F : Array Value) (e : TypeId) (h : w.heap[b]? = some (.cells F e (0, 0))) :
    ((((((w.setCell ⟨b, 6, none⟩ (fp g p)).setCell ⟨b, 7, none⟩ (.int .i64 l1)).setCell ⟨b, 8, none⟩ (.int .i64 t1)).setCell ⟨b, 9, none⟩ (fp g q)).setCell ⟨b, 10, none⟩ (.int .i64 l2)).setCell ⟨b, 11, none⟩ (.int .i64 t2)).heap[b]? =
      some (.cells ((((((F.setIfInBounds 6 (fp g p)).setIfInBounds 7 (.int .i64 l1)).setIfInBounds 8 (.int .i64 t1)).setIfInBounds 9 (fp g q)).setIfInBounds 10 (.int .i64 l2)).setIfInBounds 11 (.int .i64 t2)) e (0, 0)) ∧
    Kept (fun k => k = b) w ((((((w.setCell ⟨b, 6, none⟩ (fp g p)).setCell ⟨b, 7, none⟩ (.int .i64 l1)).setCell ⟨b, 8, none⟩ (.int .i64 t1)).setCell ⟨b, 9, none⟩ (fp g q)).setCell ⟨b, 10, none⟩ (.int .i64 l2)).setCell ⟨b, 11, none⟩ (.int .i64 t2)) := by
  refine ⟨set_at (set_at (set_at (set_at (set_at (set_at h 6 _) 7 _) 8 _) 9 _) 10 _) 11 _, ?_⟩
  have k0 : Kept (fun k => k = b) w w := Kept.refl _ _
  exact (((((k0.setCell ⟨b, 6, none⟩ _ (.inl rfl)).setCell ⟨b, 7, none⟩ _ (.inl rfl)).setCell ⟨b, 8, none⟩ _ (.inl rfl)).setCell ⟨b, 9, none⟩ _ (.inl rfl)).setCell ⟨b, 10, none⟩ _ (.inl rfl)).setCell ⟨b, 11, none⟩ _ (.inl rfl)

abbrev zeros8 : Array Value := #[.pointer none, .int .i64 0, .int .i64 0, .pointer none, .int .i64 0, .int .i64 0, .pointer none, .int .i64 0, .int .i64 0, .pointer none, .int .i64 0, .int .i64 0, .pointer none, .int .i64 0, .int .i64 0, .pointer none, .int .i64 0, .int .i64 0, .pointer none, .int .i64 0, .int .i64 0, .pointer none, .int .i64 0, .int .i64 0]

set_option maxHeartbeats 2000000 in
set_option maxRecDepth 100000 in
theorem fields_one (g : Nat) (w : World) (hc : w.cell? ⟨g, 0, none⟩ = some (.int .i64 1)) :
    Calls Tryz.prog 53 #[.pointer (some ⟨g, 0, none⟩)] w fun e w' => e = .returned (.tuple #[.agg (fields1 g), .bool true]) ∧ Below w.heap.size w w' := by
  have hg := World.block_lt_of_cell? w _ hc
  simp only at hg
  go_enter Tryz.func53, Tryz.ntmps53
  go_upto_region 1 with (fail)
  have R1 : Hid ((w.alloc (.cells zeros8 131)).drew.heap[w.heap.size]? = some (.cells zeros8 131 (0, 0)) ∧ Below w.heap.size w (w.alloc (.cells zeros8 131)).drew ∧ (w.alloc (.cells zeros8 131)).drew.heap.size = w.heap.size + 1) := Lib.hid ⟨heap_alloc_new w _, ⟨rfl, rfl, rfl, by show _ ≤ (w.heap.push _).size; simp, fun k hk => Below.heap_alloc w _ k hk⟩, by show (w.heap.push _).size = _; simp⟩
  have HC := Lib.hid hc
  clear hc
  refine wp_region_any (by kernel_rfl) ?_
  change wpAny _ _ _ _ _ _ _ (World.drew _)
  generalize (w.alloc (.cells zeros8 131)).drew = w2 at *
  refine wpAny_take (i := 0) (v := ?_) rfl (by kernel_rfl) (by kernel_rfl) (by kernel_rfl) (fun _ _ _ h => h) (Or.inl ⟨by rfl, ?_⟩) ?_
  rotate_left
  · intro w; go_simp
    try with_reducible rfl
  refine wpAny_take (i := 1) (v := ?_) rfl (by kernel_rfl) (by kernel_rfl) (by kernel_rfl) (fun _ _ _ h => h) (Or.inl ⟨by rfl, ?_⟩) ?_
  rotate_left
  · intro w; go_simp
    try with_reducible rfl
  refine wpAny_take (i := 2) (v := ?_) rfl (by kernel_rfl) (by kernel_rfl) (by kernel_rfl) (fun _ _ _ h => h) (Or.inl ⟨by rfl, ?_⟩) ?_
  rotate_left
  · intro w; go_simp
    try with_reducible rfl
  refine wpAny_take (i := 3) (v := ?_) rfl (by kernel_rfl) (by kernel_rfl) (by kernel_rfl) (fun _ _ _ h => h) (Or.inl ⟨by rfl, ?_⟩) ?_
  rotate_left
  · intro w; go_simp
    try with_reducible rfl
  refine wpAny_take (i := 4) (v := ?_) rfl (by kernel_rfl) (by kernel_rfl) (by kernel_rfl) (fun _ _ _ h => h) (Or.inl ⟨by rfl, ?_⟩) ?_
  rotate_left
  · intro w; go_simp
    try with_reducible rfl
  refine wpAny_take (i := 5) (v := ?_) rfl (by kernel_rfl) (by kernel_rfl) (by kernel_rfl) (fun _ _ _ h => h) (Or.inl ⟨by rfl, ?_⟩) ?_
  rotate_left
  · intro w; go_simp
    try with_reducible rfl
  refine wpAny_take (i := 6) (v := ?_) rfl (by kernel_rfl) (by kernel_rfl) (by kernel_rfl) (fun _ _ _ h => h) (Or.inl ⟨by rfl, ?_⟩) ?_
  rotate_left
  · intro w; go_simp
    try with_reducible rfl
  refine wpAny_take (i := 7) (v := ?_) rfl (by kernel_rfl) (by kernel_rfl) (by kernel_rfl) (fun _ _ _ h => h) (Or.inl ⟨by rfl, ?_⟩) ?_
  rotate_left
  · intro w; go_simp
    try with_reducible rfl
  refine wpAny_take (i := 8) (v := ?_) rfl (by kernel_rfl) (by kernel_rfl) (by kernel_rfl) (fun _ _ _ h => h) (Or.inl ⟨by rfl, ?_⟩) ?_
  rotate_left
  · intro w; go_simp
    try with_reducible rfl
  refine wpAny_take (i := 9) (v := ?_) rfl (by kernel_rfl) (by kernel_rfl) (by kernel_rfl) (fun _ _ _ h => h) (Or.inl ⟨by rfl, ?_⟩) ?_
  rotate_left
  · intro w; go_simp
    try with_reducible rfl
  refine wpAny_take (i := 10) (v := ?_) rfl (by kernel_rfl) (by kernel_rfl) (by kernel_rfl) (fun _ _ _ h => h) (Or.inl ⟨by rfl, ?_⟩) ?_
  rotate_left
  · intro w; go_simp
    try with_reducible rfl
  refine wpAny_take (i := 11) (v := ?_) rfl (by kernel_rfl) (by kernel_rfl) (by kernel_rfl) (fun _ _ _ h => h) (Or.inl ⟨by rfl, ?_⟩) ?_
  rotate_left
  · intro w; go_simp
    try with_reducible rfl
  refine wpAny_take (i := 12) (v := ?_) rfl (by kernel_rfl) (by kernel_rfl) (by kernel_rfl) (fun _ _ _ h => h) (Or.inl ⟨by rfl, ?_⟩) ?_
  rotate_left
  · intro w; go_simp
    try with_reducible rfl
  refine wpAny_take (i := 13) (v := ?_) rfl (by kernel_rfl) (by kernel_rfl) (by kernel_rfl) (fun _ _ _ h => h) (Or.inl ⟨by rfl, ?_⟩) ?_
  rotate_left
  · intro w; go_simp
    try with_reducible rfl
  refine wpAny_take (i := 14) (v := ?_) rfl (by kernel_rfl) (by kernel_rfl) (by kernel_rfl) (fun _ _ _ h => h) (Or.inl ⟨by rfl, ?_⟩) ?_
  rotate_left
  · intro w; go_simp
    try with_reducible rfl
  refine wpAny_take (i := 15) (v := ?_) rfl (by kernel_rfl) (by kernel_rfl) (by kernel_rfl) (fun _ _ _ h => h) (Or.inl ⟨by rfl, ?_⟩) ?_
  rotate_left
  · intro w; go_simp
    try with_reducible rfl
  refine wpAny_take (i := 16) (v := ?_) rfl (by kernel_rfl) (by kernel_rfl) (by kernel_rfl) (fun _ _ _ h => h) (Or.inl ⟨by rfl, ?_⟩) ?_
  rotate_left
  · intro w; go_simp
    try with_reducible rfl
  refine wpAny_take (i := 17) (v := ?_) rfl (by kernel_rfl) (by kernel_rfl) (by kernel_rfl) (fun _ _ _ h => h) (Or.inl ⟨by rfl, ?_⟩) ?_
  rotate_left
  · intro w; go_simp
    try with_reducible rfl
  refine wpAny_take (i := 18) (v := ?_) rfl (by kernel_rfl) (by kernel_rfl) (by kernel_rfl) (fun _ _ _ h => h) (Or.inl ⟨by rfl, ?_⟩) ?_
  rotate_left
  · intro w; go_simp
    try with_reducible rfl
  refine wpAny_take (i := 19) (v := ?_) rfl (by kernel_rfl) (by kernel_rfl) (by kernel_rfl) (fun _ _ _ h => h) (Or.inl ⟨by rfl, ?_⟩) ?_
  rotate_left
  · intro w; go_simp
    try with_reducible rfl
  refine wpAny_take (i := 20) (v := ?_) rfl (by kernel_rfl) (by kernel_rfl) (by kernel_rfl) (fun _ _ _ h => h) (Or.inl ⟨by rfl, ?_⟩) ?_
  rotate_left
  · intro w; go_simp
    try with_reducible rfl
  refine wpAny_take (i := 21) (v := ?_) rfl (by kernel_rfl) (by kernel_rfl) (by kernel_rfl) (fun _ _ _ h => h) (Or.inl ⟨by rfl, ?_⟩) ?_
  rotate_left
  · intro w; go_simp
    try with_reducible rfl
  refine wpAny_take (i := 22) (v := ?_) rfl (by kernel_rfl) (by kernel_rfl) (by kernel_rfl) (fun _ _ _ h => h) (Or.inl ⟨by rfl, ?_⟩) ?_
  rotate_left
  · intro w; go_simp
    try with_reducible rfl
  refine wpAny_take (i := 23) (v := ?_) rfl (by kernel_rfl) (by kernel_rfl) (by kernel_rfl) (fun _ _ _ h => h) (Or.inl ⟨by rfl, ?_⟩) ?_
  rotate_left
  · intro w; go_simp
    try with_reducible rfl
  refine wpAny_take (i := 24) (v := ?_) rfl (by kernel_rfl) (by kernel_rfl) (by kernel_rfl) (fun _ _ _ h => h) (Or.inl ⟨by rfl, ?_⟩) ?_
  rotate_left
  · intro w; go_simp
    try with_reducible rfl
  refine wpAny_take (i := 25) (v := ?_) rfl (by kernel_rfl) (by kernel_rfl) (by kernel_rfl) (fun _ _ _ h => h) (Or.inl ⟨by rfl, ?_⟩) ?_
  rotate_left
  · intro w; go_simp
    try with_reducible rfl
  refine wpAny_take (i := 26) (v := ?_) rfl (by kernel_rfl) (by kernel_rfl) (by kernel_rfl) (fun _ _ _ h => h) (Or.inl ⟨by rfl, ?_⟩) ?_
  rotate_left
  · intro w; go_simp
    try with_reducible rfl
  conv => arg 7; simp [Act.put, go_sem]
  refine wpAny_ready (rs := [27]) (by kernel_rfl) (by simp) ?_
  refine AllReady.cons rfl (fun K hK => ?_) AllReady.nil
  refine step_alloc rfl _ rfl _ (zero_of_info zero131).1 ?_
  refine hK _ _ ?_
  clear hK K
  conv => arg 7; simp [Act.put, go_sem]
  refine wpAny_ready (rs := [28]) (by kernel_rfl) (by simp) ?_
  refine AllReady.cons rfl (fun K hK => ?_) AllReady.nil
  refine step_store_row rfl _ _ _ rfl w2.heap.size (fields0 g) (by rfl) (by rfl) 131 _ (heap_alloc_new w2 _) (zero_of_info zero131).2 (by rfl) (by simp [Value.oneCell']) ?_
  refine hK _ _ ?_
  clear hK K
  refine wpAny_done (by kernel_rfl) ?_ _
  have R2 : Hid (((w2.alloc (.cells zeros8 131)).setRow w2.heap.size (fields0 g)).heap[w2.heap.size]? = some (.cells (fields0 g) 131 (0, 0))) := Lib.hid (setRow_heap _ w2.heap.size _ (fields0 g) 131 (0, 0) (heap_alloc_new w2 _))
  have R3 : Hid (((w2.alloc (.cells zeros8 131)).setRow w2.heap.size (fields0 g)).heap[w.heap.size]? = some (.cells zeros8 131 (0, 0))) := Lib.hid (by
    rw [setRow_other _ _ _ _ (by rw [R1.out.2.2]; omega), Below.heap_alloc _ _ _ (by rw [R1.out.2.2]; omega)]
    exact R1.out.1)
  have R4 : Hid (Below w.heap.size w ((w2.alloc (.cells zeros8 131)).setRow w2.heap.size (fields0 g))) := Lib.hid (below_setRow (R1.out.2.1.alloc (by rw [R1.out.2.2]; omega) _) (by rw [R1.out.2.2]; omega) _)
  have hb : Hid (w2.heap.size = w.heap.size + 1) := Lib.hid R1.out.2.2
  clear R1
  change Exit.then _ _ _ _ ((w2.alloc (.cells zeros8 131)).setRow w2.heap.size (fields0 g))
  generalize (w2.alloc (.cells zeros8 131)).setRow w2.heap.size (fields0 g) = w3 at *
  generalize w2.heap.size = b at *
  clear w2
  have hc : w3.cell? ⟨g, 0, none⟩ = some (.int .i64 1) := (R4.out.cell (p := ⟨g, 0, none⟩) hg).trans HC.out
  go_upto_region 5 with (fail)
  have d6 : w3.cell? ⟨b, 6, none⟩ = some (.pointer none) := by rw [cells_of R2.out]; rfl
  have d7 : w3.cell? ⟨b, 7, none⟩ = some (.int .i64 0) := by rw [cells_of R2.out]; rfl
  have d8 : w3.cell? ⟨b, 8, none⟩ = some (.int .i64 0) := by rw [cells_of R2.out]; rfl
  have d9 : w3.cell? ⟨b, 9, none⟩ = some (.pointer none) := by rw [cells_of R2.out]; rfl
  have d10 : w3.cell? ⟨b, 10, none⟩ = some (.int .i64 0) := by rw [cells_of R2.out]; rfl
  have d11 : w3.cell? ⟨b, 11, none⟩ = some (.int .i64 0) := by rw [cells_of R2.out]; rfl
  have df : ∀ i, w3.frozen? ⟨b, i, none⟩ = false := frozen_of R2.out
  go_region
  have S1 := Lib.hid (six_sets w3 b g 2 3 1 65536 1 65536 (fields0 g) 131 R2.out)
  clear d6 d7 d8 d9 d10 d11 df hc
  generalize hw4 : World.setCell (World.setCell (World.setCell (World.setCell (World.setCell (World.setCell w3 _ _) _ _) _ _) _ _) _ _) _ _ = w4 at *
  clear hw4
  have R5 : Hid (w4.heap[b]? = some (.cells (fields1 g) 131 (0, 0))) := Lib.hid S1.out.1
  have R6 : Hid (w4.heap[w.heap.size]? = some (.cells zeros8 131 (0, 0))) := Lib.hid (by rw [S1.out.2.block _ (Array.getElem?_eq_some_iff.1 R3.out).1 (by rw [hb.out]; omega)]; exact R3.out)
  have R7 : Hid (Below w.heap.size w w4) := Lib.hid (R4.out.trans (S1.out.2.below R4.out.size (fun k hk e => by rw [hb.out] at e; omega)))
  clear S1 R2 R3 R4
  have R5' : Hid (w4.drew.heap[b]? = some (.cells (fields1 g) 131 (0, 0))) := Lib.hid R5.out
  have R6' : Hid (w4.drew.heap[w.heap.size]? = some (.cells zeros8 131 (0, 0))) := Lib.hid R6.out
  have R7' : Hid (Below w.heap.size w w4.drew) := Lib.hid ⟨R7.out.os, R7.out.tape, R7.out.output, R7.out.size, R7.out.block⟩
  clear R5 R6 R7
  generalize w4.drew = w5 at *
  clear w4
  go_upto_region 8 with (fail)
  go_wp2_with (first
    | (refine wpList_load_row (o := ⟨some 61, _, _, _, _, _⟩) rfl 131 (.tmp 4) rfl b (by rfl) 131 (fields1 g) (0, 0) _ R5'.out Tryz.underlying131 (by rfl) (zero_of_info zero131).2 ?_)
    | (refine wpList_store_row (o := ⟨none, .store _ _ _, _, _, _, _⟩) rfl 131 (.tmp 2) (.tmp 61) rfl w.heap.size (fields1 g) (by rfl) (by rfl) 131 zeros8 R6'.out (zero_of_info zero131).2 (by rfl) (by simp [Value.oneCell']) ?_))
  exact bodyPost_ret (results_cell_tmp Tryz.results53 _ _ w.heap.size 131 (fields1 g) (0, 0) _ (.bool true) (by rfl) (by rfl) (setRow_heap _ _ _ _ _ _ R6'.out) Tryz.underlying131 (by rfl) (zero_of_info zero131).2) rfl
    ⟨rfl, below_setRow R7'.out (Nat.le_refl _) _⟩
end Go.Proofs.YtcmndglhileeoaaGreat

/- The walks of package policy: fields, kind 2 and none. -/
set_option linter.unusedSimpArgs false
set_option linter.unusedVariables false
namespace Go.Proofs.YtcmndglhileeoaaGreat
open Go.RowKit

set_option maxHeartbeats 2000000 in
set_option maxRecDepth 100000 in
theorem fields_two (g : Nat) (w : World) (hc : w.cell? ⟨g, 0, none⟩ = some (.int .i64 2)) :
    Calls Tryz.prog 53 #[.pointer (some ⟨g, 0, none⟩)] w fun e w' => e = .returned (.tuple #[.agg (fields2 g), .bool true]) ∧ Below w.heap.size w w' := by
  have hg := World.block_lt_of_cell? w _ hc
  simp only at hg
  go_enter Tryz.func53, Tryz.ntmps53
  go_upto_region 1 with (fail)
  have R1 : Hid ((w.alloc (.cells zeros8 131)).drew.heap[w.heap.size]? = some (.cells zeros8 131 (0, 0)) ∧ Below w.heap.size w (w.alloc (.cells zeros8 131)).drew ∧ (w.alloc (.cells zeros8 131)).drew.heap.size = w.heap.size + 1) := Lib.hid ⟨heap_alloc_new w _, ⟨rfl, rfl, rfl, by show _ ≤ (w.heap.push _).size; simp, fun k hk => Below.heap_alloc w _ k hk⟩, by show (w.heap.push _).size = _; simp⟩
  have HC := Lib.hid hc
  clear hc
  refine wp_region_any (by kernel_rfl) ?_
  change wpAny _ _ _ _ _ _ _ (World.drew _)
  generalize (w.alloc (.cells zeros8 131)).drew = w2 at *
  refine wpAny_take (i := 0) (v := ?_) rfl (by kernel_rfl) (by kernel_rfl) (by kernel_rfl) (fun _ _ _ h => h) (Or.inl ⟨by rfl, ?_⟩) ?_
  rotate_left
  · intro w; go_simp
    try with_reducible rfl
  refine wpAny_take (i := 1) (v := ?_) rfl (by kernel_rfl) (by kernel_rfl) (by kernel_rfl) (fun _ _ _ h => h) (Or.inl ⟨by rfl, ?_⟩) ?_
  rotate_left
  · intro w; go_simp
    try with_reducible rfl
  refine wpAny_take (i := 2) (v := ?_) rfl (by kernel_rfl) (by kernel_rfl) (by kernel_rfl) (fun _ _ _ h => h) (Or.inl ⟨by rfl, ?_⟩) ?_
  rotate_left
  · intro w; go_simp
    try with_reducible rfl
  refine wpAny_take (i := 3) (v := ?_) rfl (by kernel_rfl) (by kernel_rfl) (by kernel_rfl) (fun _ _ _ h => h) (Or.inl ⟨by rfl, ?_⟩) ?_
  rotate_left
  · intro w; go_simp
    try with_reducible rfl
  refine wpAny_take (i := 4) (v := ?_) rfl (by kernel_rfl) (by kernel_rfl) (by kernel_rfl) (fun _ _ _ h => h) (Or.inl ⟨by rfl, ?_⟩) ?_
  rotate_left
  · intro w; go_simp
    try with_reducible rfl
  refine wpAny_take (i := 5) (v := ?_) rfl (by kernel_rfl) (by kernel_rfl) (by kernel_rfl) (fun _ _ _ h => h) (Or.inl ⟨by rfl, ?_⟩) ?_
  rotate_left
  · intro w; go_simp
    try with_reducible rfl
  refine wpAny_take (i := 6) (v := ?_) rfl (by kernel_rfl) (by kernel_rfl) (by kernel_rfl) (fun _ _ _ h => h) (Or.inl ⟨by rfl, ?_⟩) ?_
  rotate_left
  · intro w; go_simp
    try with_reducible rfl
  refine wpAny_take (i := 7) (v := ?_) rfl (by kernel_rfl) (by kernel_rfl) (by kernel_rfl) (fun _ _ _ h => h) (Or.inl ⟨by rfl, ?_⟩) ?_
  rotate_left
  · intro w; go_simp
    try with_reducible rfl
  refine wpAny_take (i := 8) (v := ?_) rfl (by kernel_rfl) (by kernel_rfl) (by kernel_rfl) (fun _ _ _ h => h) (Or.inl ⟨by rfl, ?_⟩) ?_
  rotate_left
  · intro w; go_simp
    try with_reducible rfl
  refine wpAny_take (i := 9) (v := ?_) rfl (by kernel_rfl) (by kernel_rfl) (by kernel_rfl) (fun _ _ _ h => h) (Or.inl ⟨by rfl, ?_⟩) ?_
  rotate_left
  · intro w; go_simp
    try with_reducible rfl
  refine wpAny_take (i := 10) (v := ?_) rfl (by kernel_rfl) (by kernel_rfl) (by kernel_rfl) (fun _ _ _ h => h) (Or.inl ⟨by rfl, ?_⟩) ?_
  rotate_left
  · intro w; go_simp
    try with_reducible rfl
  refine wpAny_take (i := 11) (v := ?_) rfl (by kernel_rfl) (by kernel_rfl) (by kernel_rfl) (fun _ _ _ h => h) (Or.inl ⟨by rfl, ?_⟩) ?_
  rotate_left
  · intro w; go_simp
    try with_reducible rfl
  refine wpAny_take (i := 12) (v := ?_) rfl (by kernel_rfl) (by kernel_rfl) (by kernel_rfl) (fun _ _ _ h => h) (Or.inl ⟨by rfl, ?_⟩) ?_
  rotate_left
  · intro w; go_simp
    try with_reducible rfl
  refine wpAny_take (i := 13) (v := ?_) rfl (by kernel_rfl) (by kernel_rfl) (by kernel_rfl) (fun _ _ _ h => h) (Or.inl ⟨by rfl, ?_⟩) ?_
  rotate_left
  · intro w; go_simp
    try with_reducible rfl
  refine wpAny_take (i := 14) (v := ?_) rfl (by kernel_rfl) (by kernel_rfl) (by kernel_rfl) (fun _ _ _ h => h) (Or.inl ⟨by rfl, ?_⟩) ?_
  rotate_left
  · intro w; go_simp
    try with_reducible rfl
  refine wpAny_take (i := 15) (v := ?_) rfl (by kernel_rfl) (by kernel_rfl) (by kernel_rfl) (fun _ _ _ h => h) (Or.inl ⟨by rfl, ?_⟩) ?_
  rotate_left
  · intro w; go_simp
    try with_reducible rfl
  refine wpAny_take (i := 16) (v := ?_) rfl (by kernel_rfl) (by kernel_rfl) (by kernel_rfl) (fun _ _ _ h => h) (Or.inl ⟨by rfl, ?_⟩) ?_
  rotate_left
  · intro w; go_simp
    try with_reducible rfl
  refine wpAny_take (i := 17) (v := ?_) rfl (by kernel_rfl) (by kernel_rfl) (by kernel_rfl) (fun _ _ _ h => h) (Or.inl ⟨by rfl, ?_⟩) ?_
  rotate_left
  · intro w; go_simp
    try with_reducible rfl
  refine wpAny_take (i := 18) (v := ?_) rfl (by kernel_rfl) (by kernel_rfl) (by kernel_rfl) (fun _ _ _ h => h) (Or.inl ⟨by rfl, ?_⟩) ?_
  rotate_left
  · intro w; go_simp
    try with_reducible rfl
  refine wpAny_take (i := 19) (v := ?_) rfl (by kernel_rfl) (by kernel_rfl) (by kernel_rfl) (fun _ _ _ h => h) (Or.inl ⟨by rfl, ?_⟩) ?_
  rotate_left
  · intro w; go_simp
    try with_reducible rfl
  refine wpAny_take (i := 20) (v := ?_) rfl (by kernel_rfl) (by kernel_rfl) (by kernel_rfl) (fun _ _ _ h => h) (Or.inl ⟨by rfl, ?_⟩) ?_
  rotate_left
  · intro w; go_simp
    try with_reducible rfl
  refine wpAny_take (i := 21) (v := ?_) rfl (by kernel_rfl) (by kernel_rfl) (by kernel_rfl) (fun _ _ _ h => h) (Or.inl ⟨by rfl, ?_⟩) ?_
  rotate_left
  · intro w; go_simp
    try with_reducible rfl
  refine wpAny_take (i := 22) (v := ?_) rfl (by kernel_rfl) (by kernel_rfl) (by kernel_rfl) (fun _ _ _ h => h) (Or.inl ⟨by rfl, ?_⟩) ?_
  rotate_left
  · intro w; go_simp
    try with_reducible rfl
  refine wpAny_take (i := 23) (v := ?_) rfl (by kernel_rfl) (by kernel_rfl) (by kernel_rfl) (fun _ _ _ h => h) (Or.inl ⟨by rfl, ?_⟩) ?_
  rotate_left
  · intro w; go_simp
    try with_reducible rfl
  refine wpAny_take (i := 24) (v := ?_) rfl (by kernel_rfl) (by kernel_rfl) (by kernel_rfl) (fun _ _ _ h => h) (Or.inl ⟨by rfl, ?_⟩) ?_
  rotate_left
  · intro w; go_simp
    try with_reducible rfl
  refine wpAny_take (i := 25) (v := ?_) rfl (by kernel_rfl) (by kernel_rfl) (by kernel_rfl) (fun _ _ _ h => h) (Or.inl ⟨by rfl, ?_⟩) ?_
  rotate_left
  · intro w; go_simp
    try with_reducible rfl
  refine wpAny_take (i := 26) (v := ?_) rfl (by kernel_rfl) (by kernel_rfl) (by kernel_rfl) (fun _ _ _ h => h) (Or.inl ⟨by rfl, ?_⟩) ?_
  rotate_left
  · intro w; go_simp
    try with_reducible rfl
  conv => arg 7; simp [Act.put, go_sem]
  refine wpAny_ready (rs := [27]) (by kernel_rfl) (by simp) ?_
  refine AllReady.cons rfl (fun K hK => ?_) AllReady.nil
  refine step_alloc rfl _ rfl _ (zero_of_info zero131).1 ?_
  refine hK _ _ ?_
  clear hK K
  conv => arg 7; simp [Act.put, go_sem]
  refine wpAny_ready (rs := [28]) (by kernel_rfl) (by simp) ?_
  refine AllReady.cons rfl (fun K hK => ?_) AllReady.nil
  refine step_store_row rfl _ _ _ rfl w2.heap.size (fields0 g) (by rfl) (by rfl) 131 _ (heap_alloc_new w2 _) (zero_of_info zero131).2 (by rfl) (by simp [Value.oneCell']) ?_
  refine hK _ _ ?_
  clear hK K
  refine wpAny_done (by kernel_rfl) ?_ _
  have R2 : Hid (((w2.alloc (.cells zeros8 131)).setRow w2.heap.size (fields0 g)).heap[w2.heap.size]? = some (.cells (fields0 g) 131 (0, 0))) := Lib.hid (setRow_heap _ w2.heap.size _ (fields0 g) 131 (0, 0) (heap_alloc_new w2 _))
  have R3 : Hid (((w2.alloc (.cells zeros8 131)).setRow w2.heap.size (fields0 g)).heap[w.heap.size]? = some (.cells zeros8 131 (0, 0))) := Lib.hid (by
    rw [setRow_other _ _ _ _ (by rw [R1.out.2.2]; omega), Below.heap_alloc _ _ _ (by rw [R1.out.2.2]; omega)]
    exact R1.out.1)
  have R4 : Hid (Below w.heap.size w ((w2.alloc (.cells zeros8 131)).setRow w2.heap.size (fields0 g))) := Lib.hid (below_setRow (R1.out.2.1.alloc (by rw [R1.out.2.2]; omega) _) (by rw [R1.out.2.2]; omega) _)
  have hb : Hid (w2.heap.size = w.heap.size + 1) := Lib.hid R1.out.2.2
  clear R1
  change Exit.then _ _ _ _ ((w2.alloc (.cells zeros8 131)).setRow w2.heap.size (fields0 g))
  generalize (w2.alloc (.cells zeros8 131)).setRow w2.heap.size (fields0 g) = w3 at *
  generalize w2.heap.size = b at *
  clear w2
  have hc : w3.cell? ⟨g, 0, none⟩ = some (.int .i64 2) := (R4.out.cell (p := ⟨g, 0, none⟩) hg).trans HC.out
  go_upto_region 7 with (fail)
  have d6 : w3.cell? ⟨b, 6, none⟩ = some (.pointer none) := by rw [cells_of R2.out]; rfl
  have d7 : w3.cell? ⟨b, 7, none⟩ = some (.int .i64 0) := by rw [cells_of R2.out]; rfl
  have d8 : w3.cell? ⟨b, 8, none⟩ = some (.int .i64 0) := by rw [cells_of R2.out]; rfl
  have d9 : w3.cell? ⟨b, 9, none⟩ = some (.pointer none) := by rw [cells_of R2.out]; rfl
  have d10 : w3.cell? ⟨b, 10, none⟩ = some (.int .i64 0) := by rw [cells_of R2.out]; rfl
  have d11 : w3.cell? ⟨b, 11, none⟩ = some (.int .i64 0) := by rw [cells_of R2.out]; rfl
  have df : ∀ i, w3.frozen? ⟨b, i, none⟩ = false := frozen_of R2.out
  go_region
  have S1 := Lib.hid (six_sets w3 b g 4 5 1 1048576 1 32 (fields0 g) 131 R2.out)
  clear d6 d7 d8 d9 d10 d11 df hc
  generalize hw4 : World.setCell (World.setCell (World.setCell (World.setCell (World.setCell (World.setCell w3 _ _) _ _) _ _) _ _) _ _) _ _ = w4 at *
  clear hw4
  have R5 : Hid (w4.heap[b]? = some (.cells (fields2 g) 131 (0, 0))) := Lib.hid S1.out.1
  have R6 : Hid (w4.heap[w.heap.size]? = some (.cells zeros8 131 (0, 0))) := Lib.hid (by rw [S1.out.2.block _ (Array.getElem?_eq_some_iff.1 R3.out).1 (by rw [hb.out]; omega)]; exact R3.out)
  have R7 : Hid (Below w.heap.size w w4) := Lib.hid (R4.out.trans (S1.out.2.below R4.out.size (fun k hk e => by rw [hb.out] at e; omega)))
  clear S1 R2 R3 R4
  have R5' : Hid (w4.drew.heap[b]? = some (.cells (fields2 g) 131 (0, 0))) := Lib.hid R5.out
  have R6' : Hid (w4.drew.heap[w.heap.size]? = some (.cells zeros8 131 (0, 0))) := Lib.hid R6.out
  have R7' : Hid (Below w.heap.size w w4.drew) := Lib.hid ⟨R7.out.os, R7.out.tape, R7.out.output, R7.out.size, R7.out.block⟩
  clear R5 R6 R7
  generalize w4.drew = w5 at *
  clear w4
  go_upto_region 8 with (fail)
  go_wp2_with (first
    | (refine wpList_load_row (o := ⟨some 61, _, _, _, _, _⟩) rfl 131 (.tmp 4) rfl b (by rfl) 131 (fields2 g) (0, 0) _ R5'.out Tryz.underlying131 (by rfl) (zero_of_info zero131).2 ?_)
    | (refine wpList_store_row (o := ⟨none, .store _ _ _, _, _, _, _⟩) rfl 131 (.tmp 2) (.tmp 61) rfl w.heap.size (fields2 g) (by rfl) (by rfl) 131 zeros8 R6'.out (zero_of_info zero131).2 (by rfl) (by simp [Value.oneCell']) ?_))
  exact bodyPost_ret (results_cell_tmp Tryz.results53 _ _ w.heap.size 131 (fields2 g) (0, 0) _ (.bool true) (by rfl) (by rfl) (setRow_heap _ _ _ _ _ _ R6'.out) Tryz.underlying131 (by rfl) (zero_of_info zero131).2) rfl
    ⟨rfl, below_setRow R7'.out (Nat.le_refl _) _⟩
set_option maxHeartbeats 2000000 in
set_option maxRecDepth 100000 in
theorem fields_none (g : Nat) (w : World) (k : Int) (h1 : k ≠ 1) (h2 : k ≠ 2) (hc : w.cell? ⟨g, 0, none⟩ = some (.int .i64 k)) :
    Calls Tryz.prog 53 #[.pointer (some ⟨g, 0, none⟩)] w fun e w' => e = .returned (.tuple #[.agg (fields0 g), .bool false]) ∧ Below w.heap.size w w' := by
  have hg := World.block_lt_of_cell? w _ hc
  simp only at hg
  have e1 : (k == 1) = false := by rw [beq_eq_false_iff_ne]; exact h1
  have e2 : (k == 2) = false := by rw [beq_eq_false_iff_ne]; exact h2
  clear h1 h2
  go_enter Tryz.func53, Tryz.ntmps53
  go_upto_region 1 with (fail)
  have R1 : Hid ((w.alloc (.cells zeros8 131)).drew.heap[w.heap.size]? = some (.cells zeros8 131 (0, 0)) ∧ Below w.heap.size w (w.alloc (.cells zeros8 131)).drew ∧ (w.alloc (.cells zeros8 131)).drew.heap.size = w.heap.size + 1) := Lib.hid ⟨heap_alloc_new w _, ⟨rfl, rfl, rfl, by show _ ≤ (w.heap.push _).size; simp, fun k hk => Below.heap_alloc w _ k hk⟩, by show (w.heap.push _).size = _; simp⟩
  have HC := Lib.hid hc
  clear hc
  refine wp_region_any (by kernel_rfl) ?_
  change wpAny _ _ _ _ _ _ _ (World.drew _)
  generalize (w.alloc (.cells zeros8 131)).drew = w2 at *
  refine wpAny_take (i := 0) (v := ?_) rfl (by kernel_rfl) (by kernel_rfl) (by kernel_rfl) (fun _ _ _ h => h) (Or.inl ⟨by rfl, ?_⟩) ?_
  rotate_left
  · intro w; go_simp
    try with_reducible rfl
  refine wpAny_take (i := 1) (v := ?_) rfl (by kernel_rfl) (by kernel_rfl) (by kernel_rfl) (fun _ _ _ h => h) (Or.inl ⟨by rfl, ?_⟩) ?_
  rotate_left
  · intro w; go_simp
    try with_reducible rfl
  refine wpAny_take (i := 2) (v := ?_) rfl (by kernel_rfl) (by kernel_rfl) (by kernel_rfl) (fun _ _ _ h => h) (Or.inl ⟨by rfl, ?_⟩) ?_
  rotate_left
  · intro w; go_simp
    try with_reducible rfl
  refine wpAny_take (i := 3) (v := ?_) rfl (by kernel_rfl) (by kernel_rfl) (by kernel_rfl) (fun _ _ _ h => h) (Or.inl ⟨by rfl, ?_⟩) ?_
  rotate_left
  · intro w; go_simp
    try with_reducible rfl
  refine wpAny_take (i := 4) (v := ?_) rfl (by kernel_rfl) (by kernel_rfl) (by kernel_rfl) (fun _ _ _ h => h) (Or.inl ⟨by rfl, ?_⟩) ?_
  rotate_left
  · intro w; go_simp
    try with_reducible rfl
  refine wpAny_take (i := 5) (v := ?_) rfl (by kernel_rfl) (by kernel_rfl) (by kernel_rfl) (fun _ _ _ h => h) (Or.inl ⟨by rfl, ?_⟩) ?_
  rotate_left
  · intro w; go_simp
    try with_reducible rfl
  refine wpAny_take (i := 6) (v := ?_) rfl (by kernel_rfl) (by kernel_rfl) (by kernel_rfl) (fun _ _ _ h => h) (Or.inl ⟨by rfl, ?_⟩) ?_
  rotate_left
  · intro w; go_simp
    try with_reducible rfl
  refine wpAny_take (i := 7) (v := ?_) rfl (by kernel_rfl) (by kernel_rfl) (by kernel_rfl) (fun _ _ _ h => h) (Or.inl ⟨by rfl, ?_⟩) ?_
  rotate_left
  · intro w; go_simp
    try with_reducible rfl
  refine wpAny_take (i := 8) (v := ?_) rfl (by kernel_rfl) (by kernel_rfl) (by kernel_rfl) (fun _ _ _ h => h) (Or.inl ⟨by rfl, ?_⟩) ?_
  rotate_left
  · intro w; go_simp
    try with_reducible rfl
  refine wpAny_take (i := 9) (v := ?_) rfl (by kernel_rfl) (by kernel_rfl) (by kernel_rfl) (fun _ _ _ h => h) (Or.inl ⟨by rfl, ?_⟩) ?_
  rotate_left
  · intro w; go_simp
    try with_reducible rfl
  refine wpAny_take (i := 10) (v := ?_) rfl (by kernel_rfl) (by kernel_rfl) (by kernel_rfl) (fun _ _ _ h => h) (Or.inl ⟨by rfl, ?_⟩) ?_
  rotate_left
  · intro w; go_simp
    try with_reducible rfl
  refine wpAny_take (i := 11) (v := ?_) rfl (by kernel_rfl) (by kernel_rfl) (by kernel_rfl) (fun _ _ _ h => h) (Or.inl ⟨by rfl, ?_⟩) ?_
  rotate_left
  · intro w; go_simp
    try with_reducible rfl
  refine wpAny_take (i := 12) (v := ?_) rfl (by kernel_rfl) (by kernel_rfl) (by kernel_rfl) (fun _ _ _ h => h) (Or.inl ⟨by rfl, ?_⟩) ?_
  rotate_left
  · intro w; go_simp
    try with_reducible rfl
  refine wpAny_take (i := 13) (v := ?_) rfl (by kernel_rfl) (by kernel_rfl) (by kernel_rfl) (fun _ _ _ h => h) (Or.inl ⟨by rfl, ?_⟩) ?_
  rotate_left
  · intro w; go_simp
    try with_reducible rfl
  refine wpAny_take (i := 14) (v := ?_) rfl (by kernel_rfl) (by kernel_rfl) (by kernel_rfl) (fun _ _ _ h => h) (Or.inl ⟨by rfl, ?_⟩) ?_
  rotate_left
  · intro w; go_simp
    try with_reducible rfl
  refine wpAny_take (i := 15) (v := ?_) rfl (by kernel_rfl) (by kernel_rfl) (by kernel_rfl) (fun _ _ _ h => h) (Or.inl ⟨by rfl, ?_⟩) ?_
  rotate_left
  · intro w; go_simp
    try with_reducible rfl
  refine wpAny_take (i := 16) (v := ?_) rfl (by kernel_rfl) (by kernel_rfl) (by kernel_rfl) (fun _ _ _ h => h) (Or.inl ⟨by rfl, ?_⟩) ?_
  rotate_left
  · intro w; go_simp
    try with_reducible rfl
  refine wpAny_take (i := 17) (v := ?_) rfl (by kernel_rfl) (by kernel_rfl) (by kernel_rfl) (fun _ _ _ h => h) (Or.inl ⟨by rfl, ?_⟩) ?_
  rotate_left
  · intro w; go_simp
    try with_reducible rfl
  refine wpAny_take (i := 18) (v := ?_) rfl (by kernel_rfl) (by kernel_rfl) (by kernel_rfl) (fun _ _ _ h => h) (Or.inl ⟨by rfl, ?_⟩) ?_
  rotate_left
  · intro w; go_simp
    try with_reducible rfl
  refine wpAny_take (i := 19) (v := ?_) rfl (by kernel_rfl) (by kernel_rfl) (by kernel_rfl) (fun _ _ _ h => h) (Or.inl ⟨by rfl, ?_⟩) ?_
  rotate_left
  · intro w; go_simp
    try with_reducible rfl
  refine wpAny_take (i := 20) (v := ?_) rfl (by kernel_rfl) (by kernel_rfl) (by kernel_rfl) (fun _ _ _ h => h) (Or.inl ⟨by rfl, ?_⟩) ?_
  rotate_left
  · intro w; go_simp
    try with_reducible rfl
  refine wpAny_take (i := 21) (v := ?_) rfl (by kernel_rfl) (by kernel_rfl) (by kernel_rfl) (fun _ _ _ h => h) (Or.inl ⟨by rfl, ?_⟩) ?_
  rotate_left
  · intro w; go_simp
    try with_reducible rfl
  refine wpAny_take (i := 22) (v := ?_) rfl (by kernel_rfl) (by kernel_rfl) (by kernel_rfl) (fun _ _ _ h => h) (Or.inl ⟨by rfl, ?_⟩) ?_
  rotate_left
  · intro w; go_simp
    try with_reducible rfl
  refine wpAny_take (i := 23) (v := ?_) rfl (by kernel_rfl) (by kernel_rfl) (by kernel_rfl) (fun _ _ _ h => h) (Or.inl ⟨by rfl, ?_⟩) ?_
  rotate_left
  · intro w; go_simp
    try with_reducible rfl
  refine wpAny_take (i := 24) (v := ?_) rfl (by kernel_rfl) (by kernel_rfl) (by kernel_rfl) (fun _ _ _ h => h) (Or.inl ⟨by rfl, ?_⟩) ?_
  rotate_left
  · intro w; go_simp
    try with_reducible rfl
  refine wpAny_take (i := 25) (v := ?_) rfl (by kernel_rfl) (by kernel_rfl) (by kernel_rfl) (fun _ _ _ h => h) (Or.inl ⟨by rfl, ?_⟩) ?_
  rotate_left
  · intro w; go_simp
    try with_reducible rfl
  refine wpAny_take (i := 26) (v := ?_) rfl (by kernel_rfl) (by kernel_rfl) (by kernel_rfl) (fun _ _ _ h => h) (Or.inl ⟨by rfl, ?_⟩) ?_
  rotate_left
  · intro w; go_simp
    try with_reducible rfl
  conv => arg 7; simp [Act.put, go_sem]
  refine wpAny_ready (rs := [27]) (by kernel_rfl) (by simp) ?_
  refine AllReady.cons rfl (fun K hK => ?_) AllReady.nil
  refine step_alloc rfl _ rfl _ (zero_of_info zero131).1 ?_
  refine hK _ _ ?_
  clear hK K
  conv => arg 7; simp [Act.put, go_sem]
  refine wpAny_ready (rs := [28]) (by kernel_rfl) (by simp) ?_
  refine AllReady.cons rfl (fun K hK => ?_) AllReady.nil
  refine step_store_row rfl _ _ _ rfl w2.heap.size (fields0 g) (by rfl) (by rfl) 131 _ (heap_alloc_new w2 _) (zero_of_info zero131).2 (by rfl) (by simp [Value.oneCell']) ?_
  refine hK _ _ ?_
  clear hK K
  refine wpAny_done (by kernel_rfl) ?_ _
  have R2 : Hid (((w2.alloc (.cells zeros8 131)).setRow w2.heap.size (fields0 g)).heap[w2.heap.size]? = some (.cells (fields0 g) 131 (0, 0))) := Lib.hid (setRow_heap _ w2.heap.size _ (fields0 g) 131 (0, 0) (heap_alloc_new w2 _))
  have R3 : Hid (((w2.alloc (.cells zeros8 131)).setRow w2.heap.size (fields0 g)).heap[w.heap.size]? = some (.cells zeros8 131 (0, 0))) := Lib.hid (by
    rw [setRow_other _ _ _ _ (by rw [R1.out.2.2]; omega), Below.heap_alloc _ _ _ (by rw [R1.out.2.2]; omega)]
    exact R1.out.1)
  have R4 : Hid (Below w.heap.size w ((w2.alloc (.cells zeros8 131)).setRow w2.heap.size (fields0 g))) := Lib.hid (below_setRow (R1.out.2.1.alloc (by rw [R1.out.2.2]; omega) _) (by rw [R1.out.2.2]; omega) _)
  have hb : Hid (w2.heap.size = w.heap.size + 1) := Lib.hid R1.out.2.2
  clear R1
  change Exit.then _ _ _ _ ((w2.alloc (.cells zeros8 131)).setRow w2.heap.size (fields0 g))
  generalize (w2.alloc (.cells zeros8 131)).setRow w2.heap.size (fields0 g) = w3 at *
  generalize w2.heap.size = b at *
  clear w2
  have hc : w3.cell? ⟨g, 0, none⟩ = some (.int .i64 k) := (R4.out.cell (p := ⟨g, 0, none⟩) hg).trans HC.out
  have R5 := R2
  have R6 := R3
  have R7 := R4
  clear R2 R3 R4
  have R5' : Hid (w3.heap[b]? = some (.cells (fields0 g) 131 (0, 0))) := Lib.hid R5.out
  have R6' : Hid (w3.heap[w.heap.size]? = some (.cells zeros8 131 (0, 0))) := Lib.hid R6.out
  have R7' : Hid (Below w.heap.size w w3) := Lib.hid ⟨R7.out.os, R7.out.tape, R7.out.output, R7.out.size, R7.out.block⟩
  clear R5 R6 R7
  go_upto_region 3 with (fail)
  go_wp2_with (first
    | (refine wpList_load_row (o := ⟨some 36, _, _, _, _, _⟩) rfl 131 (.tmp 4) rfl b (by rfl) 131 (fields0 g) (0, 0) _ R5'.out Tryz.underlying131 (by rfl) (zero_of_info zero131).2 ?_)
    | (refine wpList_store_row (o := ⟨none, .store _ _ _, _, _, _, _⟩) rfl 131 (.tmp 2) (.tmp 36) rfl w.heap.size (fields0 g) (by rfl) (by rfl) 131 zeros8 R6'.out (zero_of_info zero131).2 (by rfl) (by simp [Value.oneCell']) ?_))
  exact bodyPost_ret (results_cell_tmp Tryz.results53 _ _ w.heap.size 131 (fields0 g) (0, 0) _ (.bool false) (by rfl) (by rfl) (setRow_heap _ _ _ _ _ _ R6'.out) Tryz.underlying131 (by rfl) (zero_of_info zero131).2) rfl
    ⟨rfl, below_setRow R7'.out (Nat.le_refl _) _⟩
end Go.Proofs.YtcmndglhileeoaaGreat

/- The walks of package policy: Right. -/
set_option linter.unusedSimpArgs false
set_option linter.unusedVariables false
namespace Go.Proofs.YtcmndglhileeoaaGreat
open Go.RowKit

def tab1 : List (Nat × Int × Int) := [(0, 1, 2), (1, 1, 1048576), (2, 1, 65536), (3, 1, 65536), (6, 1, 1000), (7, 1, 64), (8, 0, 1000), (9, 1, 1000)]
def tab2 : List (Nat × Int × Int) := [(0, 1, 2), (1, 1, 1048576), (4, 1, 1048576), (5, 1, 32), (6, 1, 1000), (7, 1, 64), (8, 0, 1000), (9, 1, 1000)]
set_option maxRecDepth 100000 in
theorem index1 (g k : Nat) (off : Nat) (lo hi : Int) (h : tab1[k]? = some (off, lo, hi)) (w : World) : (Instr.index 131 (.agg (fields1 g)) (.int .i64 (k : Int))).run Tryz.prog w = .ok (.agg #[fp g off, .int .i64 lo, .int .i64 hi]) w := by
  have hk : k < 8 := (List.getElem?_eq_some_iff.1 h).1
  have hs : k = 0 ∨ k = 1 ∨ k = 2 ∨ k = 3 ∨ k = 4 ∨ k = 5 ∨ k = 6 ∨ k = 7 := by omega
  rcases hs with rfl | rfl | rfl | rfl | rfl | rfl | rfl | rfl <;> simp [tab1] at h <;> obtain ⟨rfl, rfl, rfl⟩ := h <;> rfl
set_option maxRecDepth 100000 in
theorem index2 (g k : Nat) (off : Nat) (lo hi : Int) (h : tab2[k]? = some (off, lo, hi)) (w : World) : (Instr.index 131 (.agg (fields2 g)) (.int .i64 (k : Int))).run Tryz.prog w = .ok (.agg #[fp g off, .int .i64 lo, .int .i64 hi]) w := by
  have hk : k < 8 := (List.getElem?_eq_some_iff.1 h).1
  have hs : k = 0 ∨ k = 1 ∨ k = 2 ∨ k = 3 ∨ k = 4 ∨ k = 5 ∨ k = 6 ∨ k = 7 := by omega
  rcases hs with rfl | rfl | rfl | rfl | rfl | rfl | rfl | rfl <;> simp [tab2] at h <;> obtain ⟨rfl, rfl, rfl⟩ := h <;> rfl

theorem wpList_alloc {P : Program} {ops : Array Oper} {rest : List Oper} {o : Oper} {a : Act} {w : World} {Q : Exit → Act → World → Prop} (hgd : o.guard = none) (t : TypeId) (ho : o.op = .alloc t) (z : Value)
    (hz : ∀ w, (zeroValue t).run P w = .ok z w) (h : wpList P ops Q rest (a.put o.dst (.pointer (some ⟨w.heap.size, 0, none⟩))) (w.alloc (.cells z.cells t))) : wpList P ops Q (o :: rest) a w :=
  wpList_plain hgd fun K hK => by
    unfold Oper.wp
    simp [execOp, ho, hz, Result.andThen, newVar, newRow, go_sem]
    exact hK _ _ h

abbrev polCells (p : Rv.Pol) : Array Value := #[.int .i64 p.kind, .int .i64 p.cap, .int .i64 p.num, .int .i64 p.den, .int .i64 p.width, .int .i64 p.count, .int .i64 p.keys, .int .i64 p.slots, .int .i64 p.every, .int .i64 p.seg]

def FieldsRes (w : World) (b : Bool) (F0 : Array Value) (e : Ending) (w' : World) : Prop := ∃ F, Hid (F = F0) ∧ e = .returned (.tuple #[.agg F, .bool b]) ∧ Below w.heap.size w w'
theorem fieldsN (g : Nat) (w : World) (k : Int) (h1 : k ≠ 1) (h2 : k ≠ 2) (hc : w.cell? ⟨g, 0, none⟩ = some (.int .i64 k)) : Calls Tryz.prog 53 #[.pointer (some ⟨g, 0, none⟩)] w (FieldsRes w false (fields0 g)) :=
  (fields_none g w k h1 h2 hc).mono fun _ _ h => ⟨_, Lib.hid rfl, h.1, h.2⟩
theorem F24 {F : Array Value} {g : Nat} (h : F = fields0 g ∨ F = fields1 g ∨ F = fields2 g) : F.size = 24 ∧ F.all (·.oneCell') = true := by
  rcases h with rfl | rfl | rfl <;> exact ⟨rfl, by simp [Value.oneCell']⟩

set_option maxHeartbeats 2000000 in
set_option maxRecDepth 100000 in
theorem right_none (p : Rv.Pol) (w : World) (h1 : p.kind ≠ 1) (h2 : p.kind ≠ 2) :
    Calls Tryz.prog 54 #[.agg #[.int .i64 p.kind, .int .i64 p.cap, .int .i64 p.num, .int .i64 p.den, .int .i64 p.width, .int .i64 p.count, .int .i64 p.keys, .int .i64 p.slots, .int .i64 p.every, .int .i64 p.seg]] w fun e w' => e = .returned (.int .i64 40) ∧ Below w.heap.size w w' := by
  have HB := Lib.hid (fun o => (Below.refl w.heap.size w).alloc (Nat.le_refl _) o)
  have H1 := Lib.hid h1
  have H2 := Lib.hid h2
  clear h1 h2
  go_enter Tryz.func54, Tryz.ntmps54
  go_wp2_with fail
  refine (fieldsN w.heap.size _ p.kind H1.out H2.out (by go_simp)).mono ?_
  rintro e w1 ⟨F, HF, rfl, b1⟩
  have HS := F24 (.inl HF.out)
  have hi : Hid ((Tryz.prog.info? 131).map (·.size) = some F.size) := Lib.hid (by rw [HS.1]; exact (zero_of_info zero131).2)
  have ho : Hid (zeros8.size = F.size) := Lib.hid (by rw [HS.1]; rfl)
  have h1c := Lib.hid HS.2
  clear HS
  have B1 := Lib.hid (below_then (HB.out _) (by simp) b1)
  clear b1
  go_upto_region 2 with (first
    | (refine wpList_alloc (o := ⟨some 3, .alloc _, _, _, _, _⟩) rfl 131 rfl (.agg zeros8) (zero_of_info zero131).1 ?_)
    | (refine wpList_store_row (o := ⟨none, .store _ _ _, _, _, _, _⟩) rfl 131 (.tmp 3) (.tmp 9) rfl w1.heap.size F (by rfl) (by rfl) 131 zeros8 (heap_alloc_new w1 _) hi.out ho.out h1c.out ?_; have R := Lib.hid (below_setRow (B1.out.alloc B1.out.size (.cells zeros8 131)) B1.out.size F); change wpList _ _ _ _ _ ((w1.alloc (.cells zeros8 131)).setRow w1.heap.size F); generalize (w1.alloc (.cells zeros8 131)).setRow w1.heap.size F = w9 at *; clear B1))
  clear hi ho h1c HF H1 H2 HB
  go_wp2_with fail
  go_ret
  exact ⟨rfl, R.out⟩
end Go.Proofs.YtcmndglhileeoaaGreat

/- The walks of package policy: Right, of a policy of a kind. -/
set_option linter.unusedSimpArgs false
set_option linter.unusedVariables false
namespace Go.Proofs.YtcmndglhileeoaaGreat
open Go.RowKit
open Rv (HP Sat Same pt allOf sat_all RdIn)

def tabOf (kind : Int) : List (Nat × Int × Int) := if kind = 1 then tab1 else tab2
/-- What fields tells: of the policy at g. -/
structure TabOf (F : Array Value) (g : Nat) (T : List (Nat × Int × Int)) : Prop where
  size : F.size = 24
  one : F.all (·.oneCell') = true
  len : T.length = 8
  at_ : ∀ (k off : Nat) (lo hi : Int), T[k]? = some (off, lo, hi) → ∀ w, (Instr.index 131 (.agg F) (.int .i64 (k : Int))).run Tryz.prog w = .ok (.agg #[fp g off, .int .i64 lo, .int .i64 hi]) w
  cells : ∀ (k off : Nat) (lo hi : Int), T[k]? = some (off, lo, hi) → F[3 * k]? = some (fp g off) ∧ F[3 * k + 1]? = some (.int .i64 lo) ∧ F[3 * k + 2]? = some (.int .i64 hi)
theorem tab_one (g : Nat) : TabOf (fields1 g) g tab1 := ⟨rfl, by simp [Value.oneCell'], rfl, fun k off lo hi h w => index1 g k off lo hi h w, fun k off lo hi h => by
  have hk : k < 8 := (List.getElem?_eq_some_iff.1 h).1
  have hs : k = 0 ∨ k = 1 ∨ k = 2 ∨ k = 3 ∨ k = 4 ∨ k = 5 ∨ k = 6 ∨ k = 7 := by omega
  rcases hs with rfl | rfl | rfl | rfl | rfl | rfl | rfl | rfl <;> simp [tab1] at h <;> obtain ⟨rfl, rfl, rfl⟩ := h <;> exact ⟨rfl, rfl, rfl⟩⟩
theorem tab_two (g : Nat) : TabOf (fields2 g) g tab2 := ⟨rfl, by simp [Value.oneCell'], rfl, fun k off lo hi h w => index2 g k off lo hi h w, fun k off lo hi h => by
  have hk : k < 8 := (List.getElem?_eq_some_iff.1 h).1
  have hs : k = 0 ∨ k = 1 ∨ k = 2 ∨ k = 3 ∨ k = 4 ∨ k = 5 ∨ k = 6 ∨ k = 7 := by omega
  rcases hs with rfl | rfl | rfl | rfl | rfl | rfl | rfl | rfl <;> simp [tab2] at h <;> obtain ⟨rfl, rfl, rfl⟩ := h <;> exact ⟨rfl, rfl, rfl⟩⟩
theorem fields_tab (g : Nat) (w : World) (k : Int) (h : k = 1 ∨ k = 2) (hc : w.cell? ⟨g, 0, none⟩ = some (.int .i64 k)) :
    Calls Tryz.prog 53 #[.pointer (some ⟨g, 0, none⟩)] w fun e w' => ∃ F, TabOf F g (tabOf k) ∧ e = .returned (.tuple #[.agg F, .bool true]) ∧ Below w.heap.size w w' := by
  rcases h with rfl | rfl
  · exact (fields_one g w hc).mono fun _ _ h => ⟨_, tab_one g, h.1, h.2⟩
  · exact (fields_two g w hc).mono fun _ _ h => ⟨_, tab_two g, h.1, h.2⟩

def fld (p : Rv.Pol) : Nat → Int
  | 0 => p.kind | 1 => p.cap | 2 => p.num | 3 => p.den | 4 => p.width | 5 => p.count | 6 => p.keys | 7 => p.slots | 8 => p.every | 9 => p.seg | _ => 0
theorem fields_map (p : Rv.Pol) (h : p.kind = 1 ∨ p.kind = 2) : p.fields = (tabOf p.kind).map fun t => (fld p t.1, t.2.1, t.2.2) := by
  unfold Rv.Pol.fields tabOf
  rcases h with h | h
  · rw [if_pos h, if_pos h]; rfl
  · have h1 : p.kind ≠ 1 := by omega
    rw [if_neg h1, if_neg h1]; rfl
theorem cell_fld (p : Rv.Pol) (off : Nat) (h : off < 10) : (polCells p)[off]? = some (.int .i64 (fld p off)) := by
  have : off = 0 ∨ off = 1 ∨ off = 2 ∨ off = 3 ∨ off = 4 ∨ off = 5 ∨ off = 6 ∨ off = 7 ∨ off = 8 ∨ off = 9 := by omega
  rcases this with rfl | rfl | rfl | rfl | rfl | rfl | rfl | rfl | rfl | rfl <;> rfl
theorem tab_off {kind : Int} {k off : Nat} {lo hi : Int} (h : (tabOf kind)[k]? = some (off, lo, hi)) : off < 10 := by
  have h2 := List.mem_of_getElem? h
  unfold tabOf at h2
  split at h2 <;> simp [tab1, tab2] at h2 <;> omega
theorem tab_len (kind : Int) : (tabOf kind).length = 8 := by unfold tabOf; split <;> rfl

/-- The first k fields are in their bounds. -/
def InFor (p : Rv.Pol) (k : Nat) : Prop := ∀ j, j < k → ∀ (off : Nat) (lo hi : Int), (tabOf p.kind)[j]? = some (off, lo, hi) → lo ≤ fld p off ∧ fld p off ≤ hi
theorem all_iff (p : Rv.Pol) (h : p.kind = 1 ∨ p.kind = 2) : (p.fields.all fun f => Rv.inB f.1 f.2.1 f.2.2) = true ↔ InFor p 8 := by
  rw [fields_map p h, List.all_eq_true]
  constructor
  · intro ha j hj off lo hi ht
    have := ha _ (List.mem_map.2 ⟨_, List.mem_of_getElem? ht, rfl⟩)
    simpa [Rv.inB] using this
  · intro hf x hx
    obtain ⟨⟨off, lo, hi⟩, ht, rfl⟩ := List.mem_map.1 hx
    obtain ⟨j, hj⟩ := List.getElem?_of_mem ht
    have := hf j (by have := (List.getElem?_eq_some_iff.1 hj).1; rw [tab_len] at this; exact this) off lo hi hj
    simpa [Rv.inB] using this

theorem _root_.Go.RowKit.Below.drewN {B : Nat} {a w : World} (h : Below B a w) (n : Nat) : Below B a (w.drewN n) := ⟨h.os, h.tape, h.output, h.size, h.block⟩
def RightRes (w : World) (p : Rv.Pol) (e : Ending) (w' : World) : Prop := e = .returned (.int .i64 p.right) ∧ Below w.heap.size w w'
theorem right_40 {p : Rv.Pol} (h : p.ok = false) : p.right = 40 := by unfold Rv.Pol.right; rw [h]; rfl
theorem right_0 {p : Rv.Pol} (h : p.ok = true) : p.right = 0 := by unfold Rv.Pol.right; rw [h]; rfl
theorem ok_out {p : Rv.Pol} (h : p.kind = 1 ∨ p.kind = 2) {k off : Nat} {lo hi : Int} (ht : (tabOf p.kind)[k]? = some (off, lo, hi)) (hv : fld p off < lo ∨ hi < fld p off) : p.ok = false := by
  unfold Rv.Pol.ok
  have : (p.fields.all fun f => Rv.inB f.1 f.2.1 f.2.2) = false := by
    cases ha : (p.fields.all fun f => Rv.inB f.1 f.2.1 f.2.2) with
    | false => rfl
    | true =>
      have h1 := (all_iff p h).1 ha k (by have := (List.getElem?_eq_some_iff.1 ht).1; rw [tab_len] at this; exact this) off lo hi ht
      omega
  rw [this, Bool.and_false]

theorem ok_one {p : Rv.Pol} (h : p.kind = 1) : p.ok = (!(p.width != 0) && !(p.count != 0) && (p.fields.all fun f => Rv.inB f.1 f.2.1 f.2.2)) := by
  unfold Rv.Pol.ok
  have e1 : decide (p.kind = 1) = true := by simp [h]
  have e2 : decide (p.kind = 2) = false := by simp [h]
  rw [e1, e2]
  simp only [Bool.true_and, Bool.false_and, Bool.or_false, bne, Bool.not_not]
  rfl
theorem ok_two {p : Rv.Pol} (h : p.kind = 2) : p.ok = (!(p.num != 0) && !(p.den != 0) && (p.fields.all fun f => Rv.inB f.1 f.2.1 f.2.2)) := by
  unfold Rv.Pol.ok
  have e1 : decide (p.kind = 2) = true := by simp [h]
  have e2 : decide (p.kind = 1) = false := by simp [h]
  rw [e1, e2]
  simp only [Bool.true_and, Bool.false_and, Bool.false_or, bne, Bool.not_not]
  rfl

/-- What stands in the loop of Right. -/
def RightMid (w wr : World) (p : Rv.Pol) : Prop := Sat wr (pt w.heap.size (.cells (polCells p) 33) * allOf w) ∧ Same w wr
theorem RightMid.below {w wr : World} {p : Rv.Pol} (h : RightMid w wr p) : Below w.heap.size w wr := h.2.to_below (h.1.perm (Rv.star_comm _ _))

set_option maxHeartbeats 4000000 in
set_option maxRecDepth 100000 in
theorem right_one (p : Rv.Pol) (w : World) (h1 : p.kind = 1) (b1 b2 : Bool) (hb1 : (p.width != 0) = b1) (hb2 : (p.count != 0) = b2) :
    Calls Tryz.prog 54 #[.agg (polCells p)] w (RightRes w p) := by
  have S0 := Lib.hid ((sat_all w).alloc (.cells (polCells p) 33))
  have HB := Lib.hid (fun o => (Below.refl w.heap.size w).alloc (Nat.le_refl _) o)
  have H1 := Lib.hid h1
  have Hb1 := Lib.hid hb1
  have Hb2 := Lib.hid hb2
  clear h1 hb1 hb2
  go_enter Tryz.func54, Tryz.ntmps54
  go_wp2_with fail
  refine (fields_tab w.heap.size _ p.kind (.inl H1.out) (by go_simp)).mono ?_
  rintro e w1 ⟨F, HT, rfl, b1⟩
  have HF := Lib.hid HT
  have hi : Hid ((Tryz.prog.info? 131).map (·.size) = some F.size) := Lib.hid (by rw [HT.size]; exact (zero_of_info zero131).2)
  have ho : Hid (zeros8.size = F.size) := Lib.hid (by rw [HT.size]; rfl)
  have h1c := Lib.hid HT.one
  clear HT
  have B1 := Lib.hid (below_then (HB.out _) (by simp) b1)
  have S1 := Lib.hid ((S0.out.below b1).alloc (.cells zeros8 131))
  clear b1 S0 HB
  go_upto_region 2 with (first
    | (refine wpList_alloc (o := ⟨some 3, .alloc _, _, _, _, _⟩) rfl 131 rfl (.agg zeros8) (zero_of_info zero131).1 ?_)
    | (refine wpList_store_row (o := ⟨none, .store _ _ _, _, _, _, _⟩) rfl 131 (.tmp 3) (.tmp 9) rfl w1.heap.size F (by rfl) (by rfl) 131 zeros8 (heap_alloc_new w1 _) hi.out ho.out h1c.out ?_; have S2 := Lib.hid (S1.out.put (setRow_heap _ w1.heap.size _ F 131 (0, 0) (heap_alloc_new w1 _)) (fun k hk => setRow_other _ _ _ _ hk)); have R := Lib.hid (below_setRow (B1.out.alloc B1.out.size (.cells zeros8 131)) B1.out.size F); change wpList _ _ _ _ _ ((w1.alloc (.cells zeros8 131)).setRow w1.heap.size F); generalize (w1.alloc (.cells zeros8 131)).setRow w1.heap.size F = w9 at *; clear B1 S1; generalize w1.heap.size = gf at *; clear w1))
  have q9 := S2.out.right.heap
  have d0 : w9.cell? ⟨w.heap.size, 0, none⟩ = some (.int .i64 1) := by rw [cells_of q9]; show some (Value.int .i64 p.kind) = _; rw [H1.out]
  have d4 : w9.cell? ⟨w.heap.size, 4, none⟩ = some (.int .i64 p.width) := by rw [cells_of q9]; rfl
  have d5 : w9.cell? ⟨w.heap.size, 5, none⟩ = some (.int .i64 p.count) := by rw [cells_of q9]; rfl
  have M9 : Hid (RightMid w w9 p) := Lib.hid ⟨S2.out.right, Same.below R.out⟩
  have G9 := Lib.hid S2.out.heap
  clear S2 R q9
  cases b1 with
  | true =>
    have e1 := Hb1.out
    clear hi ho h1c HF G9
    go_wp2_with fail
    go_ret
    exact ⟨by rw [right_40 (by rw [ok_one H1.out, Hb1.out]; rfl)]; rfl, M9.out.below⟩
  | false =>
    cases b2 with
    | true =>
      have e1 := Hb1.out
      have e2 := Hb2.out
      clear hi ho h1c HF G9
      go_wp2_with fail
      go_ret
      exact ⟨by rw [right_40 (by rw [ok_one H1.out, Hb1.out, Hb2.out]; rfl)]; rfl, M9.out.below⟩
    | false =>
      have e1 := Hb1.out
      have e2 := Hb2.out
      go_upto_region 4 with (fail)
      clear e1 e2 d0 d4 d5
      go_wp2_with (refine wpList_load_row (o := ⟨some 43, _, _, _, _, _⟩) rfl 131 (.tmp 3) rfl gf (by rfl) 131 F (0, 0) _ G9.out Tryz.underlying131 (by rfl) hi.out ?_)
      have HT := Lib.hid HF.out.at_
      rw [show tabOf p.kind = tabOf p.kind from rfl] at HT
      have Hok : Hid (p.ok = (p.fields.all fun f => Rv.inB f.1 f.2.1 f.2.2)) := Lib.hid (by rw [ok_one H1.out, Hb1.out, Hb2.out]; rfl)
      clear hi ho h1c HF G9 Hb1 Hb2
      go_loopw [44] (fun i wr => ∃ k : Nat, k ≤ 8 ∧ i = .int .i64 k ∧ InFor p k ∧ RightMid w wr p) (fun i _ => 8 - (intOf i).toNat)
      case atStart => exact ⟨0, by omega, rfl, fun j hj => by omega, M9.out⟩
      case round =>
        obtain ⟨k, hk, rfl, hin, hm⟩ := hrel
        have Hin := Lib.hid hin
        have Hm := Lib.hid hm
        clear hin hm M9
        by_cases hlt : k < 8
        · obtain ⟨⟨off, lo, hi⟩, ht⟩ := some_at (xs := tabOf p.kind) (i := k) (by rw [tab_len]; exact hlt)
          have hidx := HT.out k off lo hi ht
          have Ht := Lib.hid ht
          have hoff := tab_off ht
          clear ht
          have hc : wr.cell? ⟨w.heap.size, off, none⟩ = some (.int .i64 (fld p off)) := by rw [cells_of Hm.out.1.heap]; exact cell_fld p off hoff
          have hsz : w.heap.size < wr.heap.size := Hm.out.1.lt
          go_upto_region 7 with (fail)
          have Hm2 : Hid (RightMid w (wr.alloc (.cells #[fp w.heap.size off, .int .i64 lo, .int .i64 hi] 130)) p) := Lib.hid ⟨(Hm.out.1.alloc _).right, Same.then Hm.out.2 (Same.of (Kept.alloc (Kept.refl (fun _ => False) _) _))⟩
          have hc2 : (wr.alloc (.cells #[fp w.heap.size off, .int .i64 lo, .int .i64 hi] 130)).cell? ⟨w.heap.size, off, none⟩ = some (.int .i64 (fld p off)) := by rw [cells_of Hm2.out.1.heap]; exact cell_fld p off hoff
          clear hc hidx Hm
          by_cases hlo : fld p off < lo
          · have e1 : decide (fld p off < lo) = true := by simpa using hlo
            go_quiet (fail)
            go_wp2_with fail
            go_ret
            exact ⟨by rw [right_40 (ok_out (.inl H1.out) Ht.out (.inl hlo))]; rfl, Hm2.out.below.drewN nq⟩
          · have e1 : decide (fld p off < lo) = false := by simpa using hlo
            by_cases hhi : hi < fld p off
            · have e2 : decide (hi < fld p off) = true := by simpa using hhi
              go_quiet (fail)
              go_wp2_with fail
              go_ret
              exact ⟨by rw [right_40 (ok_out (.inl H1.out) Ht.out (.inr hhi))]; rfl, Hm2.out.below.drewN nq⟩
            · have e2 : decide (hi < fld p off) = false := by simpa using hhi
              go_quiet (fail)
              go_wp2_with fail
              go_roundw
              case rel =>
                refine ⟨k + 1, by omega, by go_num, ?_, ⟨Hm2.out.1, Hm2.out.2.drewN nq⟩⟩
                intro j hj o l h hjt
                by_cases hjk : j < k
                · exact Hin.out j hjk o l h hjt
                · obtain rfl : j = k := by omega
                  rw [Ht.out] at hjt
                  injection hjt with hjt
                  injection hjt with h1 h2
                  injection h2 with h2 h3
                  subst h1; subst h2; subst h3
                  omega
              case measure => simp [intOf]; omega
        · obtain rfl : k = 8 := by omega
          go_wp2_with fail
          go_ret
          exact ⟨by rw [right_0 (by rw [Hok.out]; exact (all_iff p (.inl H1.out)).2 Hin.out)]; rfl, Hm.out.below⟩
set_option maxHeartbeats 4000000 in
set_option maxRecDepth 100000 in
theorem right_two (p : Rv.Pol) (w : World) (h1 : p.kind = 2) (b1 b2 : Bool) (hb1 : (p.num != 0) = b1) (hb2 : (p.den != 0) = b2) :
    Calls Tryz.prog 54 #[.agg (polCells p)] w (RightRes w p) := by
  have S0 := Lib.hid ((sat_all w).alloc (.cells (polCells p) 33))
  have HB := Lib.hid (fun o => (Below.refl w.heap.size w).alloc (Nat.le_refl _) o)
  have H1 := Lib.hid h1
  have Hb1 := Lib.hid hb1
  have Hb2 := Lib.hid hb2
  clear h1 hb1 hb2
  go_enter Tryz.func54, Tryz.ntmps54
  go_wp2_with fail
  refine (fields_tab w.heap.size _ p.kind (.inr H1.out) (by go_simp)).mono ?_
  rintro e w1 ⟨F, HT, rfl, b1⟩
  have HF := Lib.hid HT
  have hi : Hid ((Tryz.prog.info? 131).map (·.size) = some F.size) := Lib.hid (by rw [HT.size]; exact (zero_of_info zero131).2)
  have ho : Hid (zeros8.size = F.size) := Lib.hid (by rw [HT.size]; rfl)
  have h1c := Lib.hid HT.one
  clear HT
  have B1 := Lib.hid (below_then (HB.out _) (by simp) b1)
  have S1 := Lib.hid ((S0.out.below b1).alloc (.cells zeros8 131))
  clear b1 S0 HB
  go_upto_region 2 with (first
    | (refine wpList_alloc (o := ⟨some 3, .alloc _, _, _, _, _⟩) rfl 131 rfl (.agg zeros8) (zero_of_info zero131).1 ?_)
    | (refine wpList_store_row (o := ⟨none, .store _ _ _, _, _, _, _⟩) rfl 131 (.tmp 3) (.tmp 9) rfl w1.heap.size F (by rfl) (by rfl) 131 zeros8 (heap_alloc_new w1 _) hi.out ho.out h1c.out ?_; have S2 := Lib.hid (S1.out.put (setRow_heap _ w1.heap.size _ F 131 (0, 0) (heap_alloc_new w1 _)) (fun k hk => setRow_other _ _ _ _ hk)); have R := Lib.hid (below_setRow (B1.out.alloc B1.out.size (.cells zeros8 131)) B1.out.size F); change wpList _ _ _ _ _ ((w1.alloc (.cells zeros8 131)).setRow w1.heap.size F); generalize (w1.alloc (.cells zeros8 131)).setRow w1.heap.size F = w9 at *; clear B1 S1; generalize w1.heap.size = gf at *; clear w1))
  have q9 := S2.out.right.heap
  have d0 : w9.cell? ⟨w.heap.size, 0, none⟩ = some (.int .i64 2) := by rw [cells_of q9]; show some (Value.int .i64 p.kind) = _; rw [H1.out]
  have d4 : w9.cell? ⟨w.heap.size, 2, none⟩ = some (.int .i64 p.num) := by rw [cells_of q9]; rfl
  have d5 : w9.cell? ⟨w.heap.size, 3, none⟩ = some (.int .i64 p.den) := by rw [cells_of q9]; rfl
  have M9 : Hid (RightMid w w9 p) := Lib.hid ⟨S2.out.right, Same.below R.out⟩
  have G9 := Lib.hid S2.out.heap
  clear S2 R q9
  cases b1 with
  | true =>
    have e1 := Hb1.out
    clear hi ho h1c HF G9
    go_wp2_with fail
    go_ret
    exact ⟨by rw [right_40 (by rw [ok_two H1.out, Hb1.out]; rfl)]; rfl, M9.out.below⟩
  | false =>
    cases b2 with
    | true =>
      have e1 := Hb1.out
      have e2 := Hb2.out
      clear hi ho h1c HF G9
      go_wp2_with fail
      go_ret
      exact ⟨by rw [right_40 (by rw [ok_two H1.out, Hb1.out, Hb2.out]; rfl)]; rfl, M9.out.below⟩
    | false =>
      have e1 := Hb1.out
      have e2 := Hb2.out
      go_upto_region 4 with (fail)
      clear e1 e2 d0 d4 d5
      go_wp2_with (refine wpList_load_row (o := ⟨some 43, _, _, _, _, _⟩) rfl 131 (.tmp 3) rfl gf (by rfl) 131 F (0, 0) _ G9.out Tryz.underlying131 (by rfl) hi.out ?_)
      have HT := Lib.hid HF.out.at_
      rw [show tabOf p.kind = tabOf p.kind from rfl] at HT
      have Hok : Hid (p.ok = (p.fields.all fun f => Rv.inB f.1 f.2.1 f.2.2)) := Lib.hid (by rw [ok_two H1.out, Hb1.out, Hb2.out]; rfl)
      clear hi ho h1c HF G9 Hb1 Hb2
      go_loopw [44] (fun i wr => ∃ k : Nat, k ≤ 8 ∧ i = .int .i64 k ∧ InFor p k ∧ RightMid w wr p) (fun i _ => 8 - (intOf i).toNat)
      case atStart => exact ⟨0, by omega, rfl, fun j hj => by omega, M9.out⟩
      case round =>
        obtain ⟨k, hk, rfl, hin, hm⟩ := hrel
        have Hin := Lib.hid hin
        have Hm := Lib.hid hm
        clear hin hm M9
        by_cases hlt : k < 8
        · obtain ⟨⟨off, lo, hi⟩, ht⟩ := some_at (xs := tabOf p.kind) (i := k) (by rw [tab_len]; exact hlt)
          have hidx := HT.out k off lo hi ht
          have Ht := Lib.hid ht
          have hoff := tab_off ht
          clear ht
          have hc : wr.cell? ⟨w.heap.size, off, none⟩ = some (.int .i64 (fld p off)) := by rw [cells_of Hm.out.1.heap]; exact cell_fld p off hoff
          have hsz : w.heap.size < wr.heap.size := Hm.out.1.lt
          go_upto_region 7 with (fail)
          have Hm2 : Hid (RightMid w (wr.alloc (.cells #[fp w.heap.size off, .int .i64 lo, .int .i64 hi] 130)) p) := Lib.hid ⟨(Hm.out.1.alloc _).right, Same.then Hm.out.2 (Same.of (Kept.alloc (Kept.refl (fun _ => False) _) _))⟩
          have hc2 : (wr.alloc (.cells #[fp w.heap.size off, .int .i64 lo, .int .i64 hi] 130)).cell? ⟨w.heap.size, off, none⟩ = some (.int .i64 (fld p off)) := by rw [cells_of Hm2.out.1.heap]; exact cell_fld p off hoff
          clear hc hidx Hm
          by_cases hlo : fld p off < lo
          · have e1 : decide (fld p off < lo) = true := by simpa using hlo
            go_quiet (fail)
            go_wp2_with fail
            go_ret
            exact ⟨by rw [right_40 (ok_out (.inr H1.out) Ht.out (.inl hlo))]; rfl, Hm2.out.below.drewN nq⟩
          · have e1 : decide (fld p off < lo) = false := by simpa using hlo
            by_cases hhi : hi < fld p off
            · have e2 : decide (hi < fld p off) = true := by simpa using hhi
              go_quiet (fail)
              go_wp2_with fail
              go_ret
              exact ⟨by rw [right_40 (ok_out (.inr H1.out) Ht.out (.inr hhi))]; rfl, Hm2.out.below.drewN nq⟩
            · have e2 : decide (hi < fld p off) = false := by simpa using hhi
              go_quiet (fail)
              go_wp2_with fail
              go_roundw
              case rel =>
                refine ⟨k + 1, by omega, by go_num, ?_, ⟨Hm2.out.1, Hm2.out.2.drewN nq⟩⟩
                intro j hj o l h hjt
                by_cases hjk : j < k
                · exact Hin.out j hjk o l h hjt
                · obtain rfl : j = k := by omega
                  rw [Ht.out] at hjt
                  injection hjt with hjt
                  injection hjt with h1 h2
                  injection h2 with h2 h3
                  subst h1; subst h2; subst h3
                  omega
              case measure => simp [intOf]; omega
        · obtain rfl : k = 8 := by omega
          go_wp2_with fail
          go_ret
          exact ⟨by rw [right_0 (by rw [Hok.out]; exact (all_iff p (.inr H1.out)).2 Hin.out)]; rfl, Hm.out.below⟩

theorem pright_any (p : Rv.Pol) (w : World) : Calls Tryz.prog 54 #[.agg (polCells p)] w (RightRes w p) := by
  by_cases h1 : p.kind = 1
  · exact right_one p w h1 _ _ rfl rfl
  · by_cases h2 : p.kind = 2
    · exact right_two p w h2 _ _ rfl rfl
    · refine (right_none p w h1 h2).mono ?_
      rintro e w' ⟨rfl, hb⟩
      refine ⟨?_, hb⟩
      rw [right_40]
      unfold Rv.Pol.ok
      rw [decide_eq_false h1, decide_eq_false h2]
      rfl
end Go.Proofs.YtcmndglhileeoaaGreat

/- Steps of a walk over parts of memory: append. No program beyond its name. -/
set_option linter.unusedSimpArgs false
set_option linter.unusedVariables false
namespace Go.Proofs.YtcmndglhileeoaaGreat
open Go.RowKit
open Rv (HP Sat Same pt allOf sat_all RdIn row own)

theorem bytesP_own {w : World} {v : Value} {xs : List UInt8} {R : HP} (h : Sat w (bytesP v xs * R)) : OwnB w 0 v xs := (Rv.Sat.row_own h).toB
theorem bytesP_shape {w : World} {v : Value} {xs : List UInt8} {R : HP} (h : Sat w (bytesP v xs * R)) : ∃ A c, v = .slice A xs.length c ∧ xs.length ≤ c ∧ c ≤ maxLen ∧ RdB w A xs := (bytesP_own h).shape
theorem bytesP_new {w w' : World} {v : Value} {xs : List UInt8} {R : HP} (h : Sat w R) (ho : OwnB w' w.heap.size v xs) (hb : Below w.heap.size w w') : Sat w' (bytesP v xs * R) :=
  h.row_new hb (ho.mono (Nat.zero_le _)).toV (fun k hk => (ho.toV.block k hk).1)
theorem Same.of_below' {w w' : World} (h : Below w.heap.size w w') : Same w w' := Rv.Same.below h

theorem run_append_own_string_at {P : Program} (w : World) (t u ty e : TypeId) (i : TypeInfo) (ht : P.underlying t = some (.slice e)) (hu : P.underlying u = some .string) (hi : P.info? e = some i) (hz : i.zero = some (.int .u8 0))
    (hsize : i.size = 1) (hby : i.bytes = 1) (v : Value) (n : Nat) (xs : List Value) (hown : w.ownsRow 0 e 1 v n xs) (s : ByteArray) (h63 : n + s.size ≤ maxLen) (hbytes : n + s.size ≤ 140737488355328) :
    ∃ v' w', (Builtin.append_ #[t, u] ty #[v, .string s]).run P w = .ok v' w' ∧ w'.ownsRow 0 e 1 v' (n + s.size) (xs ++ Lib.strCells s) ∧ w.grownBy w' v.ownBlock ∧ ∀ k, v'.ownBlock = some k → v.ownBlock = some k ∨ w.heap.size ≤ k := by
  obtain ⟨v', w', hr, ho, hg, _⟩ := Lib.run_append_own_string w 0 t u ty e i ht hu hi hz hsize hby v n xs hown s h63 hbytes (Nat.zero_le _)
  refine ⟨v', w', hr, ho, hg, ?_⟩
  have hsmall : n + s.size ≤ 9223372036854775807 := by simp only [maxLen] at h63; omega
  rcases hown.2 with ⟨rfl, rfl⟩ | ⟨g, cap, cur, rfl, hbg, hgg, hnc, hcm, hcs, htake⟩
  · have hown2 : w.ownsRow w.heap.size e 1 (.slice none 0 0) 0 xs := ⟨hown.1, .inl ⟨rfl, rfl⟩⟩
    obtain ⟨v2, w2, hr2, ho2, _⟩ := Lib.run_append_own_string w w.heap.size t u ty e i ht hu hi hz hsize hby _ 0 xs hown2 s h63 hbytes (Nat.le_refl _)
    rw [hr] at hr2
    injection hr2 with e1 e2
    subst e1; subst e2
    exact fun k hk => .inr (ho2.lt k hk).1
  · by_cases hroom : n + s.size ≤ cap
    · have hcs' : cur.size = cap := by simpa using hcs
      have hr2 := Lib.run_append_room_string (P := P) w t u ty e i ht hu hi hsize g n cap cur hgg s hroom (by omega)
      rw [hr] at hr2
      injection hr2 with e1 e2
      subst e1
      exact fun k hk => .inl hk
    · have hxl : xs.length = n := by simpa using hown.1
      have holds : ∀ j u, xs[j]? = some u → w.cell? ((⟨g, 0, none⟩ : Addr).add j) = some u := hown.cells (g := g) rfl
      have hr2 := Lib.run_append_grow_string (P := P) w t u ty e i (.int .u8 0) ht hu hi hz ⟨g, 0, none⟩ n cap xs (by rw [hsize]; simpa using hxl) holds s (by omega) (by omega) (by rw [hby]; exact growslice_fits (by omega) (by omega))
      rw [hr] at hr2
      injection hr2 with e1 e2
      subst e1
      intro k hk
      have : w.heap.size = k := by simpa [Value.ownBlock] using hk
      exact .inr (by omega)

section
variable {P : Program} {ops : Array Oper} {rest : List Oper} {o : Oper} {a : Act} {Q : Exit → Act → World → Prop}
/-- An arm's gate: the operation that writes this slot. -/
theorem at_slot (n : Tmp) {op : Op} {ty : TypeId} {pos : String} {after : Array Edge} {g : Option (Nat × Bool)} {W : World} (h : wpList P ops Q (⟨some n, op, ty, pos, after, g⟩ :: rest) a W) : wpList P ops Q (⟨some n, op, ty, pos, after, g⟩ :: rest) a W := h
/-- An arm's gate: a store of a type. -/
theorem at_store (t : TypeId) (x y : Tmp) {ty : TypeId} {pos : String} {after : Array Edge} {g : Option (Nat × Bool)} {W : World} (h : wpList P ops Q (⟨none, .store t (.tmp x) (.tmp y), ty, pos, after, g⟩ :: rest) a W) : wpList P ops Q (⟨none, .store t (.tmp x) (.tmp y), ty, pos, after, g⟩ :: rest) a W := h
/-- append of bytes that stand somewhere onto a row of one's own. -/
theorem sapp {W : World} {R : HP} (hgd : o.guard = none) (s x : Operand) (t : TypeId) (ho : o.op = .call { callee := .builtin .append, args := #[s, x], argTypes := #[t, t] })
    (ht : P.underlying t = some (.slice 5)) (hinfo : (P.info? 5).map (fun i => (i.zero, i.size, i.bytes)) = some (some (.int .u8 0), 1, 1))
    (v : Value) (xs news : List UInt8) (A : Option Addr) (n c : Nat) (hs : a.eval s = v) (hx : a.eval x = .slice A n c) (hn : n = news.length) (HS : Sat W (bytesP v xs * R)) (HR : RdB W A news) (hnone : A = none → c = 0)
    (N : Nat) (hN : xs.length + news.length = N) (hl : N ≤ 140737488355328)
    (h : ∀ B1 c1 w1, Sat w1 (bytesP (.slice B1 N c1) (xs ++ news) * R) → Same W w1 → wpList P ops Q rest (a.put o.dst (.slice B1 N c1)) w1) : wpList P ops Q (o :: rest) a W := by
  subst hn
  refine app_src_at hgd s x t 5 (.int .u8 0) 1 ho ht hinfo rfl (by omega) v (u8s xs) (u8s news) A c hs (by rw [u8s_length]; exact hx) (u8s_one _) (Rv.Sat.row_own HS) HR.toV (by rw [u8s_length, u8s_length]; omega) hnone N (by rw [u8s_length, u8s_length]; exact hN) ?_
  intro B1 c1 w1 h1 h2 h3
  rw [← u8s_append] at h1
  exact h B1 c1 w1 (HS.row_turn h2 h1 h3) (Rv.Same.of h2)
/-- append of one byte that lies in a new box. -/
theorem sapp_str {W : World} {R : HP} (hgd : o.guard = none) (s x : Operand) (t u : TypeId) (ho : o.op = .call { callee := .builtin .append, args := #[s, x], argTypes := #[t, u] })
    (ht : P.underlying t = some (.slice 5)) (hu : P.underlying u = some .string) (hinfo : (P.info? 5).map (fun i => (i.zero, i.size, i.bytes)) = some (some (.int .u8 0), 1, 1))
    (v : Value) (xs : List UInt8) (str : ByteArray) (hs : a.eval s = v) (hx : a.eval x = .string str) (HS : Sat W (bytesP v xs * R)) (N : Nat) (hN : xs.length + str.size = N) (hl : N ≤ 140737488355328)
    (h : ∀ B1 c1 w1, Sat w1 (bytesP (.slice B1 N c1) (xs ++ Rv.bytesOf str) * R) → Same W w1 → wpList P ops Q rest (a.put o.dst (.slice B1 N c1)) w1) : wpList P ops Q (o :: rest) a W := by
  subst hN
  obtain ⟨i0, hi, hz0, hz1, hz2⟩ := info_parts' hinfo
  have HO := bytesP_own HS
  refine wpList_plain hgd fun K hK => ?_
  obtain ⟨v', w', hr, h2, h3, h4⟩ := run_append_own_string_at (P := P) W t u o.type 5 i0 ht hu hi hz0 hz1 hz2 v xs.length (u8s xs) HO str (by simp only [maxLen]; omega) hl
  unfold Oper.wp execOp
  simp only [ho, resolve, invoke, builtin, Sem.run_bind, Sem.run_pure, Result.andThen_ok, List.map_toArray, List.map_cons, List.map_nil, hs, hx, hr]
  have e : u8s xs ++ Lib.strCells str = u8s (xs ++ Rv.bytesOf str) := by rw [u8s_append]; rfl
  have hlen : (xs ++ Rv.bytesOf str).length = xs.length + str.size := by rw [List.length_append]; congr 1
  have o2 : OwnB w' 0 v' (xs ++ Rv.bytesOf str) := by unfold OwnB; rw [← e, hlen]; exact h2
  obtain ⟨B1, C1, rfl, -, -, -⟩ := o2.shape
  rw [hlen] at o2 h4 ⊢
  exact hK _ _ (h B1 C1 w' (HS.row_turn (Kept.of_grown h3 fun k hk _ => hk) o2.toV h4) (Rv.Same.of (Kept.of_grown (S := fun _ => True) h3 fun _ _ _ => trivial)))
/-- A row of one's own; or one without room, that stands somewhere. -/
def AppOk (W : World) (R : HP) (v : Value) (xs : List UInt8) : Prop := Sat W (bytesP v xs * R) ∨ (Sat W R ∧ ∃ A, v = .slice (some A) xs.length xs.length ∧ RdB W (some A) xs)
theorem AppOk.shape {W : World} {R : HP} {v : Value} {xs : List UInt8} (h : AppOk W R v xs) : ∃ A c, v = .slice A xs.length c ∧ xs.length ≤ c ∧ RdB W A xs ∧ (A = none → c = 0) := by
  rcases h with h | ⟨h, A, rfl, hr⟩
  · obtain ⟨A, c, rfl, h1, h2, h3⟩ := bytesP_shape h
    exact ⟨A, c, rfl, h1, h3, (bytesP_own h).nilcap⟩
  · exact ⟨some A, _, rfl, Nat.le_refl _, hr, by simp⟩
theorem AppOk.base {W : World} {R : HP} {v : Value} {xs : List UInt8} (h : AppOk W R v xs) : Sat W R := h.elim (fun h => h.right) (fun h => h.1)
theorem AppOk.below {W W' : World} {R : HP} {v : Value} {xs : List UInt8} (h : AppOk W R v xs) (hb : Below W.heap.size W W') : AppOk W' R v xs := by
  rcases h with h | ⟨h, A, rfl, hr⟩
  · exact .inl (h.below hb)
  · exact .inr ⟨h.below hb, A, rfl, hr.below hb⟩
theorem AppOk.drew {W : World} {R : HP} {v : Value} {xs : List UInt8} (h : AppOk W R v xs) : AppOk W.drew R v xs := h.below ⟨rfl, rfl, rfl, Nat.le_refl _, fun _ _ => rfl⟩
/-- Something more beside it, that is new. -/
theorem AppOk.add {W W' : World} {P' R : HP} {v : Value} {xs : List UInt8} (h : AppOk W R v xs) (hb : Below W.heap.size W W') (f : ∀ R', Sat W R' → Sat W' (P' * R')) : AppOk W' (P' * R) v xs := by
  rcases h with h | ⟨h, A, rfl, hr⟩
  · exact .inl ((f _ h).perm (by ac_rfl))
  · exact .inr ⟨f _ h, A, rfl, hr.below hb⟩
theorem AppOk.drop {W : World} {P' R : HP} {v : Value} {xs : List UInt8} (h : AppOk W (P' * R) v xs) : AppOk W R v xs := by
  rcases h with h | ⟨h, A, rfl, hr⟩
  · exact .inl ((h.perm (show bytesP v xs * (P' * R) = P' * (bytesP v xs * R) by ac_rfl)).right)
  · exact .inr ⟨h.right, A, rfl, hr⟩

theorem sapp_ok {W : World} {R : HP} (hgd : o.guard = none) (s x : Operand) (t : TypeId) (ho : o.op = .call { callee := .builtin .append, args := #[s, x], argTypes := #[t, t] })
    (ht : P.underlying t = some (.slice 5)) (hinfo : (P.info? 5).map (fun i => (i.zero, i.size, i.bytes)) = some (some (.int .u8 0), 1, 1))
    (v : Value) (xs news : List UInt8) (A : Option Addr) (n c : Nat) (hs : a.eval s = v) (hx : a.eval x = .slice A n c) (hn : n = news.length) (hpos : 0 < news.length) (HS : AppOk W R v xs) (HR : RdB W A news)
    (N : Nat) (hN : xs.length + news.length = N) (hl : N ≤ 140737488355328)
    (h : ∀ B1 c1 w1, Sat w1 (bytesP (.slice B1 N c1) (xs ++ news) * R) → Same W w1 → wpList P ops Q rest (a.put o.dst (.slice B1 N c1)) w1) : wpList P ops Q (o :: rest) a W := by
  subst hn
  obtain ⟨u, hu⟩ := some_at hpos
  obtain ⟨ad, rfl, _⟩ := HR 0 u hu
  rcases HS with HS | ⟨HS, B, rfl, hr⟩
  · exact sapp hgd s x t ho ht hinfo v xs news (some ad) news.length c hs hx rfl HS HR (by simp) N hN hl h
  · subst hN
    obtain ⟨i0, hi, hz0, hz1, hz2⟩ := info_parts' hinfo
    refine wpList_plain hgd fun K hK => ?_
    have hr2 := run_append_grow (P := P) W t o.type 5 i0 (.int .u8 0) ht hi hz0 B xs.length xs.length (u8s xs) (by rw [hz1, u8s_length]; omega) (fun j u hu => by obtain ⟨ad', e', hc⟩ := hr.toV j u hu; cases e'; exact hc)
      ad news.length c (u8s news) (by rw [hz1, u8s_length]; omega) (fun j u hu => by obtain ⟨ad', e', hc⟩ := HR.toV j u hu; cases e'; exact hc) (by omega) (by omega) (by rw [hz2]; exact growslice_fits (by omega) (by omega))
    unfold Oper.wp execOp
    simp only [ho, resolve, invoke, builtin, Sem.run_bind, Sem.run_pure, Result.andThen_ok, List.map_toArray, List.map_cons, List.map_nil, hs, hx, hr2]
    refine hK _ _ (h _ _ _ ?_ ⟨rfl, rfl, rfl, by simp, fun _ _ h => absurd trivial h⟩)
    have hge := grownCap_ge W (xs.length + news.length) xs.length 5
    have hcm := grownCap_le_maxLen W (xs.length + news.length) xs.length 5 (by simp only [maxLen]; omega)
    refine HS.row_new (((Below.refl _ W).drew).alloc (Nat.le_refl _) _) ?_ (fun k hk => Nat.le_of_eq (by simpa [Value.ownBlock] using hk))
    have hlen : (u8s (xs ++ news)).length = xs.length + news.length := by rw [u8s_length, List.length_append]
    refine ⟨by simp, .inr ⟨W.heap.size, _, _, by rw [hlen], Nat.zero_le _, heap_alloc_new W.drew _, by rw [hlen]; exact hge, hcm, ?_, ?_⟩⟩
    · have hz1 : (Value.int IntKind.u8 0).cells.size = 1 := rfl
      simp only [Array.size_append, List.size_toArray, size_zeroCells, hz1, u8s_length]
      omega
    · simp only [Array.toList_append, List.append_assoc]
      rw [← List.append_assoc, ← u8s_append, Nat.mul_one]
      exact List.take_left
end
end Go.Proofs.YtcmndglhileeoaaGreat
