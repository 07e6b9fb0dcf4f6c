/- Rows whose elements have several cells; pieces of bytes; what Put comes to in each case. No walk. -/
import Derived.Test.YtcmndglhileeoaaGreatQTapeHToTapeK
import Derived.WalkSpells
set_option linter.unusedSimpArgs false
set_option linter.unusedVariables false
namespace Go.Proofs.YtcmndglhileeoaaGreat
open Go.RowKit
open Rv (HP Sat Same pt allOf sat_all RdIn row own Lcl)

/-! ### rows of elements of several cells -/
def rowNX (e : TypeId) (s : Nat) (v : Value) (n : Nat) (vs : List Value) : World → (Nat → Prop) → Prop := fun w S => w.ownsRow 0 e s v n vs ∧ ∀ k, v.ownBlock = some k → S k
def rowN (e : TypeId) (s : Nat) (v : Value) (n : Nat) (vs : List Value) : HP := own (rowNX e s v n vs)
theorem ownsRow_step {w w' : World} {base : Nat} {e : TypeId} {s : Nat} {v : Value} {n : Nat} {vs : List Value} (h : w.ownsRow base e s v n vs) (hk : ∀ k, v.ownBlock = some k → k < w.heap.size → w'.heap[k]? = w.heap[k]?) : w'.ownsRow base e s v n vs := by
  have hb := World.ownsRow.lt h
  refine ⟨h.1, ?_⟩
  rcases h.2 with hn | ⟨g, cap, cur, rfl, hg, hh, r⟩
  · exact .inl hn
  · exact .inr ⟨g, cap, cur, rfl, hg, by rw [hk g rfl (hb g rfl).2]; exact hh, r⟩
theorem rowN_loc (e : TypeId) (s : Nat) (v : Value) (n : Nat) (vs : List Value) : Lcl (rowNX e s v n vs) := fun w w' S ⟨ho, hs⟩ hk =>
  ⟨ownsRow_step ho fun k hk' hlt => hk k (hs k hk') hlt, fun k hk' => ⟨hs k hk', (World.ownsRow.lt ho k hk').2⟩⟩
theorem rowN_own {w : World} {e : TypeId} {s : Nat} {v : Value} {n : Nat} {vs : List Value} {R : HP} (h : Sat w (rowN e s v n vs * R)) : w.ownsRow 0 e s v n vs := by
  obtain ⟨S, h1, _⟩ := Rv.Sat.own_out (rowN_loc e s v n vs) h
  exact h1.1
theorem rowN_turn {w w' : World} {e : TypeId} {s : Nat} {v v' : Value} {n n' : Nat} {vs vs' : List Value} {R : HP} (h : Sat w (rowN e s v n vs * R)) (hk : Kept (fun k => v.ownBlock = some k) w w') (ho : w'.ownsRow 0 e s v' n' vs')
    (hl : ∀ k, v'.ownBlock = some k → v.ownBlock = some k ∨ w.heap.size ≤ k) : Sat w' (rowN e s v' n' vs' * R) := by
  obtain ⟨S, h1, _, h3⟩ := Rv.Sat.own_turn (rowN_loc e s v n vs) h
  exact h3 w' (rowNX e s v' n' vs') (fun k => v'.ownBlock = some k) (hk.mono (fun i _ hi => h1.2 i hi)) ⟨ho, fun k hk => hk⟩ (fun k hk => (hl k hk).imp (h1.2 k) id)
theorem rowN_nil {w : World} {R : HP} (e : TypeId) (s : Nat) (h : Sat w R) : Sat w (rowN e s (.slice none 0 0) 0 [] * R) :=
  h.own_new (Below.refl _ _) (fun _ => False) ⟨World.ownsRow_nil _ _ _ _, fun k hk => by simp [Value.ownBlock] at hk⟩ (fun _ h => h.elim)
theorem rowN_shape {w : World} {e : TypeId} {s : Nat} {v : Value} {n : Nat} {vs : List Value} {R : HP} (h : Sat w (rowN e s v n vs * R)) : ∃ A c, v = .slice A n c ∧ n ≤ c ∧ c ≤ maxLen ∧ RdV w A vs ∧ (A = none → c = 0) := by
  have ho := rowN_own h
  rcases ho.2 with ⟨rfl, rfl⟩ | ⟨g, cap, cur, rfl, hg, hh, h1, h2, h3, h4⟩
  · have : vs = [] := List.length_eq_zero_iff.1 (by have := ho.1; omega)
    subst this
    exact ⟨none, 0, rfl, Nat.le_refl _, by simp [maxLen], RdV.nil _ _, fun _ => rfl⟩
  · refine ⟨some ⟨g, 0, none⟩, cap, rfl, h1, h2, fun j u hu => ⟨_, rfl, ?_⟩, by simp⟩
    exact World.ownsRow.cells (g := g) ho rfl j u hu

/-! ### pieces -/
def pcsP : List Value → List Rv.Bs → HP
  | [], [] => 1
  | v :: vs, b :: bs => bytesP v b * pcsP vs bs
  | _, _ => fun _ => False
def piecesP (v : Value) (l : List Rv.Bs) : HP := fun h => ∃ vs, (row 22 v vs * pcsP vs l) h
theorem piecesP_open {w : World} {R : HP} {v : Value} {l : List Rv.Bs} (h : Sat w (piecesP v l * R)) : ∃ vs, Sat w (row 22 v vs * (pcsP vs l * R)) := by
  obtain ⟨a, b, ⟨vs, ha⟩, hb, hd, h1, h2⟩ := h.parts
  exact ⟨vs, (Rv.Sat.of_parts ha hb hd h1 h2).perm (by ac_rfl)⟩
theorem piecesP_shut {w : World} {R : HP} {v : Value} {l : List Rv.Bs} {vs : List Value} (h : Sat w (row 22 v vs * (pcsP vs l * R))) : Sat w (piecesP v l * R) :=
  (h.perm (show _ = (row 22 v vs * pcsP vs l) * R by ac_rfl)).imp fun a ha => ⟨vs, ha⟩
theorem pcsP_length {w : World} {R : HP} : ∀ {vs : List Value} {l : List Rv.Bs}, Sat w (pcsP vs l * R) → vs.length = l.length
  | [], [], _ => rfl
  | v :: vs, b :: bs, h => by
    have h1 : Sat w (pcsP vs bs * (bytesP v b * R)) := h.perm (show (bytesP v b * pcsP vs bs) * R = _ by ac_rfl)
    simp only [List.length_cons, pcsP_length h1]
  | [], _ :: _, h => by obtain ⟨a, ha, _⟩ := h.left; exact ha.elim
  | _ :: _, [], h => by obtain ⟨a, ha, _⟩ := h.left; exact ha.elim
theorem pcsP_snoc {w : World} {R : HP} {v : Value} {b : Rv.Bs} : ∀ {vs : List Value} {l : List Rv.Bs}, Sat w (pcsP vs l * (bytesP v b * R)) → Sat w (pcsP (vs ++ [v]) (l ++ [b]) * R)
  | [], [], h => by
    show Sat w ((bytesP v b * 1) * R)
    exact h.perm (show (1 : HP) * (bytesP v b * R) = _ by ac_rfl)
  | v1 :: vs, b1 :: bs, h => by
    have h1 : Sat w (pcsP vs bs * (bytesP v b * (bytesP v1 b1 * R))) := h.perm (show (bytesP v1 b1 * pcsP vs bs) * (bytesP v b * R) = _ by ac_rfl)
    exact (pcsP_snoc h1).perm (show pcsP (vs ++ [v]) (bs ++ [b]) * (bytesP v1 b1 * R) = (bytesP v1 b1 * pcsP (vs ++ [v]) (bs ++ [b])) * R by ac_rfl)
  | [], _ :: _, h => by obtain ⟨a, ha, _⟩ := h.left; exact ha.elim
  | _ :: _, [], h => by obtain ⟨a, ha, _⟩ := h.left; exact ha.elim
theorem pcsP_at {w : World} {R : HP} {b : Rv.Bs} : ∀ {vs : List Value} {l : List Rv.Bs} {j : Nat}, Sat w (pcsP vs l * R) → l[j]? = some b → ∃ v, vs[j]? = some v ∧ ∃ X, Sat w (bytesP v b * X) ∧ ∀ w', Sat w' (pcsP vs l * R) → Sat w' (bytesP v b * X)
  | [], [], j, h, hj => by cases hj
  | v :: vs, b1 :: bs, 0, h, hj => by
    have e : b1 = b := by simpa using hj
    subst e
    exact ⟨v, rfl, pcsP vs bs * R, h.perm (show (bytesP v b1 * pcsP vs bs) * R = _ by ac_rfl), fun w' h' => h'.perm (show (bytesP v b1 * pcsP vs bs) * R = _ by ac_rfl)⟩
  | v :: vs, b1 :: bs, j + 1, h, hj => by
    have h1 : Sat w (pcsP vs bs * (bytesP v b1 * R)) := h.perm (show (bytesP v b1 * pcsP vs bs) * R = _ by ac_rfl)
    obtain ⟨u, hu, X, h2, h3⟩ := pcsP_at h1 (j := j) (by simpa using hj)
    exact ⟨u, by simpa using hu, X, h2, fun w' h' => h3 w' (h'.perm (show (bytesP v b1 * pcsP vs bs) * R = _ by ac_rfl))⟩
  | [], _ :: _, j, h, hj => by obtain ⟨a, ha, _⟩ := h.left; exact ha.elim
  | _ :: _, [], j, h, hj => by cases hj

/-! ### Put's cases -/
theorem adds_parts {m : Rv.Maker} {r : Rv.Rec} {c : Rv.Coder} {piece : Rv.Bs} {s : Rv.Step} {b : Bool} (h : m.adds r c piece = (s, b)) :
    s.piece = piece ∧ s.coder = c ∧ s.owed = addOwed m r ∧ s.check = addCheck m r ∧ s.trailer.length ≤ 1099511627776 := by
  by_cases hb : addSize m r piece > 4194304
  · rw [adds_big c hb] at h
    injection h with h1 h2
    subst h1
    exact ⟨rfl, rfl, rfl, rfl, by simp⟩
  · rw [adds_fit c hb] at h
    injection h with h1 h2
    subst h1
    refine ⟨rfl, rfl, rfl, rfl, ?_⟩
    show (addTr m r piece).length ≤ _
    unfold addTr
    split
    · exact enc_len _
    · simp
theorem led_bytes_pos (l : Rv.Ledger) (h : l.of.length ≤ 10001) : l.bytes ≠ [] := by
  unfold Rv.Ledger.bytes
  intro e
  have h1 := congrArg List.length e
  have h2 : 0 < (Rv.numB (l.of.length : Int)).length := numB_pos (by omega) (by omega)
  simp only [List.length_append, List.length_nil] at h1
  omega
theorem check_none {m : Rv.Maker} {r : Rv.Rec} (h : addOwed m r = none) : addCheck m r = [] := by unfold addCheck; rw [h]
theorem check_some {m : Rv.Maker} {r : Rv.Rec} (hm : MOk m) {l : Rv.Ledger} (h : addOwed m r = some l) : addCheck m r ≠ [] := by
  have e : l = Rv.applyL m.owed r := by
    unfold addOwed at h
    split at h
    · injection h with h; exact h.symm
    · cases h
  unfold addCheck
  rw [h, e]
  refine led_bytes_pos _ ?_
  have h1 := of_apply m.owed r
  have h2 := hm.o1
  have h3 := hm.n1
  omega
theorem put_bad {m : Rv.Maker} {r : Rv.Rec} (h : m.coder.putE r ≠ 0) : m.put r = .error (m.coder.putE r) := by unfold Rv.Maker.put; rw [if_pos h]
theorem put_big {m : Rv.Maker} {r : Rv.Rec} {c : Rv.Coder} {piece : Rv.Bs} {s : Rv.Step} {b : Bool} (h : m.coder.putE r = 0) (hc : m.coder.put r = (c, piece)) (hs : m.adds r c piece = (s, b)) (hb : b = false ∨ m.records = 10000) : m.put r = .error 3 := by
  unfold Rv.Maker.put
  rw [if_neg (by rw [h]; simp), hc]
  simp only [hs]
  rw [if_pos hb]
theorem put_fits {m : Rv.Maker} {r : Rv.Rec} {c : Rv.Coder} {piece : Rv.Bs} {s : Rv.Step} (h : m.coder.putE r = 0) (hc : m.coder.put r = (c, piece)) (hs : m.adds r c piece = (s, true)) (hb : m.records ≠ 10000) :
    m.put r = .ok (m.done r s, [s.piece] ++ (if s.check = [] then [] else [s.check]) ++ (if s.ends then [s.trailer] else [])) := by
  unfold Rv.Maker.put
  rw [if_neg (by rw [h]; simp), hc]
  simp only [hs]
  rw [if_neg (by simp [hb])]
theorem putE_zero {c : Rv.Coder} {r : Rv.Rec} (h : c.putE r = 0) : r.right = 0 ∧ c.tick ≤ r.tick := by
  unfold Rv.Coder.putE at h
  split at h
  · rename_i h1; exact absurd h h1
  · rename_i h1
    split at h
    · cases h
    · exact ⟨by omega, by omega⟩
theorem putE_of {c : Rv.Coder} {r : Rv.Rec} (h : r.right = 0) (h2 : c.tick ≤ r.tick) : c.putE r = 0 := by
  unfold Rv.Coder.putE
  rw [if_neg (by omega), if_neg (by omega)]
theorem putE_range {c : Rv.Coder} {r : Rv.Rec} : 0 ≤ c.putE r ∧ c.putE r ≤ 63 := by
  unfold Rv.Coder.putE Rv.Rec.right
  repeat' split
  all_goals omega
theorem put_len {c : Rv.Coder} {r : Rv.Rec} (h : r.right = 0) : (c.put r).2.length ≤ 200 := by
  have h1 := (rec_right h).2.2.1
  unfold Rv.keyOk at h1
  simp only [Bool.and_eq_true, decide_eq_true_eq] at h1
  have hb : (Rv.bytesOf r.key).length = r.key.size := rfl
  have hl := fun n => Rv.numB_len n
  unfold Rv.Coder.put
  simp only [List.length_append]
  have h2 := hl (4 * (r.tick - c.tick) + r.verdict)
  have h3 := hl (Rv.zig (r.cost - c.cost)).1
  split
  · have h4 := hl (1 + ((c.d.use r.key).2.1 : Int))
    omega
  · have h4 := hl 0
    have h5 := hl (r.key.size : Int)
    simp only [List.length_append]
    omega
theorem mput_ok {m m' : Rv.Maker} {r : Rv.Rec} {l : List Rv.Bs} (hm : MOk m) (h : m.put r = .ok (m', l)) : MOk m' ∧ m'.p = m.p ∧ m'.records = m.records + 1 ∧ m'.size = m.size + l.flatten.length ∧ 1 ≤ l.length ∧ l.length ≤ 3 := by
  by_cases h0 : m.coder.putE r = 0
  · obtain ⟨hr, ht⟩ := putE_zero h0
    obtain ⟨s, hs⟩ : ∃ s, m.adds r (m.coder.put r).1 (m.coder.put r).2 = s := ⟨_, rfl⟩
    obtain ⟨s, b⟩ := s
    by_cases hb : b = false ∨ m.records = 10000
    · rw [put_big h0 rfl hs hb] at h; cases h
    · have hbt : b = true := by cases b <;> simp_all
      subst hbt
      have hn : m.records ≠ 10000 := fun e => hb (.inr e)
      rw [put_fits h0 rfl hs hn] at h
      simp only [Except.ok.injEq, Prod.mk.injEq] at h
      obtain ⟨rfl, rfl⟩ := h
      obtain ⟨q1, q2, q3, q4, q5⟩ := adds_parts hs
      have hn1 := hm.n1
      have hd := MOk.done hm (by rw [hs]) (by omega) (r := r) (c := (m.coder.put r).1) (piece := (m.coder.put r).2) rfl ht (put_keys hr hm.kp)
      rw [hs] at hd
      refine ⟨hd, rfl, rfl, ?_, by simp only [List.length_append, List.length_cons]; omega, ?_⟩
      · show m.size + (s.piece.length + s.check.length + s.trailer.length) = _
        have ht0 : s.ends = false → s.trailer = [] := fun e => by
          by_cases hbb : addSize m r (m.coder.put r).2 > 4194304
          · rw [adds_big _ hbb] at hs; cases hs
          · rw [adds_fit _ hbb] at hs
            injection hs with hs1 hs2
            subst hs1
            show addTr m r _ = []
            unfold addTr
            have e' : addEnds m = false := e
            rw [e']; rfl
        simp only [List.flatten_append, List.length_append, List.flatten_cons, List.flatten_nil, List.append_nil]
        split
        · rename_i hc
          rw [hc]
          cases he : s.ends
          · rw [ht0 he]; simp
          · simp <;> omega
        · cases he : s.ends
          · rw [ht0 he]; simp
          · simp <;> omega
      · split <;> split <;> simp
  · rw [put_bad h0] at h; cases h
end Go.Proofs.YtcmndglhileeoaaGreat
