/- A part of the proof (RowMore): its texts in a row: TapeJ, TapeL, TapeM. Each text's own remark stands at its head. -/
import Derived.Test.YtcmndglhileeoaaGreatMo11
import Derived.WalkSpells
/- Rows whose elements have several cells; pieces of bytes; what Put comes to in each case. No walk. -/
set_option linter.unusedSimpArgs false
set_option linter.unusedVariables false
namespace Go.Proofs.YtcmndglhileeoaaGreat
open Go.RowKit
open Rv (HP Sat Same pt allOf sat_all RdIn row own Lcl)

/-! ### rows of elements of several cells -/
def rowNX (e : TypeId) (s : Nat) (v : Value) (n : Nat) (vs : List Value) : World → (Nat → Prop) → Prop := fun w S => w.ownsRow 0 e s v n vs ∧ ∀ k, v.ownBlock = some k → S k
def rowN (e : TypeId) (s : Nat) (v : Value) (n : Nat) (vs : List Value) : HP := own (rowNX e s v n vs)
theorem ownsRow_step {w w' : World} {base : Nat} {e : TypeId} {s : Nat} {v : Value} {n : Nat} {vs : List Value} (h : w.ownsRow base e s v n vs) (hk : ∀ k, v.ownBlock = some k → k < w.heap.size → w'.heap[k]? = w.heap[k]?) : w'.ownsRow base e s v n vs := by
  have hb := World.ownsRow.lt h
  refine ⟨h.1, ?_⟩
  rcases h.2 with hn | ⟨g, cap, cur, rfl, hg, hh, r⟩
  · exact .inl hn
  · exact .inr ⟨g, cap, cur, rfl, hg, by rw [hk g rfl (hb g rfl).2]; exact hh, r⟩
theorem rowN_loc (e : TypeId) (s : Nat) (v : Value) (n : Nat) (vs : List Value) : Lcl (rowNX e s v n vs) := fun w w' S ⟨ho, hs⟩ hk =>
  ⟨ownsRow_step ho fun k hk' hlt => hk k (hs k hk') hlt, fun k hk' => ⟨hs k hk', (World.ownsRow.lt ho k hk').2⟩⟩
theorem rowN_own {w : World} {e : TypeId} {s : Nat} {v : Value} {n : Nat} {vs : List Value} {R : HP} (h : Sat w (rowN e s v n vs * R)) : w.ownsRow 0 e s v n vs := by
  obtain ⟨S, h1, _⟩ := Rv.Sat.own_out (rowN_loc e s v n vs) h
  exact h1.1
theorem rowN_turn {w w' : World} {e : TypeId} {s : Nat} {v v' : Value} {n n' : Nat} {vs vs' : List Value} {R : HP} (h : Sat w (rowN e s v n vs * R)) (hk : Kept (fun k => v.ownBlock = some k) w w') (ho : w'.ownsRow 0 e s v' n' vs')
    (hl : ∀ k, v'.ownBlock = some k → v.ownBlock = some k ∨ w.heap.size ≤ k) : Sat w' (rowN e s v' n' vs' * R) := by
  obtain ⟨S, h1, _, h3⟩ := Rv.Sat.own_turn (rowN_loc e s v n vs) h
  exact h3 w' (rowNX e s v' n' vs') (fun k => v'.ownBlock = some k) (hk.mono (fun i _ hi => h1.2 i hi)) ⟨ho, fun k hk => hk⟩ (fun k hk => (hl k hk).imp (h1.2 k) id)
theorem rowN_nil {w : World} {R : HP} (e : TypeId) (s : Nat) (h : Sat w R) : Sat w (rowN e s (.slice none 0 0) 0 [] * R) :=
  h.own_new (Below.refl _ _) (fun _ => False) ⟨World.ownsRow_nil _ _ _ _, fun k hk => by simp [Value.ownBlock] at hk⟩ (fun _ h => h.elim)
theorem rowN_shape {w : World} {e : TypeId} {s : Nat} {v : Value} {n : Nat} {vs : List Value} {R : HP} (h : Sat w (rowN e s v n vs * R)) : ∃ A c, v = .slice A n c ∧ n ≤ c ∧ c ≤ maxLen ∧ RdV w A vs ∧ (A = none → c = 0) := by
  have ho := rowN_own h
  rcases ho.2 with ⟨rfl, rfl⟩ | ⟨g, cap, cur, rfl, hg, hh, h1, h2, h3, h4⟩
  · have : vs = [] := List.length_eq_zero_iff.1 (by have := ho.1; omega)
    subst this
    exact ⟨none, 0, rfl, Nat.le_refl _, by simp [maxLen], RdV.nil _ _, fun _ => rfl⟩
  · refine ⟨some ⟨g, 0, none⟩, cap, rfl, h1, h2, fun j u hu => ⟨_, rfl, ?_⟩, by simp⟩
    exact World.ownsRow.cells (g := g) ho rfl j u hu

/-! ### pieces -/
def pcsP : List Value → List Rv.Bs → HP
  | [], [] => 1
  | v :: vs, b :: bs => bytesP v b * pcsP vs bs
  | _, _ => fun _ => False
def piecesP (v : Value) (l : List Rv.Bs) : HP := fun h => ∃ vs, (row 22 v vs * pcsP vs l) h
theorem piecesP_open {w : World} {R : HP} {v : Value} {l : List Rv.Bs} (h : Sat w (piecesP v l * R)) : ∃ vs, Sat w (row 22 v vs * (pcsP vs l * R)) := by
  obtain ⟨a, b, ⟨vs, ha⟩, hb, hd, h1, h2⟩ := h.parts
  exact ⟨vs, (Rv.Sat.of_parts ha hb hd h1 h2).perm (by ac_rfl)⟩
theorem piecesP_shut {w : World} {R : HP} {v : Value} {l : List Rv.Bs} {vs : List Value} (h : Sat w (row 22 v vs * (pcsP vs l * R))) : Sat w (piecesP v l * R) :=
  (h.perm (show _ = (row 22 v vs * pcsP vs l) * R by ac_rfl)).imp fun a ha => ⟨vs, ha⟩
theorem pcsP_length {w : World} {R : HP} : ∀ {vs : List Value} {l : List Rv.Bs}, Sat w (pcsP vs l * R) → vs.length = l.length
  | [], [], _ => rfl
  | v :: vs, b :: bs, h => by
    have h1 : Sat w (pcsP vs bs * (bytesP v b * R)) := h.perm (show (bytesP v b * pcsP vs bs) * R = _ by ac_rfl)
    simp only [List.length_cons, pcsP_length h1]
  | [], _ :: _, h => by obtain ⟨a, ha, _⟩ := h.left; exact ha.elim
  | _ :: _, [], h => by obtain ⟨a, ha, _⟩ := h.left; exact ha.elim
theorem pcsP_snoc {w : World} {R : HP} {v : Value} {b : Rv.Bs} : ∀ {vs : List Value} {l : List Rv.Bs}, Sat w (pcsP vs l * (bytesP v b * R)) → Sat w (pcsP (vs ++ [v]) (l ++ [b]) * R)
  | [], [], h => by
    show Sat w ((bytesP v b * 1) * R)
    exact h.perm (show (1 : HP) * (bytesP v b * R) = _ by ac_rfl)
  | v1 :: vs, b1 :: bs, h => by
    have h1 : Sat w (pcsP vs bs * (bytesP v b * (bytesP v1 b1 * R))) := h.perm (show (bytesP v1 b1 * pcsP vs bs) * (bytesP v b * R) = _ by ac_rfl)
    exact (pcsP_snoc h1).perm (show pcsP (vs ++ [v]) (bs ++ [b]) * (bytesP v1 b1 * R) = (bytesP v1 b1 * pcsP (vs ++ [v]) (bs ++ [b])) * R by ac_rfl)
  | [], _ :: _, h => by obtain ⟨a, ha, _⟩ := h.left; exact ha.elim
  | _ :: _, [], h => by obtain ⟨a, ha, _⟩ := h.left; exact ha.elim
theorem pcsP_at {w : World} {R : HP} {b : Rv.Bs} : ∀ {vs : List Value} {l : List Rv.Bs} {j : Nat}, Sat w (pcsP vs l * R) → l[j]? = some b → ∃ v, vs[j]? = some v ∧ ∃ X, Sat w (bytesP v b * X) ∧ ∀ w', Sat w' (pcsP vs l * R) → Sat w' (bytesP v b * X)
  | [], [], j, h, hj => by cases hj
  | v :: vs, b1 :: bs, 0, h, hj => by
    have e : b1 = b := by simpa using hj
    subst e
    exact ⟨v, rfl, pcsP vs bs * R, h.perm (show (bytesP v b1 * pcsP vs bs) * R = _ by ac_rfl), fun w' h' => h'.perm (show (bytesP v b1 * pcsP vs bs) * R = _ by ac_rfl)⟩
  | v :: vs, b1 :: bs, j + 1, h, hj => by
    have h1 : Sat w (pcsP vs bs * (bytesP v b1 * R)) := h.perm (show (bytesP v b1 * pcsP vs bs) * R = _ by ac_rfl)
    obtain ⟨u, hu, X, h2, h3⟩ := pcsP_at h1 (j := j) (by simpa using hj)
    exact ⟨u, by simpa using hu, X, h2, fun w' h' => h3 w' (h'.perm (show (bytesP v b1 * pcsP vs bs) * R = _ by ac_rfl))⟩
  | [], _ :: _, j, h, hj => by obtain ⟨a, ha, _⟩ := h.left; exact ha.elim
  | _ :: _, [], j, h, hj => by cases hj

/-! ### Put's cases -/
theorem adds_parts {m : Rv.Maker} {r : Rv.Rec} {c : Rv.Coder} {piece : Rv.Bs} {s : Rv.Step} {b : Bool} (h : m.adds r c piece = (s, b)) :
    s.piece = piece ∧ s.coder = c ∧ s.owed = addOwed m r ∧ s.check = addCheck m r ∧ s.trailer.length ≤ 1099511627776 := by
  by_cases hb : addSize m r piece > 4194304
  · rw [adds_big c hb] at h
    injection h with h1 h2
    subst h1
    exact ⟨rfl, rfl, rfl, rfl, by simp⟩
  · rw [adds_fit c hb] at h
    injection h with h1 h2
    subst h1
    refine ⟨rfl, rfl, rfl, rfl, ?_⟩
    show (addTr m r piece).length ≤ _
    unfold addTr
    split
    · exact enc_len _
    · simp
theorem led_bytes_pos (l : Rv.Ledger) (h : l.of.length ≤ 10001) : l.bytes ≠ [] := by
  unfold Rv.Ledger.bytes
  intro e
  have h1 := congrArg List.length e
  have h2 : 0 < (Rv.numB (l.of.length : Int)).length := numB_pos (by omega) (by omega)
  simp only [List.length_append, List.length_nil] at h1
  omega
theorem check_none {m : Rv.Maker} {r : Rv.Rec} (h : addOwed m r = none) : addCheck m r = [] := by unfold addCheck; rw [h]
theorem check_some {m : Rv.Maker} {r : Rv.Rec} (hm : MOk m) {l : Rv.Ledger} (h : addOwed m r = some l) : addCheck m r ≠ [] := by
  have e : l = Rv.applyL m.owed r := by
    unfold addOwed at h
    split at h
    · injection h with h; exact h.symm
    · cases h
  unfold addCheck
  rw [h, e]
  refine led_bytes_pos _ ?_
  have h1 := of_apply m.owed r
  have h2 := hm.o1
  have h3 := hm.n1
  omega
theorem put_bad {m : Rv.Maker} {r : Rv.Rec} (h : m.coder.putE r ≠ 0) : m.put r = .error (m.coder.putE r) := by unfold Rv.Maker.put; rw [if_pos h]
theorem put_big {m : Rv.Maker} {r : Rv.Rec} {c : Rv.Coder} {piece : Rv.Bs} {s : Rv.Step} {b : Bool} (h : m.coder.putE r = 0) (hc : m.coder.put r = (c, piece)) (hs : m.adds r c piece = (s, b)) (hb : b = false ∨ m.records = 10000) : m.put r = .error 3 := by
  unfold Rv.Maker.put
  rw [if_neg (by rw [h]; simp), hc]
  simp only [hs]
  rw [if_pos hb]
theorem put_fits {m : Rv.Maker} {r : Rv.Rec} {c : Rv.Coder} {piece : Rv.Bs} {s : Rv.Step} (h : m.coder.putE r = 0) (hc : m.coder.put r = (c, piece)) (hs : m.adds r c piece = (s, true)) (hb : m.records ≠ 10000) :
    m.put r = .ok (m.done r s, [s.piece] ++ (if s.check = [] then [] else [s.check]) ++ (if s.ends then [s.trailer] else [])) := by
  unfold Rv.Maker.put
  rw [if_neg (by rw [h]; simp), hc]
  simp only [hs]
  rw [if_neg (by simp [hb])]
theorem putE_zero {c : Rv.Coder} {r : Rv.Rec} (h : c.putE r = 0) : r.right = 0 ∧ c.tick ≤ r.tick := by
  unfold Rv.Coder.putE at h
  split at h
  · rename_i h1; exact absurd h h1
  · rename_i h1
    split at h
    · cases h
    · exact ⟨by omega, by omega⟩
theorem putE_of {c : Rv.Coder} {r : Rv.Rec} (h : r.right = 0) (h2 : c.tick ≤ r.tick) : c.putE r = 0 := by
  unfold Rv.Coder.putE
  rw [if_neg (by omega), if_neg (by omega)]
theorem putE_range {c : Rv.Coder} {r : Rv.Rec} : 0 ≤ c.putE r ∧ c.putE r ≤ 63 := by
  unfold Rv.Coder.putE Rv.Rec.right
  repeat' split
  all_goals omega
theorem put_len {c : Rv.Coder} {r : Rv.Rec} (h : r.right = 0) : (c.put r).2.length ≤ 200 := by
  have h1 := (rec_right h).2.2.1
  unfold Rv.keyOk at h1
  simp only [Bool.and_eq_true, decide_eq_true_eq] at h1
  have hb : (Rv.bytesOf r.key).length = r.key.size := rfl
  have hl := fun n => Rv.numB_len n
  unfold Rv.Coder.put
  simp only [List.length_append]
  have h2 := hl (4 * (r.tick - c.tick) + r.verdict)
  have h3 := hl (Rv.zig (r.cost - c.cost)).1
  split
  · have h4 := hl (1 + ((c.d.use r.key).2.1 : Int))
    omega
  · have h4 := hl 0
    have h5 := hl (r.key.size : Int)
    simp only [List.length_append]
    omega
theorem mput_ok {m m' : Rv.Maker} {r : Rv.Rec} {l : List Rv.Bs} (hm : MOk m) (h : m.put r = .ok (m', l)) : MOk m' ∧ m'.p = m.p ∧ m'.records = m.records + 1 ∧ m'.size = m.size + l.flatten.length ∧ 1 ≤ l.length ∧ l.length ≤ 3 := by
  by_cases h0 : m.coder.putE r = 0
  · obtain ⟨hr, ht⟩ := putE_zero h0
    obtain ⟨s, hs⟩ : ∃ s, m.adds r (m.coder.put r).1 (m.coder.put r).2 = s := ⟨_, rfl⟩
    obtain ⟨s, b⟩ := s
    by_cases hb : b = false ∨ m.records = 10000
    · rw [put_big h0 rfl hs hb] at h; cases h
    · have hbt : b = true := by cases b <;> simp_all
      subst hbt
      have hn : m.records ≠ 10000 := fun e => hb (.inr e)
      rw [put_fits h0 rfl hs hn] at h
      simp only [Except.ok.injEq, Prod.mk.injEq] at h
      obtain ⟨rfl, rfl⟩ := h
      obtain ⟨q1, q2, q3, q4, q5⟩ := adds_parts hs
      have hn1 := hm.n1
      have hd := MOk.done hm (by rw [hs]) (by omega) (r := r) (c := (m.coder.put r).1) (piece := (m.coder.put r).2) rfl ht (put_keys hr hm.kp)
      rw [hs] at hd
      refine ⟨hd, rfl, rfl, ?_, by simp only [List.length_append, List.length_cons]; omega, ?_⟩
      · show m.size + (s.piece.length + s.check.length + s.trailer.length) = _
        have ht0 : s.ends = false → s.trailer = [] := fun e => by
          by_cases hbb : addSize m r (m.coder.put r).2 > 4194304
          · rw [adds_big _ hbb] at hs; cases hs
          · rw [adds_fit _ hbb] at hs
            injection hs with hs1 hs2
            subst hs1
            show addTr m r _ = []
            unfold addTr
            have e' : addEnds m = false := e
            rw [e']; rfl
        simp only [List.flatten_append, List.length_append, List.flatten_cons, List.flatten_nil, List.append_nil]
        split
        · rename_i hc
          rw [hc]
          cases he : s.ends
          · rw [ht0 he]; simp
          · simp <;> omega
        · cases he : s.ends
          · rw [ht0 he]; simp
          · simp <;> omega
      · split <;> split <;> simp
  · rw [put_bad h0] at h; cases h
end Go.Proofs.YtcmndglhileeoaaGreat

/- The walks of package tape: Put. -/
set_option linter.unusedSimpArgs false
set_option linter.unusedVariables false
namespace Go.Proofs.YtcmndglhileeoaaGreat
open Go.RowKit
open Rv (HP Sat Same pt allOf sat_all RdIn row own Lcl)

/-- A maker's box. -/
abbrev mb (T : TypeId) (g : Nat) (m : Rv.Maker) (gc gl : Nat) (sA : Option Addr) (sc : Nat) (ev : Value) : HP := makBox T g m.p gc gl m.link (.slice sA m.segment.length sc) m.records m.size ev
/-- A segment's bytes. -/
abbrev sg (m : Rv.Maker) (sA : Option Addr) (sc : Nat) : HP := bytesP (.slice sA m.segment.length sc) m.segment
abbrev stp (g9 gc : Nat) (op : Option Addr) (s : Rv.Step) (pv cv tv : Value) : HP := pt g9 (.cells (stepCells gc (.pointer op) s.link pv cv tv s.ends) 74)
abbrev rcP (g3 : Nat) (r : Rv.Rec) : HP := pt g3 (.cells (recCells r) 44)
theorem rec_facts {w : World} {R : HP} {g3 : Nat} {r : Rv.Rec} (h : Sat w (rcP g3 r * R)) : w.cell? ⟨g3, 0, none⟩ = some (.int .i64 r.tick) ∧ w.cell? ⟨g3, 1, none⟩ = some (.string r.key) ∧ w.cell? ⟨g3, 2, none⟩ = some (.int .i64 r.cost) ∧ w.cell? ⟨g3, 3, none⟩ = some (.int .i64 r.verdict) := by
  have q := Rv.Sat.heap h
  exact ⟨(cells_of q 0).trans rfl, (cells_of q 1).trans rfl, (cells_of q 2).trans rfl, (cells_of q 3).trans rfl⟩

theorem zero_step : (Tryz.prog.info? 74).map (fun i => (i.zero, i.size)) = some (some (.agg stepZero), 10) := by kernel_rfl
/-- What adds tells. -/
def AddsRes (T : TypeId) (Q F : HP) (w : World) (g gc gl g' : Nat) (m : Rv.Maker) (sA : Option Addr) (sc : Nat) (ev pv : Value) (s : Rv.Step) (fits : Bool) (e : Ending) (w' : World) : Prop :=
  ∃ op cA cc tA tc Q', e = .returned (.tuple #[.agg (stepCells g' (.pointer op) s.link pv (.slice cA s.check.length cc) (.slice tA s.trailer.length tc) s.ends), .bool fits]) ∧ Ext Q Q' ∧
    Sat w' (mb T g m gc gl sA sc ev * (owedP Q' (.pointer op) s.owed * (bytesP (.slice cA s.check.length cc) s.check * (bytesP (.slice tA s.trailer.length tc) s.trailer * (ledP Q' gl m.owed * (sg m sA sc * (Q' * F))))))) ∧ Same w w' ∧ (s.owed = none → cA = none ∧ cc = 0)
theorem adds_step (T : TypeId) (w : World) (Q F : HP) (g gc gl g' : Nat) (m : Rv.Maker) (r : Rv.Rec) (c : Rv.Coder) (piece : List UInt8) (sA : Option Addr) (sc : Nat) (ev : Value) (pA : Option Addr) (pc : Nat) (s : Rv.Step) (fits : Bool)
    (hm : MOk m) (hs : m.adds r c piece = (s, fits)) (h : Sat w (mb T g m gc gl sA sc ev * (ledP Q gl m.owed * (sg m sA sc * (Q * F))))) (hp : RdIn F pA (u8s piece)) (hnil : pA = none → pc = 0) (hpl : piece.length ≤ 4194304) (hr : r.right = 0) (ht : m.coder.tick ≤ r.tick) :
    Calls Tryz.prog 24 #[.pointer (some ⟨g, 0, none⟩), .agg #[.int .i64 r.tick, .string r.key, .int .i64 r.cost, .int .i64 r.verdict], .pointer (some ⟨g', 0, none⟩), .slice pA piece.length pc] w (AddsRes T Q F w g gc gl g' m sA sc ev (.slice pA piece.length pc) s fits) := by
  refine (adds_any T w Q F g gc gl g' m r c piece sA sc ev pA pc hm h hp hnil hpl hr ht).mono ?_
  rintro e w' ⟨ov, cv, tv, Q', rfl, x, h1, z, hc⟩
  rw [hs] at h1 hc ⊢
  simp only at h1 hc ⊢
  obtain ⟨op, rfl⟩ := owedP_ptr h1.right
  obtain ⟨cA, cc, rfl, _, _, _⟩ := bytesP_shape h1.right.right
  obtain ⟨tA, tc, rfl, _, _, _⟩ := bytesP_shape h1.right.right.right
  exact ⟨op, cA, cc, tA, tc, Q', rfl, x, h1, z, fun e => by have := hc e; injection this with h1 h2 h3; exact ⟨h1, h3⟩⟩
section
variable {P : Program} {ops : Array Oper} {rest : List Oper} {o : Oper} {a : Act} {Q : Exit → Act → World → Prop}
/-- append of one value that lies in a new box. -/
theorem sapp_one {W : World} {R : HP} (hgd : o.guard = none) (s x : Operand) (t e : TypeId) (z : Value) (bytes : Nat)
    (ho : o.op = .call { callee := .builtin .append, args := #[s, x], argTypes := #[t, t] })
    (ht : P.underlying t = some (.slice e)) (hinfo : (P.info? e).map (fun i => (i.zero, i.size, i.bytes)) = some (some z, 1, bytes)) (hz : z.cells.size = 1) (hb0 : 0 < bytes)
    (v : Value) (vs : List Value) (y : Value) (hs : a.eval s = v) (hx : a.eval x = .slice (some ⟨W.heap.size, 0, none⟩) 1 1) (h1 : y.oneCell' = true)
    (HS : Sat W (row e v vs * R)) (hl : (vs.length + 1) * bytes ≤ 140737488355328) (N : Nat) (hN : vs.length + 1 = N)
    (h : ∀ B1 c1 w1, Sat w1 (row e (.slice B1 N c1) (vs ++ [y]) * R) → Same W w1 → wpList P ops Q rest (a.put o.dst (.slice B1 N c1)) w1) :
    wpList P ops Q (o :: rest) a (W.alloc (.cells #[y] e)) := by
  refine app_one_at hgd s x t e z bytes ho ht hinfo hz hb0 v vs y hs hx h1 HS.row_own hl N hN ?_
  intro B1 c1 w1 o1 k1 l1
  exact h B1 c1 w1 (HS.row_turn k1 o1 l1) (Same.of k1)
end
theorem info_bs : (Tryz.prog.info? 22).map (fun i => (i.zero, i.size, i.bytes)) = some (some (.slice none 0 0), 1, 24) := by kernel_rfl
theorem adds_true {m : Rv.Maker} {r : Rv.Rec} {c : Rv.Coder} {piece : Rv.Bs} {s : Rv.Step} (h : m.adds r c piece = (s, true)) : m.size + s.piece.length + s.check.length + s.trailer.length ≤ 4194304 := by
  by_cases hb : addSize m r piece > 4194304
  · rw [adds_big c hb] at h; cases h
  · rw [adds_fit c hb] at h
    injection h with h1 h2
    subst h1
    exact of_decide_eq_true h2
/-- What done leaves. -/
def DoneRes (T : TypeId) (Q F : HP) (w : World) (g : Nat) (m' : Rv.Maker) (ev : Value) (e : Ending) (w' : World) : Prop :=
  e = .returned (.tuple #[]) ∧ ∃ Q', Ext Q Q' ∧ Sat w' (mkrP T Q' g m' ev * (Q' * F)) ∧ Same w w'
theorem done_step (T : TypeId) (w : World) (Q F : HP) (g gc0 gl gc : Nat) (m : Rv.Maker) (r : Rv.Rec) (s : Rv.Step) (sA pA cA tA op : Option Addr) (sc pc cc tc : Nat) (ev : Value)
    (hm : MOk m) (h : Sat w (mb T g m gc0 gl sA sc ev * (owedP Q (.pointer op) s.owed * (ledP Q gl m.owed * (sg m sA sc * (coderP gc s.coder * (Q * F))))))) (hp : RdIn F pA (u8s s.piece)) (hpn : pA = none → pc = 0) (hc : RdIn F cA (u8s s.check)) (hcn : cA = none → cc = 0)
    (hlp : s.piece.length ≤ 4194304) (hlc : s.check.length ≤ 4194304) (hlt : s.trailer.length ≤ 1099511627776) (hr : r.right = 0) (ht : m.coder.tick ≤ r.tick) :
    Calls Tryz.prog 25 #[.pointer (some ⟨g, 0, none⟩), .agg #[.int .i64 r.tick, .string r.key, .int .i64 r.cost, .int .i64 r.verdict], .agg (stepCells gc (.pointer op) s.link (.slice pA s.piece.length pc) (.slice cA s.check.length cc) (.slice tA s.trailer.length tc) s.ends)] w (DoneRes T Q F w g (m.done r s) ev) := by
  refine (done_any T w Q (coderP gc s.coder * F) g gc0 gl gc m r s sA pA cA tA op sc pc cc tc ev hm ?_ (Rv.RdIn.right hp) hpn (Rv.RdIn.right hc) hcn hlp hlc hlt hr ht).mono ?_
  · exact h.perm (show mb T g m gc0 gl sA sc ev * (owedP Q (.pointer op) s.owed * (ledP Q gl m.owed * (sg m sA sc * (coderP gc s.coder * (Q * F))))) = mb T g m gc0 gl sA sc ev * (ledP Q gl m.owed * (sg m sA sc * (owedP Q (.pointer op) s.owed * (Q * (coderP gc s.coder * F))))) by ac_rfl)
  · rintro e w' ⟨rfl, gl', sv', Q', x, h1, z⟩
    obtain ⟨A', c', rfl, _, _, _⟩ := bytesP_shape h1.right.right
    refine ⟨rfl, Q', x, ?_, z⟩
    refine mkrP_shut (gc := gc) (gl := gl') (sA := A') (sc := c') ?_
    exact h1.perm (show makBox T g m.p gc gl' (m.done r s).link (.slice A' (m.done r s).segment.length c') (m.done r s).records (m.done r s).size ev * (ledP Q' gl' (m.done r s).owed * (bytesP (.slice A' (m.done r s).segment.length c') (m.done r s).segment * (Q' * (coderP gc s.coder * F)))) =
      makBox T g m.p gc gl' (m.done r s).link (.slice A' (m.done r s).segment.length c') (m.done r s).records (m.done r s).size ev * (ledP Q' gl' (m.done r s).owed * (bytesP (.slice A' (m.done r s).segment.length c') (m.done r s).segment * (coderP gc s.coder * (Q' * F)))) by ac_rfl)
/-- Pieces so far. -/
def PutPcs (F : HP) (w wx : World) (v : Value) (l : List Rv.Bs) : Prop := ∃ A c, v = .slice A l.length c ∧ Sat wx (piecesP (.slice A l.length c) l * F) ∧ Same w wx
theorem PutPcs.snoc {F : HP} {w wx : World} {A : Option Addr} {c : Nat} {vs : List Value} {y : Value} {b : Rv.Bs} {l : List Rv.Bs} (h : Sat wx (row 22 (.slice A (l ++ [b]).length c) (vs ++ [y]) * (pcsP vs l * (bytesP y b * F)))) (z : Same w wx) : PutPcs F w wx (.slice A (l ++ [b]).length c) (l ++ [b]) :=
  ⟨A, c, rfl, piecesP_shut ((pcsP_snoc (h.perm (show _ = pcsP vs l * (bytesP y b * (row 22 (.slice A (l ++ [b]).length c) (vs ++ [y]) * F)) by ac_rfl))).swap), z⟩
/-- What Put tells. -/
def PutRes (Q R : HP) (w : World) (g : Nat) (m : Rv.Maker) (res : Except Int (Rv.Maker × List Rv.Bs)) (e : Ending) (w' : World) : Prop := match res with
  | .error x => e = .returned (.tuple #[.slice none 0 0, .int .i64 x]) ∧ ∃ Q', Ext Q Q' ∧ Sat w' (wrtP Q' g m * (Q' * R)) ∧ Same w w'
  | .ok (m', l) => ∃ A c, e = .returned (.tuple #[.slice A l.length c, .int .i64 0]) ∧ ∃ Q', Ext Q Q' ∧ Sat w' (piecesP (.slice A l.length c) l * (wrtP Q' g m' * (Q' * R))) ∧ Same w w'
/-- Behind adds. -/
def PutStep (Q F : HP) (w wx : World) (v b : Value) (g gc gl g' : Nat) (sA : Option Addr) (sc : Nat) (hv pv : Value) (m : Rv.Maker) (s : Rv.Step) (fits : Bool) : Prop :=
  ∃ g9 op cA cc tA tc Q', v = .pointer (some ⟨g9, 0, none⟩) ∧ b = .bool fits ∧ Ext Q Q' ∧ Sat wx (stp g9 g' op s pv (.slice cA s.check.length cc) (.slice tA s.trailer.length tc) * (mb 69 g m gc gl sA sc hv * (owedP Q' (.pointer op) s.owed * (bytesP (.slice cA s.check.length cc) s.check * (bytesP (.slice tA s.trailer.length tc) s.trailer * (ledP Q' gl m.owed * (sg m sA sc * (Q' * F)))))))) ∧ Same w wx ∧ (s.owed = none → cA = none ∧ cc = 0)

set_option maxHeartbeats 4000000 in
set_option maxRecDepth 100000 in
theorem tput_any (w : World) (Q R : HP) (g : Nat) (m : Rv.Maker) (r : Rv.Rec) (hm : MOk m) (h : Sat w (wrtP Q g m * (Q * R))) :
    Calls Tryz.prog 14 #[.pointer (some ⟨g, 0, none⟩), .agg (recCells r)] w (PutRes Q R w g m (m.put r)) := by
  obtain ⟨hA, hc, h⟩ := wrtP_open h
  obtain ⟨gc, gl, sA, sc, h⟩ := mkrP_open h
  replace h : Sat w (mb 69 g m gc gl sA sc (.slice hA m.p.header.length hc) * (ledP Q gl m.owed * (sg m sA sc * (coderP gc m.coder * (bytesP (.slice hA m.p.header.length hc) m.p.header * (Q * R)))))) := h
  obtain ⟨res, hres⟩ : ∃ x, m.put r = x := ⟨_, rfl⟩
  rw [hres]
  have HRES := Lib.hid hres
  clear hres
  have hn1 := hm.n1
  have HM := Lib.hid hm
  have S0 : Hid (Sat (w.alloc (.cells (recCells r) 44)) (mb 69 g m gc gl sA sc (.slice hA m.p.header.length hc) * (rcP w.heap.size r * (coderP gc m.coder * (ledP Q gl m.owed * (sg m sA sc * (Q * (bytesP (.slice hA m.p.header.length hc) m.p.header * R)))))))) := Lib.hid ((show Sat _ (rcP w.heap.size r * _) from h.alloc (.cells (recCells r) 44)).perm (by ac_rfl))
  have Z0 : Hid (Same w (w.alloc (.cells (recCells r) 44))) := Lib.hid (Same.of ((Kept.refl (fun _ => False) w).alloc _))
  clear h hm
  go_enter Tryz.func14, Tryz.ntmps14
  go_upto_region 1 with (fail)
  obtain ⟨w2, hw2⟩ : ∃ w2, w2 = w.alloc (.cells (recCells r) 44) := ⟨_, rfl⟩
  change Code.wp _ _ _ _ (w.alloc (.cells (recCells r) 44))
  rw [← hw2] at S0 Z0 ⊢
  clear hw2
  generalize w.heap.size = g3 at *
  obtain ⟨d8, d9, d10, d11, d12, d13, d14, d15, d16, d17, d18, d19⟩ := mak_facts S0.out
  have HCL := Lib.hid (sclone w2 _ gc m.coder (S0.out.third))
  go_wp2_with fail
  refine HCL.out.mono ?_
  rintro e w3 ⟨g', rfl, s3, b3⟩
  have S3 : Hid (Sat w3 (mb 69 g m gc gl sA sc (.slice hA m.p.header.length hc) * (rcP g3 r * (coderP g' m.coder * (coderP gc m.coder * (ledP Q gl m.owed * (sg m sA sc * (Q * (bytesP (.slice hA m.p.header.length hc) m.p.header * R))))))))) := Lib.hid (s3.perm (by ac_rfl))
  have Z3 := Lib.hid (Z0.out.then (Rv.Same.below b3))
  clear s3 b3 S0 Z0 HCL d8 d9 d10 d11 d12 d13 d14 d15 d16 d17 d18 d19
  obtain ⟨r0, r1, r2, r3⟩ := rec_facts S3.out.right
  by_cases hE : m.coder.putE r = 0
  · obtain ⟨hr, ht⟩ := putE_zero hE
    have HE := Lib.hid hE
    have HR := Lib.hid hr
    have HP := Lib.hid (sput_ok w3 _ g' m.coder r S3.out.third hr ht)
    clear hE hr
    go_wp2_with fail
    refine HP.out.mono ?_
    rintro e w4 ⟨B, C, rfl, s4, z4⟩
    clear HP r0 r1 r2 r3
    obtain ⟨⟨c2, piece⟩, hcp⟩ : ∃ x, m.coder.put r = x := ⟨_, rfl⟩
    have hkp := put_keys HR.out HM.out.kp
    have hct : (m.coder.put r).1.tick = r.tick := rfl
    rw [hcp] at s4 hkp hct ⊢
    simp only at s4 hkp hct
    have HKP := Lib.hid hkp
    have HCT := Lib.hid hct
    have HCP := Lib.hid hcp
    have hpl : piece.length ≤ 200 := by have := put_len (c := m.coder) HR.out; rw [hcp] at this; exact this
    obtain ⟨⟨s, fits⟩, hs⟩ : ∃ x, m.adds r c2 piece = x := ⟨_, rfl⟩
    obtain ⟨hsp, hsc, hso, hsk, hst⟩ := adds_parts hs
    subst hsp
    have HS := Lib.hid hs
    have HSC := Lib.hid hsc
    have HSO := Lib.hid hso
    have HSK := Lib.hid hsk
    obtain ⟨F0, hF0⟩ : ∃ X : HP, bytesP (.slice B s.piece.length C) s.piece * (coderP g' c2 * (coderP gc m.coder * (bytesP (.slice hA m.p.header.length hc) m.p.header * R))) = X := ⟨_, rfl⟩
    have S4 : Hid (Sat w4 (mb 69 g m gc gl sA sc (.slice hA m.p.header.length hc) * (rcP g3 r * (ledP Q gl m.owed * (sg m sA sc * (Q * F0)))))) := Lib.hid (s4.perm (by rw [← hF0]; ac_rfl))
    have HRD : Hid (RdIn F0 B (u8s s.piece)) := Lib.hid (by rw [← hF0]; exact Rv.RdIn.left Rv.RdIn.row)
    have hnil : B = none → C = 0 := (bytesP_own (show Sat w4 (bytesP (.slice B s.piece.length C) s.piece * _) from s4)).nilcap
    have HNIL := Lib.hid hnil
    have HF0 := Lib.hid hF0
    have Z4 := Lib.hid (Z3.out.then z4)
    clear s4 z4 S3 Z3 hs hsc hso hsk hkp hct hcp hF0 hnil
    have HADD : Hid (∀ (wx : World) (F : HP), Sat wx (mb 69 g m gc gl sA sc (.slice hA m.p.header.length hc) * (ledP Q gl m.owed * (sg m sA sc * (Q * (F * F0))))) →
        Calls Tryz.prog 24 #[.pointer (some ⟨g, 0, none⟩), .agg #[.int .i64 r.tick, .string r.key, .int .i64 r.cost, .int .i64 r.verdict], .pointer (some ⟨g', 0, none⟩), .slice B s.piece.length C] wx (AddsRes 69 Q (F * F0) wx g gc gl g' m sA sc (.slice hA m.p.header.length hc) (.slice B s.piece.length C) s fits)) :=
      Lib.hid fun wx F h => adds_step _ wx Q (F * F0) g gc gl g' m r c2 s.piece sA sc _ B C s fits HM.out HS.out h (Rv.RdIn.right HRD.out) HNIL.out (by omega) HR.out ht
    have K0 := Lib.hid (rec_facts S4.out.swap)
    go_upto_region 5 with (fail)
    go_cut [9, 10] (fun v b wx => PutStep Q (rcP g3 r * F0) w wx v b g gc gl g' sA sc (.slice hA m.p.header.length hc) (.slice B s.piece.length C) m s fits)
    case first =>
      refine wp_region_held_drew (S := fun w' => w'.cell? ⟨g3, 0, none⟩ = some (.int .i64 r.tick) ∧ w'.cell? ⟨g3, 1, none⟩ = some (.string r.key) ∧ w'.cell? ⟨g3, 2, none⟩ = some (.int .i64 r.cost) ∧ w'.cell? ⟨g3, 3, none⟩ = some (.int .i64 r.verdict)) (by kernel_rfl) K0.out (fun hHeld => ?_)
      refine wpAnyH_take (i := 0) (oi := ⟨some 28, .move (.tmp 0), 35, "tape.go:126", #[], none⟩) (v := ?_) rfl (by kernel_rfl) (by kernel_rfl) (by kernel_rfl) (fun _ _ _ h => h) (Or.inl ⟨by rfl, ?_⟩) (by assumption) ?_
      rotate_left
      · intro w hSw
        try dsimp only at hSw
        go_simp
        try with_reducible rfl
      try simp only [Act.put, List.setIfInBounds_toArray, List.set_cons_zero, List.set_cons_succ]
      refine wpAnyH_take (i := 1) (oi := ⟨some 29, .nilCheck (.tmp 28), 0, "tape.go:126", #[⟨0, .data⟩], none⟩) (v := ?_) rfl (by kernel_rfl) (by kernel_rfl) (by kernel_rfl) (fun _ _ _ h => h) (Or.inl ⟨by rfl, ?_⟩) (by assumption) ?_
      rotate_left
      · intro w hSw
        try dsimp only at hSw
        go_simp
        try with_reducible rfl
      try simp only [Act.put, List.setIfInBounds_toArray, List.set_cons_zero, List.set_cons_succ]
      refine wpAnyH_take (i := 2) (oi := ⟨some 30, .fieldAddr 69 (.tmp 29) 0, 0, "tape.go:126", #[⟨1, .data⟩], none⟩) (v := ?_) rfl (by kernel_rfl) (by kernel_rfl) (by kernel_rfl) (fun _ _ _ h => h) (Or.inl ⟨by rfl, ?_⟩) (by assumption) ?_
      rotate_left
      · intro w hSw
        try dsimp only at hSw
        go_simp
        try with_reducible rfl
      try simp only [Act.put, List.setIfInBounds_toArray, List.set_cons_zero, List.set_cons_succ]
      refine wpAnyH_take (i := 3) (oi := ⟨some 31, .load 44 (.tmp 3), 44, "tape.go:126", #[], none⟩) (v := ?_) rfl (by kernel_rfl) (by kernel_rfl) (by kernel_rfl) (fun _ _ _ h => h) (Or.inl ⟨by rfl, ?_⟩) (by assumption) ?_
      rotate_left
      · intro w hSw
        try dsimp only at hSw
        go_simp
        try with_reducible rfl
      try simp only [Act.put, List.setIfInBounds_toArray, List.set_cons_zero, List.set_cons_succ]
      refine wpAnyH_take (i := 4) (oi := ⟨some 32, .move (.tmp 6), 58, "tape.go:126", #[], none⟩) (v := ?_) rfl (by kernel_rfl) (by kernel_rfl) (by kernel_rfl) (fun _ _ _ h => h) (Or.inl ⟨by rfl, ?_⟩) (by assumption) ?_
      rotate_left
      · intro w hSw
        try dsimp only at hSw
        go_simp
        try with_reducible rfl
      try simp only [Act.put, List.setIfInBounds_toArray, List.set_cons_zero, List.set_cons_succ]
      refine wpAnyH_take (i := 5) (oi := ⟨some 33, .move (.tmp 7), 22, "tape.go:126", #[], none⟩) (v := ?_) rfl (by kernel_rfl) (by kernel_rfl) (by kernel_rfl) (fun _ _ _ h => h) (Or.inl ⟨by rfl, ?_⟩) (by assumption) ?_
      rotate_left
      · intro w hSw
        try dsimp only at hSw
        go_simp
        try with_reducible rfl
      try simp only [Act.put, List.setIfInBounds_toArray, List.set_cons_zero, List.set_cons_succ]
      refine wpAnyH_ready (rs := [6, 10]) (by kernel_rfl) (by simp) ?_
      refine AllReadyH.cons (o := ⟨some 34, .call { callee := .value (.func 24), args := #[.tmp 30, .tmp 31, .tmp 32, .tmp 33], argTypes := #[65, 44, 58, 22] }, 75, "tape.go:126", #[⟨2, .data⟩, ⟨3, .data⟩, ⟨4, .data⟩, ⟨5, .data⟩], none⟩) rfl (fun K hK => ?_) (AllReadyH.cons (o := ⟨some 9, .alloc 74, 0, "tape.go:126", #[], none⟩) rfl (fun K hK => ?_) AllReadyH.nil)
      · go_simp
        refine (HADD.out w4.drew (rcP g3 r) (S4.out.drew.perm (by ac_rfl))).mono ?_
        rintro e w5 ⟨op, cA, cc, tA, tc, Q', rfl, x5, s5, z5, hcn⟩
        have S5 : Hid (Sat w5 (rcP g3 r * (mb 69 g m gc gl sA sc (.slice hA m.p.header.length hc) * (owedP Q' (.pointer op) s.owed * (bytesP (.slice cA s.check.length cc) s.check * (bytesP (.slice tA s.trailer.length tc) s.trailer * (ledP Q' gl m.owed * (sg m sA sc * (Q' * F0))))))))) := Lib.hid (s5.perm (by ac_rfl))
        have Z5 := Lib.hid (Z4.out.drew.then z5)
        have X5 := Lib.hid x5
        have HCN := Lib.hid hcn
        have K1 := Lib.hid (rec_facts S5.out)
        refine hK.out _ _ K1.out (fun hHeld2 => ?_)
        clear hK K hHeld s5 z5 x5 hcn
        try simp only [Act.put, List.setIfInBounds_toArray, List.set_cons_zero, List.set_cons_succ]
        refine wpAnyH_take (i := 7) (oi := ⟨some 27, .move (.tmp 34), 75, "tape.go:126", #[⟨6, .data⟩], none⟩) (v := ?_) rfl (by kernel_rfl) (by kernel_rfl) (by kernel_rfl) (fun _ _ _ h => h) (Or.inl ⟨by rfl, ?_⟩) (by assumption) ?_
        rotate_left
        · intro w hSw
          try dsimp only at hSw
          go_simp
          try with_reducible rfl
        try simp only [Act.put, List.setIfInBounds_toArray, List.set_cons_zero, List.set_cons_succ]
        refine wpAnyH_take (i := 8) (oi := ⟨some 35, .extract (.tmp 27) 0, 74, "tape.go:126", #[⟨7, .data⟩], none⟩) (v := ?_) rfl (by kernel_rfl) (by kernel_rfl) (by kernel_rfl) (fun _ _ _ h => h) (Or.inl ⟨by rfl, ?_⟩) (by assumption) ?_
        rotate_left
        · intro w hSw
          try dsimp only at hSw
          go_simp
          try with_reducible rfl
        try simp only [Act.put, List.setIfInBounds_toArray, List.set_cons_zero, List.set_cons_succ]
        refine wpAnyH_take (i := 9) (oi := ⟨some 36, .extract (.tmp 27) 1, 4, "tape.go:126", #[⟨7, .data⟩, ⟨11, .gcOnly .lateStores⟩], none⟩) (v := ?_) rfl (by kernel_rfl) (by kernel_rfl) (by kernel_rfl) (fun _ _ _ h => h) (Or.inl ⟨by rfl, ?_⟩) (by assumption) ?_
        rotate_left
        · intro w hSw
          try dsimp only at hSw
          go_simp
          try with_reducible rfl
        try simp only [Act.put, List.setIfInBounds_toArray, List.set_cons_zero, List.set_cons_succ]
        refine wpAnyH_ready (rs := [10]) (by kernel_rfl) (by simp) ?_
        refine AllReadyH.cons (o := ⟨some 9, .alloc 74, 0, "tape.go:126", #[], none⟩) rfl (fun K hK => ?_) AllReadyH.nil
        have S6 := Lib.hid (S5.out.alloc (.cells stepZero 74))
        have K2 := Lib.hid (rec_facts S6.out.swap)
        refine step_alloc rfl 74 rfl (.agg stepZero) (zero_of_info zero_step).1 ?_
        refine hK.out _ _ K2.out (fun hHeld => ?_)
        clear hK K hHeld2
        try simp only [Act.put, List.setIfInBounds_toArray, List.set_cons_zero, List.set_cons_succ]
        refine wpAnyH_ready (rs := [11]) (by kernel_rfl) (by simp) ?_
        refine AllReadyH.cons (o := ⟨none, .store 74 (.tmp 9) (.tmp 35), 0, "tape.go:126", #[⟨10, .data⟩, ⟨8, .data⟩, ⟨6, .chain⟩, ⟨0, .phase⟩, ⟨1, .phase⟩, ⟨2, .phase⟩, ⟨3, .phase⟩, ⟨4, .phase⟩, ⟨5, .phase⟩, ⟨6, .phase⟩, ⟨7, .phase⟩, ⟨8, .phase⟩, ⟨9, .textOnly .lateStores⟩, ⟨10, .phase⟩], none⟩) rfl (fun K hK => ?_) AllReadyH.nil
        have S7 : Hid (Sat ((w5.alloc (.cells stepZero 74)).setRow w5.heap.size (stepCells g' (.pointer op) s.link (.slice B s.piece.length C) (.slice cA s.check.length cc) (.slice tA s.trailer.length tc) s.ends)) (stp w5.heap.size g' op s (.slice B s.piece.length C) (.slice cA s.check.length cc) (.slice tA s.trailer.length tc) * (rcP g3 r * (mb 69 g m gc gl sA sc (.slice hA m.p.header.length hc) * (owedP Q' (.pointer op) s.owed * (bytesP (.slice cA s.check.length cc) s.check * (bytesP (.slice tA s.trailer.length tc) s.trailer * (ledP Q' gl m.owed * (sg m sA sc * (Q' * F0)))))))))) := Lib.hid (sat_setRow (n := (stepCells g' (.pointer op) s.link (.slice B s.piece.length C) (.slice cA s.check.length cc) (.slice tA s.trailer.length tc) s.ends)) S6.out)
        have K3 := Lib.hid (rec_facts S7.out.swap)
        refine step_store_row rfl 74 (.tmp 9) (.tmp 35) rfl w5.heap.size (stepCells g' (.pointer op) s.link (.slice B s.piece.length C) (.slice cA s.check.length cc) (.slice tA s.trailer.length tc) s.ends) (by rfl) (by rfl) 74 stepZero S6.out.heap info_step (by rfl) (one_step _ _ _ _ _ _ _ _ _ _ _ _ _) ?_
        refine hK.out _ _ K3.out (fun hHeld2 => ?_)
        clear hK K hHeld
        try simp only [Act.put, List.setIfInBounds_toArray, List.set_cons_zero, List.set_cons_succ]
        refine wpAnyH_take (i := 12) (oi := ⟨some 10, .assign (.tmp 36), 4, "tape.go:126", #[⟨9, .data⟩, ⟨11, .chain⟩, ⟨0, .phase⟩, ⟨1, .phase⟩, ⟨2, .phase⟩, ⟨3, .phase⟩, ⟨4, .phase⟩, ⟨5, .phase⟩, ⟨6, .phase⟩, ⟨7, .phase⟩, ⟨8, .phase⟩, ⟨9, .phase⟩, ⟨10, .phase⟩, ⟨11, .phase⟩], none⟩) (v := ?_) rfl (by kernel_rfl) (by kernel_rfl) (by kernel_rfl) (fun _ _ _ h => h) (Or.inl ⟨by rfl, ?_⟩) (by assumption) ?_
        rotate_left
        · intro w hSw
          try dsimp only at hSw
          go_simp
          try with_reducible rfl
        try simp only [Act.put, List.setIfInBounds_toArray, List.set_cons_zero, List.set_cons_succ]
        refine wpAnyH_done (by kernel_rfl) ?_ _
        clear hHeld2
        go_wp2_with fail
        go_meet
        case rel => exact ⟨_, op, cA, cc, tA, tc, Q', rfl, rfl, X5.out, S7.out.perm (by ac_rfl), (Z5.out.then (Same.of ((Kept.refl (fun _ => False) _).alloc _))).then (same_setRow _ _ _), HCN.out⟩
      · have S5 : Hid (Sat (w4.drew.alloc (.cells stepZero 74)) _) := Lib.hid (S4.out.drew.alloc (.cells stepZero 74))
        have K1 := Lib.hid (rec_facts S5.out.third)
        refine step_alloc rfl 74 rfl (.agg stepZero) (zero_of_info zero_step).1 ?_
        refine hK.out _ _ K1.out (fun hHeld2 => ?_)
        clear hK K hHeld
        try simp only [Act.put, List.setIfInBounds_toArray, List.set_cons_zero, List.set_cons_succ]
        refine wpAnyH_ready (rs := [6]) (by kernel_rfl) (by simp) ?_
        refine AllReadyH.cons (o := ⟨some 34, .call { callee := .value (.func 24), args := #[.tmp 30, .tmp 31, .tmp 32, .tmp 33], argTypes := #[65, 44, 58, 22] }, 75, "tape.go:126", #[⟨2, .data⟩, ⟨3, .data⟩, ⟨4, .data⟩, ⟨5, .data⟩], none⟩) rfl (fun K hK => ?_) AllReadyH.nil
        go_simp
        refine (HADD.out _ (pt w4.heap.size (.cells stepZero 74) * rcP g3 r) (S5.out.perm (by simp only [World.size_drew]; ac_rfl))).mono ?_
        rintro e w6 ⟨op, cA, cc, tA, tc, Q', rfl, x6, s6, z6, hcn⟩
        have S6 : Hid (Sat w6 (pt w4.heap.size (.cells stepZero 74) * (rcP g3 r * (mb 69 g m gc gl sA sc (.slice hA m.p.header.length hc) * (owedP Q' (.pointer op) s.owed * (bytesP (.slice cA s.check.length cc) s.check * (bytesP (.slice tA s.trailer.length tc) s.trailer * (ledP Q' gl m.owed * (sg m sA sc * (Q' * F0)))))))))) := Lib.hid (s6.perm (by ac_rfl))
        have Z6 : Hid (Same w w6) := Lib.hid ((Z4.out.drew.then (Same.of ((Kept.refl (fun _ => False) w4.drew).alloc (.cells stepZero 74)))).then z6)
        have X6 := Lib.hid x6
        have HCN := Lib.hid hcn
        have K2 := Lib.hid (rec_facts S6.out.swap)
        refine hK.out _ _ K2.out (fun hHeld => ?_)
        clear hK K hHeld2 s6 z6 x6 hcn
        try simp only [Act.put, List.setIfInBounds_toArray, List.set_cons_zero, List.set_cons_succ]
        refine wpAnyH_take (i := 7) (oi := ⟨some 27, .move (.tmp 34), 75, "tape.go:126", #[⟨6, .data⟩], none⟩) (v := ?_) rfl (by kernel_rfl) (by kernel_rfl) (by kernel_rfl) (fun _ _ _ h => h) (Or.inl ⟨by rfl, ?_⟩) (by assumption) ?_
        rotate_left
        · intro w hSw
          try dsimp only at hSw
          go_simp
          try with_reducible rfl
        try simp only [Act.put, List.setIfInBounds_toArray, List.set_cons_zero, List.set_cons_succ]
        refine wpAnyH_take (i := 8) (oi := ⟨some 35, .extract (.tmp 27) 0, 74, "tape.go:126", #[⟨7, .data⟩], none⟩) (v := ?_) rfl (by kernel_rfl) (by kernel_rfl) (by kernel_rfl) (fun _ _ _ h => h) (Or.inl ⟨by rfl, ?_⟩) (by assumption) ?_
        rotate_left
        · intro w hSw
          try dsimp only at hSw
          go_simp
          try with_reducible rfl
        try simp only [Act.put, List.setIfInBounds_toArray, List.set_cons_zero, List.set_cons_succ]
        refine wpAnyH_take (i := 9) (oi := ⟨some 36, .extract (.tmp 27) 1, 4, "tape.go:126", #[⟨7, .data⟩, ⟨11, .gcOnly .lateStores⟩], none⟩) (v := ?_) rfl (by kernel_rfl) (by kernel_rfl) (by kernel_rfl) (fun _ _ _ h => h) (Or.inl ⟨by rfl, ?_⟩) (by assumption) ?_
        rotate_left
        · intro w hSw
          try dsimp only at hSw
          go_simp
          try with_reducible rfl
        try simp only [Act.put, List.setIfInBounds_toArray, List.set_cons_zero, List.set_cons_succ]
        refine wpAnyH_ready (rs := [11]) (by kernel_rfl) (by simp) ?_
        refine AllReadyH.cons (o := ⟨none, .store 74 (.tmp 9) (.tmp 35), 0, "tape.go:126", #[⟨10, .data⟩, ⟨8, .data⟩, ⟨6, .chain⟩, ⟨0, .phase⟩, ⟨1, .phase⟩, ⟨2, .phase⟩, ⟨3, .phase⟩, ⟨4, .phase⟩, ⟨5, .phase⟩, ⟨6, .phase⟩, ⟨7, .phase⟩, ⟨8, .phase⟩, ⟨9, .textOnly .lateStores⟩, ⟨10, .phase⟩], none⟩) rfl (fun K hK => ?_) AllReadyH.nil
        have S7 : Hid (Sat (w6.setRow w4.heap.size (stepCells g' (.pointer op) s.link (.slice B s.piece.length C) (.slice cA s.check.length cc) (.slice tA s.trailer.length tc) s.ends)) (stp w4.heap.size g' op s (.slice B s.piece.length C) (.slice cA s.check.length cc) (.slice tA s.trailer.length tc) * (rcP g3 r * (mb 69 g m gc gl sA sc (.slice hA m.p.header.length hc) * (owedP Q' (.pointer op) s.owed * (bytesP (.slice cA s.check.length cc) s.check * (bytesP (.slice tA s.trailer.length tc) s.trailer * (ledP Q' gl m.owed * (sg m sA sc * (Q' * F0)))))))))) := Lib.hid (sat_setRow (n := (stepCells g' (.pointer op) s.link (.slice B s.piece.length C) (.slice cA s.check.length cc) (.slice tA s.trailer.length tc) s.ends)) S6.out)
        have K3 := Lib.hid (rec_facts S7.out.swap)
        refine step_store_row rfl 74 (.tmp 9) (.tmp 35) rfl w4.heap.size (stepCells g' (.pointer op) s.link (.slice B s.piece.length C) (.slice cA s.check.length cc) (.slice tA s.trailer.length tc) s.ends) (by rfl) (by rfl) 74 stepZero S6.out.heap info_step (by rfl) (one_step _ _ _ _ _ _ _ _ _ _ _ _ _) ?_
        refine hK.out _ _ K3.out (fun hHeld2 => ?_)
        clear hK K hHeld
        try simp only [Act.put, List.setIfInBounds_toArray, List.set_cons_zero, List.set_cons_succ]
        refine wpAnyH_take (i := 12) (oi := ⟨some 10, .assign (.tmp 36), 4, "tape.go:126", #[⟨9, .data⟩, ⟨11, .chain⟩, ⟨0, .phase⟩, ⟨1, .phase⟩, ⟨2, .phase⟩, ⟨3, .phase⟩, ⟨4, .phase⟩, ⟨5, .phase⟩, ⟨6, .phase⟩, ⟨7, .phase⟩, ⟨8, .phase⟩, ⟨9, .phase⟩, ⟨10, .phase⟩, ⟨11, .phase⟩], none⟩) (v := ?_) rfl (by kernel_rfl) (by kernel_rfl) (by kernel_rfl) (fun _ _ _ h => h) (Or.inl ⟨by rfl, ?_⟩) (by assumption) ?_
        rotate_left
        · intro w hSw
          try dsimp only at hSw
          go_simp
          try with_reducible rfl
        try simp only [Act.put, List.setIfInBounds_toArray, List.set_cons_zero, List.set_cons_succ]
        refine wpAnyH_done (by kernel_rfl) ?_ _
        clear hHeld2
        go_wp2_with fail
        go_meet
        case rel => exact ⟨_, op, cA, cc, tA, tc, Q', rfl, rfl, X6.out, S7.out.perm (by ac_rfl), Z6.out.then (same_setRow _ _ _), HCN.out⟩
    case rest =>
      rename World => wd
      obtain ⟨g9, op, cA, cc, tA, tc, Q', rfl, rfl, x5, s5, z5, hcn⟩ := hcut
      have S5 := Lib.hid s5
      have Z5 := Lib.hid z5
      have X5 := Lib.hid x5
      have HCN' := Lib.hid hcn
      clear s5 z5 x5 hcn S4 Z4 K0 HADD
      obtain ⟨d8, d9, d10, d11, d12, d13, d14, d15, d16, d17, d18, d19⟩ := mak_facts S5.out.right
      by_cases hbig : fits = false ∨ m.records = 10000
      · obtain rfl := (put_big HE.out HCP.out HS.out hbig).symm.trans HRES.out
        have hfin : PutRes Q R w g m (.error 3) (.returned (.tuple #[.slice none 0 0, .int .i64 3])) wd := by
          refine ⟨rfl, Q', X5.out, ?_, Z5.out⟩
          have h1 := S5.out
          rw [← HF0.out] at h1
          exact wrtP_shut (mkrP_shut ((h1.perm (show _ = stp g9 g' op s (.slice B s.piece.length C) (.slice cA s.check.length cc) (.slice tA s.trailer.length tc) * (owedP Q' (.pointer op) s.owed * (bytesP (.slice cA s.check.length cc) s.check * (bytesP (.slice tA s.trailer.length tc) s.trailer * (bytesP (.slice B s.piece.length C) s.piece * (coderP g' c2 * (rcP g3 r * (mb 69 g m gc gl sA sc (.slice hA m.p.header.length hc) * (ledP Q' gl m.owed * (sg m sA sc * (coderP gc m.coder * (bytesP (.slice hA m.p.header.length hc) m.p.header * (Q' * R)))))))))))) by ac_rfl)).right.right.right.right.right.right.right))
        have HFIN := Lib.hid hfin
        clear hfin
        cases fits with
        | false =>
          clear hbig
          go_wp2_with fail
          go_ret2
          exact HFIN.out
        | true =>
          have e1 : ((m.records : Int) == 10000) = true := by
            rcases hbig with h | h
            · cases h
            · rw [h]; rfl
          clear hbig
          go_wp2_with fail
          go_ret2
          exact HFIN.out
      · have hft : fits = true := by cases fits <;> simp_all
        subst hft
        have hne : m.records ≠ 10000 := fun e => hbig (.inr e)
        have e1 : ((m.records : Int) == 10000) = false := by simp; omega
        have HPF := Lib.hid ((put_fits HE.out HCP.out HS.out hne).symm.trans HRES.out)
        clear hbig hne
        have hcl : s.check.length ≤ 4194304 := by have := adds_true HS.out; omega
        have HCN : Hid (cA = none → cc = 0) := Lib.hid (bytesP_own S5.out.right.right.right).nilcap
        have K0 := Lib.hid (And.intro (rec_facts (S5.out.perm (show _ = rcP g3 r * (stp g9 g' op s (.slice B s.piece.length C) (.slice cA s.check.length cc) (.slice tA s.trailer.length tc) * (mb 69 g m gc gl sA sc (.slice hA m.p.header.length hc) * (owedP Q' (.pointer op) s.owed * (bytesP (.slice cA s.check.length cc) s.check * (bytesP (.slice tA s.trailer.length tc) s.trailer * (ledP Q' gl m.owed * (sg m sA sc * (Q' * F0)))))))) by ac_rfl))) (stp_facts S5.out))
        go_upto_region 8 with (fail)
        refine wp_region_held_drew (S := fun w' => (w'.cell? ⟨g3, 0, none⟩ = some (.int .i64 r.tick) ∧ w'.cell? ⟨g3, 1, none⟩ = some (.string r.key) ∧ w'.cell? ⟨g3, 2, none⟩ = some (.int .i64 r.cost) ∧ w'.cell? ⟨g3, 3, none⟩ = some (.int .i64 r.verdict)) ∧ (w'.cell? ⟨g9, 0, none⟩ = some (.pointer (some ⟨g', 0, none⟩)) ∧ w'.cell? ⟨g9, 1, none⟩ = some (.pointer op) ∧ w'.cell? ⟨g9, 2, none⟩ = some (.int .i64 s.link.number) ∧ w'.cell? ⟨g9, 3, none⟩ = some (.int .i64 s.link.bytes) ∧ w'.cell? ⟨g9, 4, none⟩ = some (.int .i64 s.link.sl.re) ∧ w'.cell? ⟨g9, 5, none⟩ = some (.int .i64 s.link.sl.im) ∧ w'.cell? ⟨g9, 6, none⟩ = some (.slice B s.piece.length C) ∧ w'.cell? ⟨g9, 7, none⟩ = some (.slice cA s.check.length cc) ∧ w'.cell? ⟨g9, 8, none⟩ = some (.slice tA s.trailer.length tc) ∧ w'.cell? ⟨g9, 9, none⟩ = some (.bool s.ends))) (by kernel_rfl) K0.out (fun hHeld => ?_)
        refine wpAnyH_take (i := 0) (oi := ⟨some 47, .move (.tmp 0), 35, "tape.go:130", #[], none⟩) (v := ?_) rfl (by kernel_rfl) (by kernel_rfl) (by kernel_rfl) (fun _ _ _ h => h) (Or.inl ⟨by rfl, ?_⟩) (by assumption) ?_
        rotate_left
        · intro w hSw
          try dsimp only at hSw
          go_simp
          try with_reducible rfl
        try simp only [Act.put, List.setIfInBounds_toArray, List.set_cons_zero, List.set_cons_succ]
        refine wpAnyH_take (i := 1) (oi := ⟨some 48, .nilCheck (.tmp 47), 0, "tape.go:130", #[⟨0, .data⟩], none⟩) (v := ?_) rfl (by kernel_rfl) (by kernel_rfl) (by kernel_rfl) (fun _ _ _ h => h) (Or.inl ⟨by rfl, ?_⟩) (by assumption) ?_
        rotate_left
        · intro w hSw
          try dsimp only at hSw
          go_simp
          try with_reducible rfl
        try simp only [Act.put, List.setIfInBounds_toArray, List.set_cons_zero, List.set_cons_succ]
        refine wpAnyH_take (i := 2) (oi := ⟨some 49, .fieldAddr 69 (.tmp 48) 0, 0, "tape.go:130", #[⟨1, .data⟩], none⟩) (v := ?_) rfl (by kernel_rfl) (by kernel_rfl) (by kernel_rfl) (fun _ _ _ h => h) (Or.inl ⟨by rfl, ?_⟩) (by assumption) ?_
        rotate_left
        · intro w hSw
          try dsimp only at hSw
          go_simp
          try with_reducible rfl
        try simp only [Act.put, List.setIfInBounds_toArray, List.set_cons_zero, List.set_cons_succ]
        refine wpAnyH_take (i := 3) (oi := ⟨some 50, .load 44 (.tmp 3), 44, "tape.go:130", #[], none⟩) (v := ?_) rfl (by kernel_rfl) (by kernel_rfl) (by kernel_rfl) (fun _ _ _ h => h) (Or.inl ⟨by rfl, ?_⟩) (by assumption) ?_
        rotate_left
        · intro w hSw
          try dsimp only at hSw
          go_simp
          try with_reducible rfl
        try simp only [Act.put, List.setIfInBounds_toArray, List.set_cons_zero, List.set_cons_succ]
        refine wpAnyH_take (i := 4) (oi := ⟨some 51, .load 74 (.tmp 9), 74, "tape.go:130", #[], none⟩) (v := ?_) rfl (by kernel_rfl) (by kernel_rfl) (by kernel_rfl) (fun _ _ _ h => h) (Or.inl ⟨by rfl, ?_⟩) (by assumption) ?_
        rotate_left
        · intro w hSw
          try dsimp only at hSw
          go_simp
          try with_reducible rfl
        try simp only [Act.put, List.setIfInBounds_toArray, List.set_cons_zero, List.set_cons_succ]
        refine wpAnyH_ready (rs := [5]) (by kernel_rfl) (by simp) ?_
        refine AllReadyH.cons (o := ⟨some 52, .call { callee := .value (.func 25), args := #[.tmp 49, .tmp 50, .tmp 51], argTypes := #[65, 44, 74] }, 0, "tape.go:130", #[⟨2, .data⟩, ⟨3, .data⟩, ⟨4, .data⟩], none⟩) rfl (fun K hK => ?_) AllReadyH.nil
        go_simp
        refine (done_step 69 wd.drew Q' (stp g9 g' op s (.slice B s.piece.length C) (.slice cA s.check.length cc) (.slice tA s.trailer.length tc) * (rcP g3 r * (bytesP (.slice cA s.check.length cc) s.check * (bytesP (.slice tA s.trailer.length tc) s.trailer * (bytesP (.slice B s.piece.length C) s.piece * (coderP gc m.coder * (bytesP (.slice hA m.p.header.length hc) m.p.header * R))))))) g gc gl g' m r s sA B cA tA op sc C cc tc (.slice hA m.p.header.length hc) HM.out (S5.out.drew.perm (by rw [← HF0.out, HSC.out]; ac_rfl)) (Rv.RdIn.right (Rv.RdIn.right (Rv.RdIn.right (Rv.RdIn.right (Rv.RdIn.left Rv.RdIn.row))))) HNIL.out (Rv.RdIn.right (Rv.RdIn.right (Rv.RdIn.left Rv.RdIn.row))) HCN.out (by omega) (by omega) hst HR.out ht).mono ?_
        rintro e w7 ⟨rfl, Q2, x7, s7, z7⟩
        have S7 : Hid (Sat w7 (stp g9 g' op s (.slice B s.piece.length C) (.slice cA s.check.length cc) (.slice tA s.trailer.length tc) * (rcP g3 r * (mkrP 69 Q2 g (m.done r s) (.slice hA m.p.header.length hc) * (Q2 * (bytesP (.slice cA s.check.length cc) s.check * (bytesP (.slice tA s.trailer.length tc) s.trailer * (bytesP (.slice B s.piece.length C) s.piece * (coderP gc m.coder * (bytesP (.slice hA m.p.header.length hc) m.p.header * R)))))))))) := Lib.hid (s7.perm (by ac_rfl))
        have Z7 := Lib.hid (Z5.out.drew.then z7)
        have X7 := Lib.hid (X5.out.then x7)
        have K1 := Lib.hid (And.intro (rec_facts S7.out.swap) (stp_facts S7.out))
        refine hK.out _ _ K1.out (fun hHeld2 => ?_)
        clear hK K hHeld s7 z7 x7
        try simp only [Act.put, List.setIfInBounds_toArray, List.set_cons_zero, List.set_cons_succ]
        refine wpAnyH_done (by kernel_rfl) ?_ _
        clear hHeld2
        have hw := wrtP_shut (hA := hA) (hc := hc) (m := m.done r s) (S7.out.perm (show _ = mkrP 69 Q2 g (m.done r s) (.slice hA m.p.header.length hc) * (bytesP (.slice hA m.p.header.length hc) m.p.header * (rcP g3 r * (coderP gc m.coder * (bytesP (.slice B s.piece.length C) s.piece * (bytesP (.slice cA s.check.length cc) s.check * (stp g9 g' op s (.slice B s.piece.length C) (.slice cA s.check.length cc) (.slice tA s.trailer.length tc) * (bytesP (.slice tA s.trailer.length tc) s.trailer * (Q2 * R)))))))) by ac_rfl))
        have S8 : Hid (Sat w7 (bytesP (.slice B s.piece.length C) s.piece * (bytesP (.slice cA s.check.length cc) s.check * (stp g9 g' op s (.slice B s.piece.length C) (.slice cA s.check.length cc) (.slice tA s.trailer.length tc) * (bytesP (.slice tA s.trailer.length tc) s.trailer * (wrtP Q2 g (m.done r s) * (Q2 * R))))))) := Lib.hid ((hw.perm (show _ = rcP g3 r * (coderP gc m.coder * (bytesP (.slice B s.piece.length C) s.piece * (bytesP (.slice cA s.check.length cc) s.check * (stp g9 g' op s (.slice B s.piece.length C) (.slice cA s.check.length cc) (.slice tA s.trailer.length tc) * (bytesP (.slice tA s.trailer.length tc) s.trailer * (wrtP Q2 g (m.done r s) * (Q2 * R))))))) by ac_rfl)).right.right)
        clear hw S7 K1 S5 Z5 K0 hn1 ht e1 hpl hst hcl
        have S9 : Hid (Sat (w7.alloc (.cells #[(.slice B s.piece.length C)] 22)) (row 22 (.slice (some ⟨w7.heap.size, 0, none⟩) 1 1) [(.slice B s.piece.length C)] * (bytesP (.slice B s.piece.length C) s.piece * (bytesP (.slice cA s.check.length cc) s.check * (stp g9 g' op s (.slice B s.piece.length C) (.slice cA s.check.length cc) (.slice tA s.trailer.length tc) * (bytesP (.slice tA s.trailer.length tc) s.trailer * (wrtP Q2 g (m.done r s) * (Q2 * R)))))))) := Lib.hid (Rv.Sat.to_row (vs := [(.slice B s.piece.length C)]) (S8.out.alloc (.cells #[(.slice B s.piece.length C)] 22)) rfl (by simp [maxLen]))
        have Z9 : Hid (Same w (w7.alloc (.cells #[(.slice B s.piece.length C)] 22))) := Lib.hid (Z7.out.then (Same.of ((Kept.refl (fun _ => False) w7).alloc _)))
        have M1 : Hid (PutPcs (bytesP (.slice cA s.check.length cc) s.check * (stp g9 g' op s (.slice B s.piece.length C) (.slice cA s.check.length cc) (.slice tA s.trailer.length tc) * (bytesP (.slice tA s.trailer.length tc) s.trailer * (wrtP Q2 g (m.done r s) * (Q2 * R))))) w (w7.alloc (.cells #[(.slice B s.piece.length C)] 22)) (.slice (some ⟨w7.heap.size, 0, none⟩) 1 1) [s.piece]) := Lib.hid (PutPcs.snoc (l := []) (vs := []) (b := s.piece) (y := (.slice B s.piece.length C)) (by
          have h1 : Sat _ (pcsP [] [] * (row 22 (.slice (some ⟨w7.heap.size, 0, none⟩) 1 1) [(.slice B s.piece.length C)] * (bytesP (.slice B s.piece.length C) s.piece * (bytesP (.slice cA s.check.length cc) s.check * (stp g9 g' op s (.slice B s.piece.length C) (.slice cA s.check.length cc) (.slice tA s.trailer.length tc) * (bytesP (.slice tA s.trailer.length tc) s.trailer * (wrtP Q2 g (m.done r s) * (Q2 * R)))))))) := S9.out.one.perm (Rv.star_comm _ _)
          exact h1.swap) Z9.out)
        obtain ⟨nb, hnb⟩ : ∃ b : Bool, (!cA.isNone) = b := ⟨_, rfl⟩
        have hck : (nb = false → s.check = []) ∧ (nb = true → s.check ≠ []) := by
          cases ho : s.owed with
          | none =>
            obtain ⟨h1, h2⟩ := HCN'.out ho
            subst h1
            refine ⟨fun _ => ?_, fun h => by rw [← hnb] at h; cases h⟩
            rw [HSK.out]
            exact check_none (by rw [← HSO.out]; exact ho)
          | some l =>
            have h1 : s.check ≠ [] := by rw [HSK.out]; exact check_some HM.out (by rw [← HSO.out]; exact ho)
            refine ⟨fun h => ?_, fun _ => h1⟩
            have h2 : cA = none := by cases cA <;> simp_all
            subst h2
            have h3 := (bytesP_own S8.out.right).2
            rcases h3 with ⟨_, h4⟩ | ⟨_, _, _, h4, _⟩
            · exact absurd (List.length_eq_zero_iff.1 h4) h1
            · cases h4
        have HCK := Lib.hid hck
        have hn : ∀ w, (binOp .neq 22 (.slice cA s.check.length cc) (.slice none 0 0)).run Tryz.prog w = .ok (.bool nb) w := fun w => by rw [← hnb]; exact run_neq_slice_nil_any w 22 5 cA s.check.length cc 0 0 Tryz.underlying22
        obtain ⟨y0, y1, y2, y3, y4, y5, y6, y7, y8, y9⟩ := stp_facts (S9.out.right.right.right)
        clear hnb hck
        go_upto_if 57 with (fail)
        generalize w7.alloc (.cells #[(.slice B s.piece.length C)] 22) = w8 at *
        generalize w7.heap.size = g11 at *
        go_cut [11] (fun v wx => PutPcs (stp g9 g' op s (.slice B s.piece.length C) (.slice cA s.check.length cc) (.slice tA s.trailer.length tc) * (bytesP (.slice tA s.trailer.length tc) s.trailer * (wrtP Q2 g (m.done r s) * (Q2 * R)))) w wx v ([s.piece] ++ (if s.check = [] then [] else [s.check])))
        case first =>
          cases nb with
          | false =>
            have hc0 := Lib.hid (HCK.out.1 rfl)
            go_wp2_with fail
            go_meet
            case rel =>
              rw [if_pos hc0.out]
              obtain ⟨A1, c1, e1, h1, z1⟩ := M1.out
              exact ⟨A1, c1, e1, h1.drop2, z1⟩
          | true =>
            have hc0 := Lib.hid (HCK.out.2 rfl)
            go_wp2_with (at_builtin; refine sapp_one rfl (.tmp 58) (.tmp 61) 40 22 (.slice none 0 0) 24 rfl Tryz.underlying40 info_bs rfl (by omega) (.slice (some ⟨g11, 0, none⟩) 1 1) [(.slice B s.piece.length C)] (.slice cA s.check.length cc) (by rfl) (by rfl) rfl S9.out (by simp) 2 rfl ?_; intro B1 c1 w9 h9 z9; have S10 := Lib.hid h9; have Z10 := Lib.hid (Z9.out.then z9); clear h9 z9)
            go_meet
            case rel =>
              rw [if_neg hc0.out]
              exact PutPcs.snoc (l := [s.piece]) (vs := [(.slice B s.piece.length C)]) (b := s.check) (y := (.slice cA s.check.length cc)) (A := B1) (c := c1) (by rw [show pcsP [(.slice B s.piece.length C)] [s.piece] = bytesP (.slice B s.piece.length C) s.piece from Rv.star_one _]; exact S10.out) Z10.out
        case rest =>
          rename World => wf
          obtain ⟨A1, c1, rfl, s1, z1⟩ := hcut
          obtain ⟨l1, hl1⟩ : ∃ l, [s.piece] ++ (if s.check = [] then [] else [s.check]) = l := ⟨_, rfl⟩
          rw [hl1] at s1 ⊢
          have S10 := Lib.hid s1
          have Z10 := Lib.hid z1
          have HPF' : Hid (Except.ok (m.done r s, l1 ++ (if s.ends then [s.trailer] else [])) = res) := Lib.hid (by rw [← hl1]; exact HPF.out)
          have hl3 : l1.length ≤ 2 := by rw [← hl1]; split <;> simp
          clear s1 z1 S9 Z9 S8 M1 HCK hn y0 y1 y2 y3 y4 y5 y6 y7 y8 y9 HPF hl1 Z7
          obtain ⟨y0, y1, y2, y3, y4, y5, y6, y7, y8, y9⟩ := stp_facts (S10.out.right)
          have HRES' : Hid (∀ l wx A c, l1 ++ (if s.ends then [s.trailer] else []) = l → Sat wx (piecesP (.slice A l.length c) l * (stp g9 g' op s (.slice B s.piece.length C) (.slice cA s.check.length cc) (.slice tA s.trailer.length tc) * (wrtP Q2 g (m.done r s) * (Q2 * R)))) → Same w wx → PutRes Q R w g m res (.returned (.tuple #[.slice A l.length c, .int .i64 0])) wx) := Lib.hid fun l wx A c hl h z => by
            rw [← HPF'.out, hl]
            exact ⟨A, c, rfl, Q2, X7.out, h.drop2, z⟩
          clear HPF' HRES
          cases he : s.ends with
          | false =>
            rw [he] at y9
            have hfin := HRES'.out l1 wf A1 c1 (by rw [he]; simp) (S10.out.drop3.perm (by ac_rfl)) Z10.out
            have HFIN := Lib.hid hfin
            clear hfin HRES' he
            go_wp2_with fail
            go_ret2
            exact HFIN.out
          | true =>
            rw [he] at y9
            obtain ⟨vs, h1⟩ := piecesP_open S10.out
            have hvl : vs.length = l1.length := pcsP_length h1.right
            have S11 := Lib.hid h1
            have HVL := Lib.hid hvl
            have HE1 := Lib.hid he
            clear h1 hvl he
            go_wp2_with (at_builtin; refine sapp_one rfl (.tmp 65) (.tmp 68) 40 22 (.slice none 0 0) 24 rfl Tryz.underlying40 info_bs rfl (by omega) (.slice A1 l1.length c1) vs (.slice tA s.trailer.length tc) (by rfl) (by rfl) rfl S11.out (by rw [HVL.out]; omega) (l1.length + 1) (by rw [HVL.out]) ?_; intro B2 c2 w9 h9 z9; have S12 := Lib.hid h9; have Z12 := Lib.hid (Z10.out.then z9); clear h9 z9)
            have h12 : Sat w9 (row 22 (.slice B2 (l1 ++ [s.trailer]).length c2) (vs ++ [(.slice tA s.trailer.length tc)]) * (pcsP vs l1 * (bytesP (.slice tA s.trailer.length tc) s.trailer * (stp g9 g' op s (.slice B s.piece.length C) (.slice cA s.check.length cc) (.slice tA s.trailer.length tc) * (wrtP Q2 g (m.done r s) * (Q2 * R)))))) := by
              rw [List.length_append, List.length_singleton]
              exact S12.out.perm (by ac_rfl)
            obtain ⟨A3, c3, e3, h3, _⟩ := PutPcs.snoc (w := w) h12 Z12.out
            injection e3 with e4 e5 e6
            subst e4; subst e6
            have hfin := HRES'.out (l1 ++ [s.trailer]) w9 B2 c2 (by rw [HE1.out]; rfl) h3 Z12.out
            rw [List.length_append, List.length_singleton] at hfin
            go_ret2
            exact hfin
  · have e1 : (m.coder.putE r != 0) = true := by simpa using hE
    have HE := Lib.hid (put_bad hE)
    have HP := Lib.hid (sput_bad w3 _ g' m.coder r S3.out.third hE)
    clear hE
    obtain rfl := HE.out.symm.trans HRES.out
    clear HE HRES
    generalize m.coder.putE r = x at *
    go_wp2_with fail
    refine HP.out.mono ?_
    rintro e w4 ⟨rfl, b4⟩
    have S4 := Lib.hid (S3.out.below b4)
    have Z4 := Lib.hid (Z3.out.then (Rv.Same.below b4))
    clear b4 S3 Z3 HP r0 r1 r2 r3
    go_wp2_with fail
    go_ret2
    refine ⟨rfl, Q, Ext.refl Q, ?_, Z4.out⟩
    exact wrtP_shut (mkrP_shut ((S4.out.perm (show _ = rcP g3 r * (coderP g' m.coder * (mb 69 g m gc gl sA sc (.slice hA m.p.header.length hc) * (ledP Q gl m.owed * (sg m sA sc * (coderP gc m.coder * (bytesP (.slice hA m.p.header.length hc) m.p.header * (Q * R))))))) by ac_rfl)).right.right))
end Go.Proofs.YtcmndglhileeoaaGreat

/- The walks of package tape: Open. -/
set_option linter.unusedSimpArgs false
set_option linter.unusedVariables false
namespace Go.Proofs.YtcmndglhileeoaaGreat
open Go.RowKit
open Rv (HP Sat Same pt allOf sat_all RdIn row own Lcl)

theorem step_box {P : Program} {ops : Array Oper} {o : Oper} {a : Act} {w : World} {K : Act → World → Prop} {Q : Exit → Act → World → Prop} {E : Prop} (hgd : o.guard = none) (t : TypeId) (n : Tmp) (ho : o.op = .box t (.tmp n)) (cs : Array Value)
    (hx : a.tmps.getD n undef = .agg cs) (h : K (a.put o.dst (.pointer (some ⟨w.heap.size, 0, none⟩))) (w.alloc (.cells cs t))) :
    if Region.wanted o (yielded ops a.tmps) = true then Oper.wp P o a w K Q else E := by
  have hw : Region.wanted o (yielded ops a.tmps) = true := by simp [Region.wanted, hgd]
  have hx' : a.tmps[n]?.getD undef = .agg cs := by simpa using hx
  rw [if_pos hw]
  unfold Oper.wp
  simp [execOp, ho, hx', Result.andThen, newVar, newRow, go_sem]
  exact h
theorem results_tc {P : Program} {fn : Func} {q r : Tmp} {ty : TypeId} (h : fn.results = #[.tmp q, .cell r ty]) (tmps : Array Value) (w : World) (g : Nat) (t : TypeId) (cs : Array Value) (fr : Nat × Nat) (d : TypeDesc) (v : Value)
    (hq : tmps.getD q undef = v) (hr : tmps.getD r undef = .pointer (some ⟨g, 0, none⟩)) (hg : w.heap[g]? = some (.cells cs t fr))
    (hu : P.underlying ty = some d) (hd : (match d with | .struct _ | .array _ _ => true | _ => false) = true) (hi : (P.info? ty).map (·.size) = some cs.size) :
    (results fn tmps).run P w = .ok (.tuple #[v, .agg cs]) w := by
  have hq' : tmps[q]?.getD undef = v := by simpa using hq
  have hr' : tmps[r]?.getD undef = .pointer (some ⟨g, 0, none⟩) := by simpa using hr
  simp [results, h, hq', hr', asAddr, run_loadVar_row w g t ty cs fr d hg hu hd hi]

theorem rdMany_code {b : Rv.Bs} : ∀ (k at_ : Nat) (f : Rv.Fault), Rv.rdMany b k at_ = .error f → f.code ≠ 0
  | 0, at_, f, h => by cases h
  | k + 1, at_, f, h => by
    rw [Rv.rdMany] at h
    split at h
    · rename_i e he
      injection h with h
      subst h
      rcases rdB_bad he with rfl | rfl <;> simp
    · split at h
      · rename_i f' hf
        injection h with h
        subst h
        exact rdMany_code k _ _ hf
      · cases h
theorem pread_code {b : Rv.Bs} {f : Rv.Fault} (h : Rv.Pol.read b = .error f) : f.code ≠ 0 := by
  rw [Rv.Pol.read] at h
  split at h
  · injection h with h; subst h; simp
  · split at h
    · rename_i e he
      injection h with h
      subst h
      rcases rdB_bad he with rfl | rfl <;> simp
    · split at h
      · injection h with h; subst h; simp
      · split at h
        · rename_i f' hf
          injection h with h
          subst h
          exact rdMany_code _ _ _ hf
        · simp only at h
          split at h
          · injection h with h; subst h; simp
          · split at h
            · rename_i e he
              injection h with h
              subst h
              rcases sread_bad he with rfl | rfl <;> simp
            · split at h
              · cases h
              · injection h with h; subst h; simp

/-- A load of a whole struct, taken first. -/
theorem yields_load_row {P : Program} {ops : Array Oper} {S : World → Prop} {o : Oper} {a : Act} (hgd : o.guard = none) (ty : TypeId) (x : Operand) (ho : o.op = .load ty x) (g : Nat) (hx : a.eval x = .pointer (some ⟨g, 0, none⟩))
    (t : TypeId) (cs : Array Value) (fr : Nat × Nat) (d : TypeDesc) (hS : ∀ w, S w → w.heap[g]? = some (.cells cs t fr)) (hu : P.underlying ty = some d) (hd : (match d with | .struct _ | .array _ _ => true | _ => false) = true)
    (hi : (P.info? ty).map (·.size) = some cs.size) : YieldsIf P ops S o (.agg cs) a :=
  Or.inl ⟨by simp [Region.wanted, hgd], fun w hw => by
    unfold execOp
    simp only [ho, hx, Instr.loadAt, Instr.sureAddr, Sem.run_bind, Sem.run_pure, Result.andThen_ok, run_loadVar_row w g t ty cs fr d (hS w hw) hu hd hi]⟩
/-- What Open tells. -/
def OpenRes (R : HP) (w : World) (xs : Rv.Bs) (res : Except Rv.Fault Rv.Maker) (e : Ending) (w' : World) : Prop := match res with
  | .error f => e = .returned (.tuple #[.pointer none, .agg (fltCells f)]) ∧ Sat w' R ∧ Same w w'
  | .ok m => ∃ g, e = .returned (.tuple #[.pointer (some ⟨g, 0, none⟩), .agg (fltCells ⟨0, 0⟩)]) ∧ Sat w' (rdrP 1 g m xs * (1 * R)) ∧ Same w w'
abbrev flP (g : Nat) (f : Rv.Fault) : HP := pt g (.cells (fltCells f) 27)
abbrev plP (g : Nat) (p : Rv.Pol) : HP := pt g (.cells (polCells p) 33)

set_option maxHeartbeats 4000000 in
set_option maxRecDepth 100000 in
theorem topen_any (w : World) (R : HP) (A : Option Addr) (xs : List UInt8) (c : Nat) (hR : Sat w R) (hr : RdIn R A (u8s xs)) (hnil : A = none → c = 0) (hc : xs.length ≤ c) (hm : xs.length ≤ 140737488355328) :
    Calls Tryz.prog 26 #[.slice A xs.length c] w (OpenRes R w xs (Rv.openR xs)) := by
  obtain ⟨res, hres⟩ : ∃ x, Rv.openR xs = x := ⟨_, rfl⟩
  rw [hres]
  have HRES := Lib.hid hres
  have HR := Lib.hid hr
  have HNIL := Lib.hid hnil
  have S0 : Hid (Sat (w.alloc (.cells (fltCells ⟨0, 0⟩) 27)) (flP w.heap.size ⟨0, 0⟩ * R)) := Lib.hid (hR.alloc (.cells (fltCells ⟨0, 0⟩) 27))
  have Z0 : Hid (Same w (w.alloc (.cells (fltCells ⟨0, 0⟩) 27))) := Lib.hid (Same.of ((Kept.refl (fun _ => False) w).alloc _))
  clear hres hR hr hnil
  by_cases hbig : xs.length > 4194304
  · have e1 : decide ((4194304 : Int) < (xs.length : Int)) = true := by simp; omega
    have he : Rv.openR xs = .error ⟨2, -1⟩ := by unfold Rv.openR; rw [if_pos hbig]
    obtain rfl := he.symm.trans HRES.out
    clear HRES he
    go_enter Tryz.func26, Tryz.ntmps26
    go_upto_region 1 with (fail)
    generalize w.alloc (.cells (fltCells ⟨0, 0⟩) 27) = w1 at *
    generalize w.heap.size = g3 at *
    have S1 := Lib.hid (sat_setRow (n := fltCells ⟨2, -1⟩) S0.out)
    go_wp2_with ((with_reducible refine at_store 27 3 13 ?_); refine wpList_store_row rfl 27 (.tmp 3) (.tmp 13) rfl g3 (fltCells ⟨2, -1⟩) (by rfl) (by rfl) 27 (fltCells ⟨0, 0⟩) S0.out.heap info_flt (by rfl) (one_flt _) ?_; simp only [Act.put])
    exact bodyPost_ret (results_tc Tryz.results26 _ _ g3 27 (fltCells ⟨2, -1⟩) (0, 0) _ (.pointer none) (by rfl) (by rfl) S1.out.heap Tryz.underlying27 (by rfl) info_flt) rfl ⟨rfl, S1.out.right, Z0.out.then (same_setRow _ _ _)⟩
  · have e1 : decide ((4194304 : Int) < (xs.length : Int)) = false := by simp; omega
    have HPR := Lib.hid (fun w1 hw1 => pread_any A xs c w1 (rdV_u8 (HR.out w1 hw1)) hm hc)
    have HBIG := Lib.hid hbig
    clear hbig
    go_enter Tryz.func26, Tryz.ntmps26
    go_upto_region 1 with (fail)
    generalize w.alloc (.cells (fltCells ⟨0, 0⟩) 27) = w1 at *
    generalize w.heap.size = g3 at *
    go_wp2_with fail
    refine (HPR.out w1 S0.out.right).mono ?_
    rintro e w2 ⟨rfl, b2⟩
    have S2 := Lib.hid (((S0.out.below b2).alloc (.cells (polCells .zero) 33)).alloc (.cells (fltCells ⟨0, 0⟩) 27))
    have Z2 := Lib.hid ((Z0.out.then (Rv.Same.below b2)).then (Same.of (((Kept.refl (fun _ => False) w2).alloc (.cells (polCells .zero) 33)).alloc (.cells (fltCells ⟨0, 0⟩) 27))))
    rw [World.size_alloc] at S2
    clear b2 S0 Z0 HPR
    cases hp : Rv.Pol.read xs with
    | error f =>
      have hfc := pread_code hp
      have he : Rv.openR xs = .error f := by unfold Rv.openR; rw [if_neg HBIG.out, hp]
      obtain rfl := he.symm.trans HRES.out
      have e2 : (f.code != 0) = true := by simpa using hfc
      clear HRES he hfc hp
      have e3 : preadRes (.error f) = .returned (.tuple #[.agg (polCells .zero), .int .i64 0, .agg (fltCells f)]) := rfl
      rw [e3]
      clear e3
      have S3 := Lib.hid ((sat_setRow (n := polCells .zero) S2.out.swap).swap)
      have S4 := Lib.hid (sat_setRow (n := fltCells f) S3.out)
      go_upto_region 4 with (first
        | ((with_reducible refine at_store 33 4 17 ?_); refine wpList_store_row rfl 33 (.tmp 4) (.tmp 17) rfl w2.heap.size (polCells .zero) (by rfl) (by rfl) 33 (polCells .zero) S2.out.swap.heap info_pol (by rfl) (one_pol _) ?_; simp only [Act.put])
        | ((with_reducible refine at_store 27 6 19 ?_); refine wpList_store_row rfl 27 (.tmp 6) (.tmp 19) rfl (w2.heap.size + 1) (fltCells f) (by rfl) (by rfl) 27 (fltCells ⟨0, 0⟩) S3.out.heap info_flt (by rfl) (one_flt _) ?_; simp only [Act.put]))
      have Z4 : Hid (Same w ((((w2.alloc (.cells (polCells .zero) 33)).alloc (.cells (fltCells ⟨0, 0⟩) 27)).setRow w2.heap.size (polCells .zero)).setRow (w2.heap.size + 1) (fltCells f))) := Lib.hid ((Z2.out.then (same_setRow _ _ _)).then (same_setRow _ _ _))
      obtain ⟨w4, hw4⟩ : ∃ w4, w4 = ((((w2.alloc (.cells (polCells .zero) 33)).alloc (.cells (fltCells ⟨0, 0⟩) 27)).setRow w2.heap.size (polCells .zero)).setRow (w2.heap.size + 1) (fltCells f)) := ⟨_, rfl⟩
      change Code.wp _ _ _ _ ((((w2.alloc (.cells (polCells .zero) 33)).alloc (.cells (fltCells ⟨0, 0⟩) 27)).setRow w2.heap.size (polCells .zero)).setRow (w2.heap.size + 1) (fltCells f))
      rw [← hw4] at S4 Z4 ⊢
      clear hw4 S3 S2 Z2
      generalize w2.heap.size + 1 = g6 at *
      generalize w2.heap.size = g4 at *
      have c0 : w4.cell? ⟨g6, 0, none⟩ = some (.int .i64 f.code) := (cells_of S4.out.heap 0).trans rfl
      have c1 : w4.cell? ⟨g6, 1, none⟩ = some (.int .i64 f.at_) := (cells_of S4.out.heap 1).trans rfl
      have q3 := Lib.hid (S4.out.third.heap)
      have k0 : w4.cell? ⟨g3, 0, none⟩ = some (.int .i64 0) := (cells_of q3.out 0).trans rfl
      have k1 : w4.cell? ⟨g3, 1, none⟩ = some (.int .i64 0) := (cells_of q3.out 1).trans rfl
      have f0 : w4.frozen? ⟨g3, 0, none⟩ = false := frozen_of q3.out 0
      have f1 : w4.frozen? ⟨g3, 1, none⟩ = false := frozen_of q3.out 1
      have S5 : Hid (Sat (((w4.setCell ⟨g3, 0, none⟩ (.int .i64 f.code)).setCell ⟨g3, 1, none⟩ (.int .i64 f.at_)).drew) (flP g3 f * (flP g6 f * (plP g4 .zero * R)))) := Lib.hid ((S4.out.third.setCell (i := 0) (.int .i64 f.code)).setCell (i := 1) (.int .i64 f.at_)).drew
      go_upto_region 5 with (fail)
      go_region
      go_wp2_with fail
      exact bodyPost_ret (results_tc Tryz.results26 _ _ g3 27 (fltCells f) (0, 0) _ (.pointer none) (by rfl) (by rfl) S5.out.heap Tryz.underlying27 (by rfl) info_flt) rfl ⟨rfl, S5.out.right.right.right, ((Z4.out.then (Kept.setCell (Kept.refl _ _) _ _ (.inl trivial))).then (Kept.setCell (Kept.refl _ _) _ _ (.inl trivial))).drew⟩
    | ok q =>
      obtain ⟨p, tt⟩ := q
      have hok := (Rv.Pol.read_ok hp).1
      have he : Rv.openR xs = .ok (Rv.Maker.begun p) := by unfold Rv.openR; rw [if_neg HBIG.out, hp]
      obtain rfl := he.symm.trans HRES.out
      have HOK := Lib.hid hok
      clear HRES he hok hp
      have e3 : preadRes (.ok (p, tt)) = .returned (.tuple #[.agg (polCells p), .int .i64 (tt : Int), .agg (fltCells ⟨0, 0⟩)]) := rfl
      rw [e3]
      clear e3
      have S3 := Lib.hid ((sat_setRow (n := polCells p) S2.out.swap).swap)
      have S4 := Lib.hid (sat_setRow (n := fltCells ⟨0, 0⟩) S3.out)
      go_upto_region 4 with (first
        | ((with_reducible refine at_store 33 4 17 ?_); refine wpList_store_row rfl 33 (.tmp 4) (.tmp 17) rfl w2.heap.size (polCells p) (by rfl) (by rfl) 33 (polCells .zero) S2.out.swap.heap info_pol (by rfl) (one_pol _) ?_; simp only [Act.put])
        | ((with_reducible refine at_store 27 6 19 ?_); refine wpList_store_row rfl 27 (.tmp 6) (.tmp 19) rfl (w2.heap.size + 1) (fltCells ⟨0, 0⟩) (by rfl) (by rfl) 27 (fltCells ⟨0, 0⟩) S3.out.heap info_flt (by rfl) (one_flt _) ?_; simp only [Act.put]))
      have Z4 : Hid (Same w ((((w2.alloc (.cells (polCells .zero) 33)).alloc (.cells (fltCells ⟨0, 0⟩) 27)).setRow w2.heap.size (polCells p)).setRow (w2.heap.size + 1) (fltCells ⟨0, 0⟩))) := Lib.hid ((Z2.out.then (same_setRow _ _ _)).then (same_setRow _ _ _))
      obtain ⟨w4, hw4⟩ : ∃ w4, w4 = ((((w2.alloc (.cells (polCells .zero) 33)).alloc (.cells (fltCells ⟨0, 0⟩) 27)).setRow w2.heap.size (polCells p)).setRow (w2.heap.size + 1) (fltCells ⟨0, 0⟩)) := ⟨_, rfl⟩
      change Code.wp _ _ _ _ ((((w2.alloc (.cells (polCells .zero) 33)).alloc (.cells (fltCells ⟨0, 0⟩) 27)).setRow w2.heap.size (polCells p)).setRow (w2.heap.size + 1) (fltCells ⟨0, 0⟩))
      rw [← hw4] at S4 Z4 ⊢
      clear hw4 S3 S2 Z2
      generalize w2.heap.size + 1 = g6 at *
      generalize w2.heap.size = g4 at *
      have c0 : w4.cell? ⟨g6, 0, none⟩ = some (.int .i64 0) := (cells_of S4.out.heap 0).trans rfl
      have c1 : w4.cell? ⟨g6, 1, none⟩ = some (.int .i64 0) := (cells_of S4.out.heap 1).trans rfl
      have q4 := Lib.hid S4.out.swap.heap
      go_wp2_with ((with_reducible refine at_slot 25 ?_); refine wpList_load_row rfl 33 (.tmp 4) rfl g4 (by rfl) 33 (polCells p) (0, 0) _ q4.out Tryz.underlying33 (by rfl) info_pol ?_)
      refine (begun_ok _ p w4 S4.out HOK.out).mono ?_
      rintro e w5 ⟨gc, gl, B, C, rfl, s5, z5⟩
      have S5 := Lib.hid (s5.alloc (.cells mkZero 65))
      have S6 : Hid (Sat ((w5.alloc (.cells mkZero 65)).setRow w5.heap.size (mkCells p (some ⟨gc, 0, none⟩) (some ⟨gl, 0, none⟩) (Rv.Maker.begun p).link (.slice none 0 0) 0 p.header.length)) (pt w5.heap.size (.cells (mkCells p (some ⟨gc, 0, none⟩) (some ⟨gl, 0, none⟩) (Rv.Maker.begun p).link (.slice none 0 0) 0 p.header.length) 65) * (coderP gc (Rv.Coder.new p) * (ledP 1 gl (Rv.Ledger.new p) * (bytesP (.slice B p.header.length C) p.header * (1 * (flP g6 ⟨0, 0⟩ * (plP g4 p * (flP g3 ⟨0, 0⟩ * R))))))))) := Lib.hid (sat_setRow (n := (mkCells p (some ⟨gc, 0, none⟩) (some ⟨gl, 0, none⟩) (Rv.Maker.begun p).link (.slice none 0 0) 0 p.header.length)) S5.out)
      have Z6 : Hid (Same w ((w5.alloc (.cells mkZero 65)).setRow w5.heap.size (mkCells p (some ⟨gc, 0, none⟩) (some ⟨gl, 0, none⟩) (Rv.Maker.begun p).link (.slice none 0 0) 0 p.header.length))) := Lib.hid (((Z4.out.then z5).then (Same.of ((Kept.refl (fun _ => False) w5).alloc _))).then (same_setRow _ _ _))
      clear s5 z5 S4 Z4 q4 c0 c1
      go_upto_region 7 with ((with_reducible refine at_store 65 7 27 ?_); refine wpList_store_row rfl 65 (.tmp 7) (.tmp 27) rfl w5.heap.size (mkCells p (some ⟨gc, 0, none⟩) (some ⟨gl, 0, none⟩) (Rv.Maker.begun p).link (.slice none 0 0) 0 p.header.length) (by rfl) (by rfl) 65 mkZero S5.out.heap info_mk (by rfl) (by simp [Value.oneCell']) ?_; simp only [Act.put])
      obtain ⟨w6, hw6⟩ : ∃ w6, w6 = ((w5.alloc (.cells mkZero 65)).setRow w5.heap.size (mkCells p (some ⟨gc, 0, none⟩) (some ⟨gl, 0, none⟩) (Rv.Maker.begun p).link (.slice none 0 0) 0 p.header.length)) := ⟨_, rfl⟩
      change Code.wp _ _ _ _ ((w5.alloc (.cells mkZero 65)).setRow w5.heap.size (mkCells p (some ⟨gc, 0, none⟩) (some ⟨gl, 0, none⟩) (Rv.Maker.begun p).link (.slice none 0 0) 0 p.header.length))
      rw [← hw6] at S6 Z6 ⊢
      clear hw6 S5
      generalize w5.heap.size = g7 at *
      have HCLO := Lib.hid (fun (w1 : World) (h1 : Sat w1 (pt g7 (.cells (mkCells p (some ⟨gc, 0, none⟩) (some ⟨gl, 0, none⟩) (Rv.Maker.begun p).link (.slice none 0 0) 0 p.header.length) 65) * (coderP gc (Rv.Coder.new p) * (ledP 1 gl (Rv.Ledger.new p) * (bytesP (.slice B p.header.length C) p.header * (1 * (flP g6 ⟨0, 0⟩ * (plP g4 p * (flP g3 ⟨0, 0⟩ * R))))))))) => clone_u8 w1 A xs.length c (u8s xs) (u8s_length _) (HR.out w1 h1.right.right.right.right.right.right.right.right) (u8s_one _) HNIL.out (by omega))
      have K0 := Lib.hid S6.out.heap
      refine wp_region_held_drew (S := fun w' => w'.heap[g7]? = some (.cells (mkCells p (some ⟨gc, 0, none⟩) (some ⟨gl, 0, none⟩) (Rv.Maker.begun p).link (.slice none 0 0) 0 p.header.length) 65 (0, 0))) (by kernel_rfl) K0.out (fun hHeld => ?_)
      refine wpAnyH_take (i := 0) (oi := ⟨some 30, .load 65 (.tmp 7), 65, "tape.go:184", #[], none⟩) rfl (by kernel_rfl) (by kernel_rfl) (by kernel_rfl) (fun _ _ _ h => h) (yields_load_row rfl 65 (.tmp 7) rfl g7 (by rfl) 65 (mkCells p (some ⟨gc, 0, none⟩) (some ⟨gl, 0, none⟩) (Rv.Maker.begun p).link (.slice none 0 0) 0 p.header.length) (0, 0) _ (fun _ h => h) Tryz.underlying65 (by rfl) info_mk) (by assumption) ?_
      try simp only [Act.put, List.setIfInBounds_toArray, List.set_cons_zero, List.set_cons_succ]
      refine wpAnyH_take (i := 1) (oi := ⟨some 31, .move (.tmp 0), 22, "tape.go:184", #[], none⟩) (v := ?_) rfl (by kernel_rfl) (by kernel_rfl) (by kernel_rfl) (fun _ _ _ h => h) (Or.inl ⟨by rfl, ?_⟩) (by assumption) ?_
      rotate_left
      · intro w hSw
        try dsimp only at hSw
        go_simp
        try with_reducible rfl
      try simp only [Act.put, List.setIfInBounds_toArray, List.set_cons_zero, List.set_cons_succ]
      refine wpAnyH_take (i := 5) (oi := ⟨some 35, .build 27 #[], 27, "tape.go:184", #[⟨6, .gcOnly .lateStores⟩], none⟩) (v := ?_) rfl (by kernel_rfl) (by kernel_rfl) (by kernel_rfl) (fun _ _ _ h => h) (Or.inl ⟨by rfl, ?_⟩) (by assumption) ?_
      rotate_left
      · intro w hSw
        try dsimp only at hSw
        go_simp
        try with_reducible rfl
      try simp only [Act.put, List.setIfInBounds_toArray, List.set_cons_zero, List.set_cons_succ]
      refine wpAnyH_ready (rs := [2]) (by kernel_rfl) (by simp) ?_
      refine AllReadyH.cons (o := ⟨some 32, .call { callee := .value (.func 21), args := #[.tmp 31], argTypes := #[22] }, 22, "tape.go:184", #[⟨1, .data⟩], none⟩) rfl (fun K hK => ?_) AllReadyH.nil
      go_simp
      refine (HCLO.out w6.drew S6.out.drew).mono ?_
      rintro e w7 ⟨B2, C2, rfl, o7, b7⟩
      have S7 := Lib.hid (bytesP_new (xs := xs) (v := .slice B2 xs.length C2) S6.out.drew (by have := o7; unfold OwnV at this; rw [u8s_length] at this; exact this) b7)
      have Z7 := Lib.hid (Z6.out.drew.then (Rv.Same.below b7))
      have K1 := Lib.hid S7.out.swap.heap
      refine hK.out _ _ K1.out (fun hHeld2 => ?_)
      clear hK K hHeld o7 b7
      try simp only [Act.put, List.setIfInBounds_toArray, List.set_cons_zero, List.set_cons_succ]
      refine wpAnyH_take (i := 3) (oi := ⟨some 33, .build 84 #[(0, .tmp 30), (1, .tmp 32)], 84, "tape.go:184", #[⟨0, .data⟩, ⟨2, .data⟩], none⟩) (v := ?_) rfl (by kernel_rfl) (by kernel_rfl) (by kernel_rfl) (fun _ _ _ h => h) (Or.inl ⟨by rfl, ?_⟩) (by assumption) ?_
      rotate_left
      · intro w hSw
        try dsimp only at hSw
        go_simp
        try with_reducible rfl
      try simp only [Act.put, List.setIfInBounds_toArray, List.set_cons_zero, List.set_cons_succ]
      refine wpAnyH_ready (rs := [4]) (by kernel_rfl) (by simp) ?_
      refine AllReadyH.cons (o := ⟨some 34, .box 84 (.tmp 33), 78, "tape.go:184", #[⟨3, .data⟩], none⟩) rfl (fun K hK => ?_) AllReadyH.nil
      have S8 : Hid (Sat (w7.alloc (.cells (makCells p gc gl (Rv.Maker.begun p).link (.slice none 0 0) 0 p.header.length (.slice B2 xs.length C2)) 84)) (makBox 84 w7.heap.size p gc gl (Rv.Maker.begun p).link (.slice none 0 0) 0 p.header.length (.slice B2 xs.length C2) * (bytesP (.slice B2 xs.length C2) xs * (pt g7 (.cells (mkCells p (some ⟨gc, 0, none⟩) (some ⟨gl, 0, none⟩) (Rv.Maker.begun p).link (.slice none 0 0) 0 p.header.length) 65) * (coderP gc (Rv.Coder.new p) * (ledP 1 gl (Rv.Ledger.new p) * (bytesP (.slice B p.header.length C) p.header * (1 * (flP g6 ⟨0, 0⟩ * (plP g4 p * (flP g3 ⟨0, 0⟩ * R))))))))))) := Lib.hid (S7.out.alloc (.cells (makCells p gc gl (Rv.Maker.begun p).link (.slice none 0 0) 0 p.header.length (.slice B2 xs.length C2)) 84))
      have Z8 := Lib.hid (Z7.out.then (Same.of ((Kept.refl (fun _ => False) w7).alloc (.cells (makCells p gc gl (Rv.Maker.begun p).link (.slice none 0 0) 0 p.header.length (.slice B2 xs.length C2)) 84))))
      have K2 := Lib.hid S8.out.third.heap
      refine step_box rfl 84 33 rfl (makCells p gc gl (Rv.Maker.begun p).link (.slice none 0 0) 0 p.header.length (.slice B2 xs.length C2)) (by rfl) ?_
      refine hK.out _ _ K2.out (fun hHeld => ?_)
      clear hK K hHeld2
      try simp only [Act.put, List.setIfInBounds_toArray, List.set_cons_zero, List.set_cons_succ]
      refine wpAnyH_take (i := 6) (oi := ⟨some 2, .assign (.tmp 34), 78, "tape.go:184", #[⟨4, .data⟩, ⟨2, .chain⟩, ⟨0, .phase⟩, ⟨1, .phase⟩, ⟨2, .phase⟩, ⟨3, .phase⟩, ⟨4, .phase⟩, ⟨5, .textOnly .lateStores⟩], none⟩) (v := ?_) rfl (by kernel_rfl) (by kernel_rfl) (by kernel_rfl) (fun _ _ _ h => h) (Or.inl ⟨by rfl, ?_⟩) (by assumption) ?_
      rotate_left
      · intro w hSw
        try dsimp only at hSw
        go_simp
        try with_reducible rfl
      try simp only [Act.put, List.setIfInBounds_toArray, List.set_cons_zero, List.set_cons_succ]
      refine wpAnyH_ready (rs := [7]) (by kernel_rfl) (by simp) ?_
      refine AllReadyH.cons (o := ⟨none, .store 27 (.tmp 3) (.tmp 35), 0, "tape.go:184", #[⟨5, .data⟩, ⟨6, .chain⟩, ⟨0, .phase⟩, ⟨1, .phase⟩, ⟨2, .phase⟩, ⟨3, .phase⟩, ⟨4, .phase⟩, ⟨5, .phase⟩, ⟨6, .phase⟩], none⟩) rfl (fun K hK => ?_) AllReadyH.nil
      have S9 := Lib.hid (sat_setRow (n := fltCells ⟨0, 0⟩) (S8.out.perm (show _ = flP g3 ⟨0, 0⟩ * (makBox 84 w7.heap.size p gc gl (Rv.Maker.begun p).link (.slice none 0 0) 0 p.header.length (.slice B2 xs.length C2) * (bytesP (.slice B2 xs.length C2) xs * (pt g7 (.cells (mkCells p (some ⟨gc, 0, none⟩) (some ⟨gl, 0, none⟩) (Rv.Maker.begun p).link (.slice none 0 0) 0 p.header.length) 65) * (coderP gc (Rv.Coder.new p) * (ledP 1 gl (Rv.Ledger.new p) * (bytesP (.slice B p.header.length C) p.header * (1 * (flP g6 ⟨0, 0⟩ * (plP g4 p * R))))))))) by ac_rfl)))
      have K3 := Lib.hid S9.out.fourth.heap
      refine step_store_row rfl 27 (.tmp 3) (.tmp 35) rfl g3 (fltCells ⟨0, 0⟩) (by rfl) (by rfl) 27 (fltCells ⟨0, 0⟩) (Rv.Sat.heap (S8.out.perm (show _ = flP g3 ⟨0, 0⟩ * (makBox 84 w7.heap.size p gc gl (Rv.Maker.begun p).link (.slice none 0 0) 0 p.header.length (.slice B2 xs.length C2) * (bytesP (.slice B2 xs.length C2) xs * (pt g7 (.cells (mkCells p (some ⟨gc, 0, none⟩) (some ⟨gl, 0, none⟩) (Rv.Maker.begun p).link (.slice none 0 0) 0 p.header.length) 65) * (coderP gc (Rv.Coder.new p) * (ledP 1 gl (Rv.Ledger.new p) * (bytesP (.slice B p.header.length C) p.header * (1 * (flP g6 ⟨0, 0⟩ * (plP g4 p * R))))))))) by ac_rfl))) info_flt (by rfl) (one_flt _) ?_
      refine hK.out _ _ K3.out (fun hHeld2 => ?_)
      clear hK K hHeld
      try simp only [Act.put, List.setIfInBounds_toArray, List.set_cons_zero, List.set_cons_succ]
      refine wpAnyH_done (by kernel_rfl) ?_ _
      clear hHeld2
      go_wp2_with fail
      refine bodyPost_ret (results_tc Tryz.results26 _ _ g3 27 (fltCells ⟨0, 0⟩) (0, 0) _ (.pointer (some ⟨w7.heap.size, 0, none⟩)) (by rfl) (by rfl) S9.out.heap Tryz.underlying27 (by rfl) info_flt) rfl ⟨w7.heap.size, rfl, ?_, Z8.out.then (same_setRow _ _ _)⟩
      refine rdrP_shut (A := B2) (c := C2) (m := Rv.Maker.begun p) (mkrP_shut (gc := gc) (gl := gl) (sA := none) (sc := 0) ?_)
      have h1 := (S9.out.right.perm (show _ = (pt g7 (.cells (mkCells p (some ⟨gc, 0, none⟩) (some ⟨gl, 0, none⟩) (Rv.Maker.begun p).link (.slice none 0 0) 0 p.header.length) 65) * (bytesP (.slice B p.header.length C) p.header * (flP g6 ⟨0, 0⟩ * (plP g4 p * (makBox 84 w7.heap.size p gc gl (Rv.Maker.begun p).link (.slice none 0 0) 0 p.header.length (.slice B2 xs.length C2) * (bytesP (.slice B2 xs.length C2) xs * (coderP gc (Rv.Coder.new p) * (ledP 1 gl (Rv.Ledger.new p) * (1 * R))))))))) by ac_rfl)).right.right.right.right
      show Sat _ (makBox 84 w7.heap.size p gc gl (Rv.Maker.begun p).link (.slice none 0 0) 0 p.header.length (.slice B2 xs.length C2) * (ledP 1 gl (Rv.Ledger.new p) * (bytesP (.slice none 0 0) [] * (coderP gc (Rv.Coder.new p) * (bytesP (.slice B2 xs.length C2) xs * (1 * R))))))
      exact (h1.row_nil 5).perm (show bytesP (.slice none 0 0) [] * _ = _ by ac_rfl)
end Go.Proofs.YtcmndglhileeoaaGreat
