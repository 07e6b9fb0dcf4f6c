/- The walks of package tape: Next. -/
import Derived.Test.YtcmndglhileeoaaGreatQTapeM
set_option linter.unusedSimpArgs false
set_option linter.unusedVariables false
namespace Go.Proofs.YtcmndglhileeoaaGreat
open Go.RowKit
open Rv (HP Sat Same pt allOf sat_all RdIn row own Lcl)

/-! ### the plain part -/
theorem mnext_ok {m m' : Rv.Maker} {b : Rv.Bs} {r : Rv.Rec} (hm : MOk m) (hl : b.length ≤ 4194304) (hs : m.size ≤ b.length) (h : m.next b = .some r m') : MOk m' ∧ m'.size ≤ b.length ∧ m.size < m'.size ∧ m'.p = m.p ∧ m'.records = m.records + 1 := by
  have h1 := Rv.Maker.next_records h
  have hn := hm.n1
  rcases Rv.Maker.next_ok h with h2 | h2
  · refine ⟨?_, h2.2.1, h2.1, h1.2.1, h1.1⟩
    rw [Rv.Maker.next] at h
    split at h
    · cases h
    · split at h
      · cases h
      · split at h
        · cases h
        · rename_i c x tt hg
          obtain ⟨h3, h4, _⟩ := Rv.Coder.get_ok hg
          simp only at h
          split at h
          · cases h
          · rename_i g1
            split at h
            · cases h
            · rename_i g2
              simp only [Rv.NextR.some.injEq] at h
              obtain ⟨rfl, rfl⟩ := h
              obtain ⟨k1, k2, k3, k4⟩ := get_right hg hm.kp
              have e1 := Rv.standsAt_len (by simpa using g1) h4
              have e2 := Rv.standsAt_len (by simpa using g2) e1
              refine MOk.done hm ?_ h2.2.2 k3 k2 k4
              have k5 : ((b.drop m.size).take (tt - m.size)).length = tt - m.size := by simp; omega
              generalize (b.drop m.size).take (tt - m.size) = piece at *
              by_cases hb : addSize m x piece > 4194304
              · exfalso
                rw [adds_big c hb] at e1
                have hd : addSize m x piece = m.size + piece.length + (addCheck m x).length := rfl
                simp only at e1
                omega
              · rw [adds_fit c hb] at e1 e2 ⊢
                have hd : addSize m x piece = m.size + piece.length + (addCheck m x).length := rfl
                simp only at e1 e2 ⊢
                exact decide_eq_true (by omega)
  · omega

theorem cget_code {c : Rv.Coder} {xs : Rv.Bs} {at_ : Nat} {f : Rv.Fault} (h : c.get xs at_ = .error f) : f.code ≠ 0 := by
  rw [Rv.Coder.get] at h
  split at h
  · rename_i e he
    injection h with h; subst h
    rcases rdB_bad he with rfl | rfl <;> simp
  · split at h
    · injection h with h; subst h; simp
    · split at h
      · injection h with h; subst h; simp
      · split at h
        · rename_i e he
          injection h with h; subst h
          rcases rdB_bad he with rfl | rfl <;> simp
        · simp only at h
          split at h
          · injection h with h; subst h; simp
          · split at h
            · rename_i f' hf
              injection h with h; subst h
              exact dget_code hf
            · cases h
theorem mnext_err {m : Rv.Maker} {xs : Rv.Bs} {f : Rv.Fault} (h0 : ¬ m.size = xs.length) (h1 : ¬ m.records = 10000) (hg : m.coder.get xs m.size = .error f) : m.next xs = .fault f := by
  unfold Rv.Maker.next; rw [if_neg h0, if_neg h1, hg]
/-- The two closure's calls, and what Next tells behind them. -/
theorem mnext_take {m : Rv.Maker} {xs : Rv.Bs} {c : Rv.Coder} {x : Rv.Rec} {tt : Nat} {s : Rv.Step} {b : Bool} (h0 : ¬ m.size = xs.length) (h1 : ¬ m.records = 10000) (hg : m.coder.get xs m.size = .ok (c, x, tt))
    (hs : m.adds x c ((xs.drop m.size).take (tt - m.size)) = (s, b)) (htt : tt ≤ xs.length) {r1 r2 : Rv.Fault × Nat} (hr1 : takeF ⟨0, 0⟩ tt xs s.check 110 = r1) (hr2 : takeF r1.1 r1.2 xs s.trailer 111 = r2) :
    r1.2 ≤ xs.length ∧ ((r2.1.code = 0 ∧ s.check.length ≤ xs.length ∧ m.next xs = .some x (m.done x s)) ∨ (r2.1.code ≠ 0 ∧ m.next xs = .fault r2.1)) := by
  have hn : m.next xs = if Rv.standsAt xs tt s.check = false then .fault ⟨110, tt⟩
            else if Rv.standsAt xs (tt + s.check.length) s.trailer = false then .fault ⟨111, (tt + s.check.length : Nat)⟩
            else .some x (m.done x s) := by
    unfold Rv.Maker.next
    rw [if_neg h0, if_neg h1, hg]
    simp only [hs]
  unfold takeF at hr1
  rw [if_neg (by simp)] at hr1
  by_cases hc : s.check.isPrefixOf (xs.drop tt) = true
  · rw [if_pos hc] at hr1
    subst hr1
    have hc' : Rv.standsAt xs tt s.check = true := hc
    have hlen := Rv.standsAt_len hc' htt
    refine ⟨hlen, ?_⟩
    unfold takeF at hr2
    rw [if_neg (by simp)] at hr2
    rw [hn, if_neg (by rw [hc']; simp)]
    by_cases ht : s.trailer.isPrefixOf (xs.drop (tt + s.check.length)) = true
    · rw [if_pos ht] at hr2
      subst hr2
      have ht' : Rv.standsAt xs (tt + s.check.length) s.trailer = true := ht
      exact .inl ⟨rfl, by omega, by rw [if_neg (by rw [ht']; simp)]⟩
    · rw [if_neg ht] at hr2
      subst hr2
      have ht' : Rv.standsAt xs (tt + s.check.length) s.trailer = false := Bool.eq_false_iff.2 ht
      exact .inr ⟨by simp, by rw [if_pos ht']⟩
  · rw [if_neg hc] at hr1
    subst hr1
    have hc' : Rv.standsAt xs tt s.check = false := Bool.eq_false_iff.2 hc
    refine ⟨htt, .inr ?_⟩
    unfold takeF at hr2
    rw [if_pos (by simp)] at hr2
    subst hr2
    exact ⟨by simp, by rw [hn, if_pos hc']⟩

/-- What Next tells. -/
def NextRes (Q R : HP) (w : World) (g : Nat) (m : Rv.Maker) (xs : Rv.Bs) (res : Rv.NextR) (e : Ending) (w' : World) : Prop := match res with
  | .none_ => e = .returned (.tuple #[.agg recZero, .bool false, .agg (fltCells ⟨0, 0⟩)]) ∧ ∃ Q', Ext Q Q' ∧ Sat w' (rdrP Q' g m xs * (Q' * R)) ∧ Same w w'
  | .fault f => e = .returned (.tuple #[.agg recZero, .bool false, .agg (fltCells f)]) ∧ ∃ Q', Ext Q Q' ∧ Sat w' (rdrP Q' g m xs * (Q' * R)) ∧ Same w w'
  | .some x m' => e = .returned (.tuple #[.agg (recCells x), .bool true, .agg (fltCells ⟨0, 0⟩)]) ∧ ∃ Q', Ext Q Q' ∧ Sat w' (rdrP Q' g m' xs * (Q' * R)) ∧ Same w w'
theorem rdr_fold {w : World} {Q R : HP} {g gc gl : Nat} {m : Rv.Maker} {xs : Rv.Bs} {sA A : Option Addr} {sc c : Nat} (h : Sat w (mb 84 g m gc gl sA sc (.slice A xs.length c) * (ledP Q gl m.owed * (sg m sA sc * (coderP gc m.coder * (bytesP (.slice A xs.length c) xs * R)))))) : Sat w (rdrP Q g m xs * R) :=
  rdrP_shut (mkrP_shut h)
abbrev itP (g : Nat) (n : Nat) : HP := pt g (.cells #[.int .i64 (n : Int)] 3)
theorem flt_facts {w : World} {R : HP} {g : Nat} {f : Rv.Fault} (h : Sat w (flP g f * R)) : w.cell? ⟨g, 0, none⟩ = some (.int .i64 f.code) ∧ w.cell? ⟨g, 1, none⟩ = some (.int .i64 f.at_) := by
  have q := Rv.Sat.heap h
  exact ⟨(cells_of q 0).trans rfl, (cells_of q 1).trans rfl⟩
abbrev rzP (g : Nat) : HP := pt g (.cells recZero 44)
abbrev rrP (g1 g : Nat) : HP := pt g1 (.cells #[.pointer (some ⟨g, 0, none⟩)] 78)
theorem two_sets {w : World} {g2 g4 : Nat} {c2 c4 n2 n4 : Array Value} {t2 t4 : TypeId} {R : HP} (h : Sat w (pt g2 (.cells c2 t2) * (pt g4 (.cells c4 t4) * R))) :
    Sat (w.setRow g2 n2) (pt g2 (.cells n2 t2) * (pt g4 (.cells c4 t4) * R)) ∧ Sat ((w.setRow g2 n2).setRow g4 n4) (pt g2 (.cells n2 t2) * (pt g4 (.cells n4 t4) * R)) ∧ Same w ((w.setRow g2 n2).setRow g4 n4) := by
  have h1 := sat_setRow (n := n2) h
  exact ⟨h1, (sat_setRow (n := n4) h1.swap).swap, (same_setRow _ _ _).then (same_setRow _ _ _)⟩

theorem _root_.Rv.RdIn.take {R : HP} {A : Option Addr} {vs : List Value} (h : RdIn R A vs) (n : Nat) : RdIn R A (vs.take n) := fun w hw j u hu => h w hw j u (by
  rw [List.getElem?_take] at hu
  split at hu
  · exact hu
  · cases hu)
theorem nxtP_eq (gf gr gt g : Nat) (f : Rv.Fault) (tt : Nat) : nxtP gf gr gt g f tt = flP gf f * (itP gt tt * rrP gr g) := rfl
theorem check_len {w : World} {Q R : HP} {op : Option Addr} {m : Rv.Maker} {x : Rv.Rec} {s : Rv.Step} (hm : MOk m) (ho : s.owed = addOwed m x) (hk : s.check = addCheck m x) (h : Sat w (owedP Q (.pointer op) s.owed * R)) : s.check.length ≤ 4100000 := by
  rw [hk]
  rw [ho] at h
  cases e : addOwed m x with
  | none => rw [check_none e]; simp
  | some l =>
    rw [e] at h
    obtain ⟨g, _, h1⟩ := owedP_yes h
    have e' : l = Rv.applyL m.owed x := by
      unfold addOwed at e
      split at e
      · injection e with e; exact e.symm
      · cases e
    unfold addCheck
    rw [e]
    refine led_bytes_len h1 ?_
    rw [e']
    have h1 := of_apply m.owed x
    have h2 := hm.o1
    have h3 := hm.n1
    omega
/-- Behind adds. -/
def NxtStep (Q F : HP) (w wx : World) (v b : Value) (g gc gl g' : Nat) (sA : Option Addr) (sc : Nat) (ev pv : Value) (m : Rv.Maker) (s : Rv.Step) (fits : Bool) : Prop :=
  ∃ gA op cA cc tA tc Q', v = .pointer (some ⟨gA, 0, none⟩) ∧ b = .bool fits ∧ Ext Q Q' ∧ Sat wx (stp gA g' op s pv (.slice cA s.check.length cc) (.slice tA s.trailer.length tc) * (mb 84 g m gc gl sA sc ev * (owedP Q' (.pointer op) s.owed * (bytesP (.slice cA s.check.length cc) s.check * (bytesP (.slice tA s.trailer.length tc) s.trailer * (ledP Q' gl m.owed * (sg m sA sc * (Q' * F)))))))) ∧ Same w wx
/-- What adds' region reads. -/
def NxtFacts (w : World) (g g1 g7 g8 : Nat) (x : Rv.Rec) (tt : Nat) (ev : Value) : Prop :=
  w.cell? ⟨g1, 0, none⟩ = some (.pointer (some ⟨g, 0, none⟩)) ∧ w.cell? ⟨g, 19, none⟩ = some ev ∧ w.cell? ⟨g8, 0, none⟩ = some (.int .i64 (tt : Int)) ∧ w.cell? ⟨g7, 0, none⟩ = some (.int .i64 x.tick) ∧ w.cell? ⟨g7, 1, none⟩ = some (.string x.key) ∧ w.cell? ⟨g7, 2, none⟩ = some (.int .i64 x.cost) ∧ w.cell? ⟨g7, 3, none⟩ = some (.int .i64 x.verdict)
theorem nxt_held {w : World} {R : HP} {T : TypeId} {g gc gl g1 g7 g8 : Nat} {m : Rv.Maker} {sA : Option Addr} {sc : Nat} {ev : Value} {x : Rv.Rec} {tt : Nat} (h : Sat w (mb T g m gc gl sA sc ev * (rcP g7 x * (itP g8 tt * (rrP g1 g * R))))) : NxtFacts w g g1 g7 g8 x tt ev := by
  obtain ⟨d8, d9, d10, d11, d12, d13, d14, d15, d16, d17, d18, d19⟩ := mak_facts h
  obtain ⟨r0, r1, r2, r3⟩ := rec_facts h.right
  have q1 := h.right.right.heap
  have q2 := h.right.right.right.heap
  exact ⟨(cells_of q2 0).trans rfl, d19, (cells_of q1 0).trans rfl, r0, r1, r2, r3⟩

set_option maxHeartbeats 8000000 in
set_option maxRecDepth 100000 in
theorem tnext_any (w : World) (Q R : HP) (g : Nat) (m : Rv.Maker) (xs : Rv.Bs) (hm : MOk m) (h : Sat w (rdrP Q g m xs * (Q * R))) (hs : m.size ≤ xs.length) (hl : xs.length ≤ 4194304) :
    Calls Tryz.prog 27 #[.pointer (some ⟨g, 0, none⟩)] w (NextRes Q R w g m xs (m.next xs)) := by
  obtain ⟨A, c, h⟩ := rdrP_open h
  obtain ⟨gc, gl, sA, sc, h⟩ := mkrP_open h
  replace h : Sat w (mb 84 g m gc gl sA sc (.slice A xs.length c) * (ledP Q gl m.owed * (sg m sA sc * (coderP gc m.coder * (bytesP (.slice A xs.length c) xs * (Q * R)))))) := h
  obtain ⟨res, hres⟩ : ∃ x, m.next xs = x := ⟨_, rfl⟩
  rw [hres]
  have HRES := Lib.hid hres
  clear hres
  have hn1 := hm.n1
  have HM := Lib.hid hm
  have hcap : xs.length ≤ c ∧ c ≤ 9223372036854775807 := by
    obtain ⟨A', c', e, h1, h2, _⟩ := bytesP_shape h.right.right.right.right
    injection e with e1 e2 e3
    subst e3
    exact ⟨h1, by unfold maxLen at h2; omega⟩
  have S0 : Hid (Sat (((w.alloc (.cells #[.pointer (some ⟨g, 0, none⟩)] 78)).alloc (.cells recZero 44)).alloc (.cells (fltCells ⟨0, 0⟩) 27)) (mb 84 g m gc gl sA sc (.slice A xs.length c) * (rrP w.heap.size g * (rzP (w.heap.size + 1) * (flP (w.heap.size + 1 + 1) ⟨0, 0⟩ * (ledP Q gl m.owed * (sg m sA sc * (coderP gc m.coder * (bytesP (.slice A xs.length c) xs * (Q * R)))))))))) := Lib.hid (by
    have h1 := ((h.alloc (.cells #[.pointer (some ⟨g, 0, none⟩)] 78)).alloc (.cells recZero 44)).alloc (.cells (fltCells ⟨0, 0⟩) 27)
    simp only [World.size_alloc] at h1
    exact (show Sat _ (flP (w.heap.size + 1 + 1) ⟨0, 0⟩ * (rzP (w.heap.size + 1) * (rrP w.heap.size g * (mb 84 g m gc gl sA sc (.slice A xs.length c) * (ledP Q gl m.owed * (sg m sA sc * (coderP gc m.coder * (bytesP (.slice A xs.length c) xs * (Q * R))))))))) from h1).perm (by ac_rfl))
  have Z0 : Hid (Same w (((w.alloc (.cells #[.pointer (some ⟨g, 0, none⟩)] 78)).alloc (.cells recZero 44)).alloc (.cells (fltCells ⟨0, 0⟩) 27))) := Lib.hid (Same.of ((((Kept.refl (fun _ => False) w).alloc _).alloc _).alloc _))
  clear h hm
  go_enter Tryz.func27, Tryz.ntmps27
  go_upto_region 1 with (fail)
  obtain ⟨w0, hw0⟩ : ∃ w0, w0 = (((w.alloc (.cells #[.pointer (some ⟨g, 0, none⟩)] 78)).alloc (.cells recZero 44)).alloc (.cells (fltCells ⟨0, 0⟩) 27)) := ⟨_, rfl⟩
  change Code.wp _ _ _ _ (((w.alloc (.cells #[.pointer (some ⟨g, 0, none⟩)] 78)).alloc (.cells recZero 44)).alloc (.cells (fltCells ⟨0, 0⟩) 27))
  rw [← hw0] at S0 Z0 ⊢
  clear hw0
  generalize w.heap.size + 1 + 1 = g4 at *
  generalize w.heap.size + 1 = g2 at *
  generalize w.heap.size = g1 at *
  obtain ⟨d8, d9, d10, d11, d12, d13, d14, d15, d16, d17, d18, d19⟩ := mak_facts S0.out
  have q1 := Rv.Sat.heap S0.out.swap
  have k1 : w0.cell? ⟨g1, 0, none⟩ = some (.pointer (some ⟨g, 0, none⟩)) := (cells_of q1 0).trans rfl
  have HAT := Lib.hid (at_any _ w0 _ _ _ _ _ _ _ _ _ _ S0.out)
  clear q1
  go_wp2_with fail
  refine HAT.out.mono ?_
  rintro e w' ⟨rfl, rfl⟩
  clear HAT
  -- the end
  have ZR := Lib.hid (S0.out.perm (show _ = rzP g2 * (flP g4 ⟨0, 0⟩ * (mb 84 g m gc gl sA sc (.slice A xs.length c) * (rrP g1 g * (ledP Q gl m.owed * (sg m sA sc * (coderP gc m.coder * (bytesP (.slice A xs.length c) xs * (Q * R)))))))) by ac_rfl))
  by_cases hend : m.size = xs.length
  · have e1 : ((m.size : Int) == (xs.length : Int)) = true := by rw [hend]; simp
    have he : m.next xs = .none_ := by unfold Rv.Maker.next; rw [if_pos hend]
    obtain rfl := he.symm.trans HRES.out
    clear he HRES hend
    obtain ⟨T1, T2, T3⟩ := two_sets (n2 := recZero) (n4 := fltCells ⟨0, 0⟩) ZR.out
    have T1 := Lib.hid T1
    have T2 := Lib.hid T2
    have T3 := Lib.hid T3
    go_wp2_with (first
      | ((with_reducible refine at_store 44 2 23 ?_); refine wpList_store_row rfl 44 (.tmp 2) (.tmp 23) rfl g2 recZero (by rfl) (by rfl) 44 recZero ZR.out.heap info_rec (by rfl) one_rec0 ?_; simp only [Act.put])
      | ((with_reducible refine at_store 27 4 24 ?_); refine wpList_store_row rfl 27 (.tmp 4) (.tmp 24) rfl g4 (fltCells ⟨0, 0⟩) (by rfl) (by rfl) 27 (fltCells ⟨0, 0⟩) T1.out.swap.heap info_flt (by rfl) (one_flt _) ?_; simp only [Act.put]))
    exact bodyPost_ret (results_ctc Tryz.results27 _ _ g2 g4 44 27 recZero (fltCells ⟨0, 0⟩) (0, 0) (0, 0) _ _ (.bool false) (by rfl) (by rfl) (by rfl) T2.out.heap T2.out.swap.heap Tryz.underlying44 (by rfl) info_rec Tryz.underlying27 (by rfl) info_flt) rfl
      ⟨rfl, Q, Ext.refl Q, rdr_fold (gc := gc) (gl := gl) (sA := sA) (sc := sc) (A := A) (c := c) ((T2.out.right.right.drop2).perm (by ac_rfl)), Z0.out.then T3.out⟩
  · have e1 : ((m.size : Int) == (xs.length : Int)) = false := by simp; omega
    by_cases hrec : m.records = 10000
    · have e2 : ((m.records : Int) == 10000) = true := by rw [hrec]; rfl
      have he : m.next xs = .fault ⟨2, m.size⟩ := by unfold Rv.Maker.next; rw [if_neg hend, if_pos hrec]
      obtain rfl := he.symm.trans HRES.out
      clear he HRES hend hrec
      obtain ⟨T1, T2, T3⟩ := two_sets (n2 := recZero) (n4 := fltCells ⟨2, (m.size : Int)⟩) ZR.out
      have T1 := Lib.hid T1
      have T2 := Lib.hid T2
      have T3 := Lib.hid T3
      go_wp2_with (first
        | ((with_reducible refine at_store 44 2 32 ?_); refine wpList_store_row rfl 44 (.tmp 2) (.tmp 32) rfl g2 recZero (by rfl) (by rfl) 44 recZero ZR.out.heap info_rec (by rfl) one_rec0 ?_; simp only [Act.put])
        | ((with_reducible refine at_store 27 4 34 ?_); refine wpList_store_row rfl 27 (.tmp 4) (.tmp 34) rfl g4 (fltCells ⟨2, (m.size : Int)⟩) (by rfl) (by rfl) 27 (fltCells ⟨0, 0⟩) T1.out.swap.heap info_flt (by rfl) (one_flt _) ?_; simp only [Act.put]))
      exact bodyPost_ret (results_ctc Tryz.results27 _ _ g2 g4 44 27 recZero (fltCells ⟨2, (m.size : Int)⟩) (0, 0) (0, 0) _ _ (.bool false) (by rfl) (by rfl) (by rfl) T2.out.heap T2.out.swap.heap Tryz.underlying44 (by rfl) info_rec Tryz.underlying27 (by rfl) info_flt) rfl
        ⟨rfl, Q, Ext.refl Q, rdr_fold (gc := gc) (gl := gl) (sA := sA) (sc := sc) (A := A) (c := c) ((T2.out.right.right.drop2).perm (by ac_rfl)), Z0.out.then T3.out⟩
    · have e2 : ((m.records : Int) == 10000) = false := by simp; omega
      have hpos : 0 < xs.length := by omega
      obtain ⟨ad, rfl⟩ : ∃ ad, A = some ad := by
        obtain ⟨A', c', e, h1, h2, hrd⟩ := bytesP_shape (S0.out.perm (show _ = bytesP (.slice A xs.length c) xs * (mb 84 g m gc gl sA sc (.slice A xs.length c) * (rrP g1 g * (rzP g2 * (flP g4 ⟨0, 0⟩ * (ledP Q gl m.owed * (sg m sA sc * (coderP gc m.coder * (Q * R)))))))) by ac_rfl))
        injection e with e1 e2 e3
        subst e1
        obtain ⟨u, hu⟩ := some_at (xs := xs) (i := 0) hpos
        obtain ⟨ad, e, _⟩ := hrd 0 u hu
        exact ⟨ad, e⟩
      have HEND := Lib.hid hend
      have HREC := Lib.hid hrec
      have hlt : m.size < xs.length := by omega
      have HCL := Lib.hid (sclone w0 _ gc m.coder (S0.out.perm (show _ = coderP gc m.coder * (mb 84 g m gc gl sA sc (.slice (some ad) xs.length c) * (rrP g1 g * (rzP g2 * (flP g4 ⟨0, 0⟩ * (ledP Q gl m.owed * (sg m sA sc * (bytesP (.slice (some ad) xs.length c) xs * (Q * R)))))))) by ac_rfl)))
      clear ZR hend
      go_wp2_with fail
      refine HCL.out.mono ?_
      rintro e w3 ⟨g', rfl, s3, b3⟩
      obtain ⟨F0, hF0⟩ : ∃ X : HP, bytesP (.slice (some ad) xs.length c) xs * (coderP gc m.coder * (rzP g2 * (flP g4 ⟨0, 0⟩ * R))) = X := ⟨_, rfl⟩
      have S3 : Hid (Sat w3 (mb 84 g m gc gl sA sc (.slice (some ad) xs.length c) * (rrP g1 g * (coderP g' m.coder * (ledP Q gl m.owed * (sg m sA sc * (Q * F0))))))) := Lib.hid (s3.perm (by rw [← hF0]; ac_rfl))
      have Z3 := Lib.hid (Z0.out.then (Rv.Same.below b3))
      have HRD : Hid (RdIn F0 (some ad) (u8s xs)) := Lib.hid (by rw [← hF0]; exact Rv.RdIn.left Rv.RdIn.row)
      have HF0 := Lib.hid hF0
      clear s3 b3 S0 Z0 HCL d8 d9 d10 d11 d12 d13 d14 d15 d16 d17 d18 d19 k1 hF0
      obtain ⟨d8, d9, d10, d11, d12, d13, d14, d15, d16, d17, d18, d19⟩ := mak_facts S3.out
      have k1 : w3.cell? ⟨g1, 0, none⟩ = some (.pointer (some ⟨g, 0, none⟩)) := (cells_of S3.out.swap.heap 0).trans rfl
      have HG : Hid (Calls Tryz.prog 49 #[.pointer (some ⟨g', 0, none⟩), .slice (some ad) xs.length c, .int .i64 (m.size : Int)] w3 (fun e w4 => ∃ (x : Rv.Rec) (tt : Nat) (f : Rv.Fault) (Y : HP), e = .returned (.tuple #[.agg (recCells x), .int .i64 (tt : Int), .agg (fltCells f)]) ∧
          Sat w4 (mb 84 g m gc gl sA sc (.slice (some ad) xs.length c) * (rrP g1 g * (ledP Q gl m.owed * (sg m sA sc * (Q * (Y * F0)))))) ∧ Same w3 w4 ∧
          ((m.coder.get xs m.size = .error f ∧ f.code ≠ 0) ∨ ∃ c2, m.coder.get xs m.size = .ok (c2, x, tt) ∧ f = ⟨0, 0⟩ ∧ Y = coderP g' c2))) := Lib.hid (by
        refine (get_any w3 _ g' m.coder (some ad) xs c m.size (S3.out.third) (Rv.RdIn.right (Rv.RdIn.right (Rv.RdIn.right (Rv.RdIn.right (Rv.RdIn.right HRD.out))))) (by omega) hcap.1 hs).mono ?_
        intro e w4 hq
        cases hg : m.coder.get xs m.size with
        | error f =>
          rw [hg] at hq
          obtain ⟨rfl, s4, z4⟩ := hq
          exact ⟨⟨0, ⟨#[]⟩, 0, 0⟩, 0, f, 1, rfl, s4.perm (by rw [Rv.one_star]), z4, .inl ⟨rfl, cget_code hg⟩⟩
        | ok q =>
          obtain ⟨c2, x, tt⟩ := q
          rw [hg] at hq
          obtain ⟨rfl, s4, z4⟩ := hq
          exact ⟨x, tt, ⟨0, 0⟩, coderP g' c2, rfl, s4.perm (by ac_rfl), z4, .inr ⟨c2, rfl, rfl, rfl⟩⟩)
      go_wp2_with fail
      refine HG.out.mono ?_
      rintro e w4 ⟨x, tt, f, Y, rfl, s4, z4, hcase⟩
      have Z4 := Lib.hid (Z3.out.then z4)
      have S4 := Lib.hid s4
      have HCASE := Lib.hid hcase
      clear s4 z4 hcase S3 Z3 HG d8 d9 d10 d11 d12 d13 d14 d15 d16 d17 d18 d19 k1
      have S5 : Hid (Sat (((w4.alloc (.cells (recCells x) 44)).alloc (.cells #[.int .i64 (tt : Int)] 3)).alloc (.cells (fltCells f) 27)) (mb 84 g m gc gl sA sc (.slice (some ad) xs.length c) * (rcP w4.heap.size x * (itP (w4.heap.size + 1) tt * (flP (w4.heap.size + 1 + 1) f * (rrP g1 g * (ledP Q gl m.owed * (sg m sA sc * (Q * (Y * F0)))))))))) := Lib.hid (by
        have h1 := ((S4.out.alloc (.cells (recCells x) 44)).alloc (.cells #[.int .i64 (tt : Int)] 3)).alloc (.cells (fltCells f) 27)
        simp only [World.size_alloc] at h1
        exact (show Sat _ (flP (w4.heap.size + 1 + 1) f * (itP (w4.heap.size + 1) tt * (rcP w4.heap.size x * (mb 84 g m gc gl sA sc (.slice (some ad) xs.length c) * (rrP g1 g * (ledP Q gl m.owed * (sg m sA sc * (Q * (Y * F0))))))))) from h1).perm (by ac_rfl))
      have Z5 : Hid (Same w (((w4.alloc (.cells (recCells x) 44)).alloc (.cells #[.int .i64 (tt : Int)] 3)).alloc (.cells (fltCells f) 27))) := Lib.hid (Z4.out.then (Same.of ((((Kept.refl (fun _ => False) w4).alloc _).alloc _).alloc _)))
      go_upto_region 8 with (fail)
      obtain ⟨w5, hw5⟩ : ∃ w5, w5 = (((w4.alloc (.cells (recCells x) 44)).alloc (.cells #[.int .i64 (tt : Int)] 3)).alloc (.cells (fltCells f) 27)) := ⟨_, rfl⟩
      change Code.wp _ _ _ _ (((w4.alloc (.cells (recCells x) 44)).alloc (.cells #[.int .i64 (tt : Int)] 3)).alloc (.cells (fltCells f) 27))
      rw [← hw5] at S5 Z5 ⊢
      clear hw5 S4 Z4
      generalize w4.heap.size + 1 + 1 = g9 at *
      generalize w4.heap.size + 1 = g8 at *
      generalize w4.heap.size = g7 at *
      rcases HCASE.out with ⟨hg, hfc⟩ | ⟨c2, hg, rfl, rfl⟩
      · obtain rfl := (mnext_err HEND.out HREC.out hg).symm.trans HRES.out
        have e3 : (f.code != 0) = true := by simpa using hfc
        obtain ⟨l0, l1⟩ := flt_facts S5.out.fourth
        have K0 := Lib.hid (And.intro l0 l1)
        have ZR : Hid (Sat w5.drew (rzP g2 * (flP g4 ⟨0, 0⟩ * (flP g9 f * (Y * (rcP g7 x * (itP g8 tt * (rrP g1 g * (mb 84 g m gc gl sA sc (.slice (some ad) xs.length c) * (ledP Q gl m.owed * (sg m sA sc * (coderP gc m.coder * (bytesP (.slice (some ad) xs.length c) xs * (Q * R)))))))))))))) := Lib.hid (S5.out.drew.perm (by rw [← HF0.out]; ac_rfl))
        obtain ⟨T1, T2, T3⟩ := two_sets (n2 := recZero) (n4 := fltCells f) ZR.out
        have T1 := Lib.hid T1
        have T2 := Lib.hid T2
        have T3 := Lib.hid T3
        clear HRES HCASE hg hfc
        go_upto_region 9 with (fail)
        refine wp_region_held_drew (S := fun w' => w'.cell? ⟨g9, 0, none⟩ = some (.int .i64 f.code) ∧ w'.cell? ⟨g9, 1, none⟩ = some (.int .i64 f.at_)) (by kernel_rfl) K0.out (fun hHeld => ?_)
        refine wpAnyH_take (i := 0) (oi := ⟨some 55, .build 44 #[], 44, "tape.go:205", #[], none⟩) (v := ?_) rfl (by kernel_rfl) (by kernel_rfl) (by kernel_rfl) (fun _ _ _ h => h) (Or.inl ⟨by rfl, ?_⟩) (by assumption) ?_
        rotate_left
        · intro w hSw
          try dsimp only at hSw
          go_simp
          try with_reducible rfl
        try simp only [Act.put, List.setIfInBounds_toArray, List.set_cons_zero, List.set_cons_succ]
        refine wpAnyH_take (i := 1) (oi := ⟨some 56, .load 27 (.tmp 9), 27, "tape.go:205", #[⟨3, .gcOnly .lateStores⟩], none⟩) (v := ?_) rfl (by kernel_rfl) (by kernel_rfl) (by kernel_rfl) (fun _ _ _ h => h) (Or.inl ⟨by rfl, ?_⟩) (by assumption) ?_
        rotate_left
        · intro w hSw
          try dsimp only at hSw
          go_simp
          try with_reducible rfl
        try simp only [Act.put, List.setIfInBounds_toArray, List.set_cons_zero, List.set_cons_succ]
        refine wpAnyH_ready (rs := [2]) (by kernel_rfl) (by simp) ?_
        refine AllReadyH.cons (o := ⟨none, .store 44 (.tmp 2) (.tmp 55), 0, "tape.go:205", #[⟨0, .data⟩, ⟨0, .phase⟩, ⟨1, .textOnly .lateStores⟩], none⟩) rfl (fun K hK => ?_) AllReadyH.nil
        have K1 := Lib.hid (flt_facts T1.out.third)
        refine step_store_row rfl 44 (.tmp 2) (.tmp 55) rfl g2 recZero (by rfl) (by rfl) 44 recZero ZR.out.heap info_rec (by rfl) one_rec0 ?_
        refine hK.out _ _ K1.out (fun hHeld2 => ?_)
        clear hK K hHeld
        try simp only [Act.put, List.setIfInBounds_toArray, List.set_cons_zero, List.set_cons_succ]
        refine wpAnyH_take (i := 3) (oi := ⟨some 3, .assign (.const (.bool false)), 4, "tape.go:205", #[⟨2, .chain⟩, ⟨0, .phase⟩, ⟨1, .textOnly .lateStores⟩, ⟨2, .phase⟩], none⟩) (v := ?_) rfl (by kernel_rfl) (by kernel_rfl) (by kernel_rfl) (fun _ _ _ h => h) (Or.inl ⟨by rfl, ?_⟩) (by assumption) ?_
        rotate_left
        · intro w hSw
          try dsimp only at hSw
          go_simp
          try with_reducible rfl
        try simp only [Act.put, List.setIfInBounds_toArray, List.set_cons_zero, List.set_cons_succ]
        refine wpAnyH_ready (rs := [4]) (by kernel_rfl) (by simp) ?_
        refine AllReadyH.cons (o := ⟨none, .store 27 (.tmp 4) (.tmp 56), 0, "tape.go:205", #[⟨1, .data⟩, ⟨3, .chain⟩, ⟨0, .phase⟩, ⟨1, .phase⟩, ⟨2, .phase⟩, ⟨3, .phase⟩], none⟩) rfl (fun K hK => ?_) AllReadyH.nil
        have K2 := Lib.hid (flt_facts T2.out.third)
        refine step_store_row rfl 27 (.tmp 4) (.tmp 56) rfl g4 (fltCells f) (by rfl) (by rfl) 27 (fltCells ⟨0, 0⟩) T1.out.swap.heap info_flt (by rfl) (one_flt _) ?_
        refine hK.out _ _ K2.out (fun hHeld => ?_)
        clear hK K hHeld2
        try simp only [Act.put, List.setIfInBounds_toArray, List.set_cons_zero, List.set_cons_succ]
        refine wpAnyH_done (by kernel_rfl) ?_ _
        clear hHeld
        go_wp2_with fail
        exact bodyPost_ret (results_ctc Tryz.results27 _ _ g2 g4 44 27 recZero (fltCells f) (0, 0) (0, 0) _ _ (.bool false) (by rfl) (by rfl) (by rfl) T2.out.heap T2.out.swap.heap Tryz.underlying44 (by rfl) info_rec Tryz.underlying27 (by rfl) info_flt) rfl
          ⟨rfl, Q, Ext.refl Q, rdr_fold (gc := gc) (gl := gl) (sA := sA) (sc := sc) (A := some ad) (c := c) ((T2.out.right.right.right).perm (show _ = Y * (rcP g7 x * (itP g8 tt * (rrP g1 g * (mb 84 g m gc gl sA sc (.slice (some ad) xs.length c) * (ledP Q gl m.owed * (sg m sA sc * (coderP gc m.coder * (bytesP (.slice (some ad) xs.length c) xs * (Q * R))))))))) by ac_rfl)).right.right.right.right, Z5.out.drew.then T3.out⟩
      · have e3 : ((0 : Int) != 0) = false := rfl
        obtain ⟨hg1, hg2, _⟩ := Rv.Coder.get_ok hg
        obtain ⟨hxr, hxt, hct, hck⟩ := get_right hg HM.out.kp
        obtain ⟨l0, l1⟩ := flt_facts S5.out.fourth
        have hpl : ((xs.drop m.size).take (tt - m.size)).length = tt - m.size := by simp; omega
        obtain ⟨⟨s, fits⟩, has⟩ : ∃ y, m.adds x c2 ((xs.drop m.size).take (tt - m.size)) = y := ⟨_, rfl⟩
        obtain ⟨hsp, hsc, hso, hsk, hst⟩ := adds_parts has
        have HSL : Hid (s.piece.length = tt - m.size) := Lib.hid (by rw [hsp]; exact hpl)
        have HRP : Hid (RdIn F0 (some (ad.add m.size)) (u8s ((xs.drop m.size).take (tt - m.size)))) := Lib.hid (by
          have h1 := (Rv.RdIn.drop HRD.out m.size).take (tt - m.size)
          unfold u8s at h1 ⊢
          rw [List.map_take, List.map_drop]
          exact h1)
        have HADD : Hid (∀ (wx : World) (F : HP), Sat wx (mb 84 g m gc gl sA sc (.slice (some ad) xs.length c) * (ledP Q gl m.owed * (sg m sA sc * (Q * (F * F0))))) →
            Calls Tryz.prog 24 #[.pointer (some ⟨g, 0, none⟩), .agg #[.int .i64 x.tick, .string x.key, .int .i64 x.cost, .int .i64 x.verdict], .pointer (some ⟨g', 0, none⟩), (.slice (some (ad.add m.size)) (tt - m.size) (c - m.size))] wx (AddsRes 84 Q (F * F0) wx g gc gl g' m sA sc (.slice (some ad) xs.length c) (.slice (some (ad.add m.size)) (tt - m.size) (c - m.size)) s fits)) :=
          Lib.hid fun wx F h => by
            have h1 := adds_step _ wx Q (F * F0) g gc gl g' m x c2 ((xs.drop m.size).take (tt - m.size)) sA sc _ (some (ad.add m.size)) (c - m.size) s fits HM.out has h (Rv.RdIn.right HRP.out) (by simp) (by rw [hpl]; omega) hxr hxt
            rw [hpl] at h1
            exact h1
        have HXR := Lib.hid hxr
        have HXT := Lib.hid hxt
        have HSP := Lib.hid hsp
        have HSC := Lib.hid hsc
        have HAS := Lib.hid has
        have HGET := Lib.hid hg
        have K0 := Lib.hid (nxt_held (S5.out.perm (show _ = mb 84 g m gc gl sA sc (.slice (some ad) xs.length c) * (rcP g7 x * (itP g8 tt * (rrP g1 g * (flP g9 ⟨0, 0⟩ * (ledP Q gl m.owed * (sg m sA sc * (Q * (coderP g' c2 * F0)))))))) by ac_rfl)))
        have HSO := Lib.hid hso
        have HSK := Lib.hid hsk
        clear hxr hxt hsp hsc has hg hct hck hso hsk hpl HCASE
        go_upto_region 10 with (fail)
        have hb1 : (0 : Int) ≤ (m.size : Int) := by omega
        have hb2 : (m.size : Int) ≤ (tt : Int) := by omega
        have hb3 : (tt : Int) ≤ (c : Int) := by omega
        have hb4 : ¬ c = m.size := by omega
        go_cut [10, 11] (fun v b wx => NxtStep Q (rcP g7 x * (itP g8 tt * (flP g9 ⟨0, 0⟩ * (rrP g1 g * (coderP g' c2 * F0))))) w wx v b g gc gl g' sA sc (.slice (some ad) xs.length c) (.slice (some (ad.add m.size)) (tt - m.size) (c - m.size)) m s fits)
        case first =>
          refine wp_region_held_drew (S := fun w => w.cell? ⟨g1, 0, none⟩ = some (.pointer (some ⟨g, 0, none⟩)) ∧ w.cell? ⟨g, 19, none⟩ = some (.slice (some ad) xs.length c) ∧ w.cell? ⟨g8, 0, none⟩ = some (.int .i64 (tt : Int)) ∧ w.cell? ⟨g7, 0, none⟩ = some (.int .i64 x.tick) ∧ w.cell? ⟨g7, 1, none⟩ = some (.string x.key) ∧ w.cell? ⟨g7, 2, none⟩ = some (.int .i64 x.cost) ∧ w.cell? ⟨g7, 3, none⟩ = some (.int .i64 x.verdict)) (by kernel_rfl) K0.out (fun hHeld => ?_)
          refine wpAnyH_take (i := 0) (oi := ⟨some 58, .load 78 (.tmp 1), 78, "tape.go:207", #[], none⟩) (v := ?_) rfl (by kernel_rfl) (by kernel_rfl) (by kernel_rfl) (fun _ _ _ h => h) (Or.inl ⟨by rfl, ?_⟩) (by assumption) ?_
          rotate_left
          · intro w hSw
            try dsimp only at hSw
            go_simp
            try with_reducible rfl
          try simp only [Act.put, List.setIfInBounds_toArray, List.set_cons_zero, List.set_cons_succ]
          refine wpAnyH_take (i := 1) (oi := ⟨some 59, .nilCheck (.tmp 58), 0, "tape.go:207", #[⟨0, .data⟩], none⟩) (v := ?_) rfl (by kernel_rfl) (by kernel_rfl) (by kernel_rfl) (fun _ _ _ h => h) (Or.inl ⟨by rfl, ?_⟩) (by assumption) ?_
          rotate_left
          · intro w hSw
            try dsimp only at hSw
            go_simp
            try with_reducible rfl
          try simp only [Act.put, List.setIfInBounds_toArray, List.set_cons_zero, List.set_cons_succ]
          refine wpAnyH_take (i := 2) (oi := ⟨some 60, .fieldAddr 84 (.tmp 59) 0, 0, "tape.go:207", #[⟨1, .data⟩], none⟩) (v := ?_) rfl (by kernel_rfl) (by kernel_rfl) (by kernel_rfl) (fun _ _ _ h => h) (Or.inl ⟨by rfl, ?_⟩) (by assumption) ?_
          rotate_left
          · intro w hSw
            try dsimp only at hSw
            go_simp
            try with_reducible rfl
          try simp only [Act.put, List.setIfInBounds_toArray, List.set_cons_zero, List.set_cons_succ]
          refine wpAnyH_take (i := 3) (oi := ⟨some 61, .load 44 (.tmp 7), 44, "tape.go:207", #[], none⟩) (v := ?_) rfl (by kernel_rfl) (by kernel_rfl) (by kernel_rfl) (fun _ _ _ h => h) (Or.inl ⟨by rfl, ?_⟩) (by assumption) ?_
          rotate_left
          · intro w hSw
            try dsimp only at hSw
            go_simp
            try with_reducible rfl
          try simp only [Act.put, List.setIfInBounds_toArray, List.set_cons_zero, List.set_cons_succ]
          refine wpAnyH_take (i := 4) (oi := ⟨some 62, .move (.tmp 6), 58, "tape.go:207", #[], none⟩) (v := ?_) rfl (by kernel_rfl) (by kernel_rfl) (by kernel_rfl) (fun _ _ _ h => h) (Or.inl ⟨by rfl, ?_⟩) (by assumption) ?_
          rotate_left
          · intro w hSw
            try dsimp only at hSw
            go_simp
            try with_reducible rfl
          try simp only [Act.put, List.setIfInBounds_toArray, List.set_cons_zero, List.set_cons_succ]
          refine wpAnyH_take (i := 5) (oi := ⟨some 63, .load 78 (.tmp 1), 78, "tape.go:207", #[], none⟩) (v := ?_) rfl (by kernel_rfl) (by kernel_rfl) (by kernel_rfl) (fun _ _ _ h => h) (Or.inl ⟨by rfl, ?_⟩) (by assumption) ?_
          rotate_left
          · intro w hSw
            try dsimp only at hSw
            go_simp
            try with_reducible rfl
          try simp only [Act.put, List.setIfInBounds_toArray, List.set_cons_zero, List.set_cons_succ]
          refine wpAnyH_take (i := 6) (oi := ⟨some 64, .nilCheck (.tmp 63), 0, "tape.go:207", #[⟨5, .data⟩], none⟩) (v := ?_) rfl (by kernel_rfl) (by kernel_rfl) (by kernel_rfl) (fun _ _ _ h => h) (Or.inl ⟨by rfl, ?_⟩) (by assumption) ?_
          rotate_left
          · intro w hSw
            try dsimp only at hSw
            go_simp
            try with_reducible rfl
          try simp only [Act.put, List.setIfInBounds_toArray, List.set_cons_zero, List.set_cons_succ]
          refine wpAnyH_take (i := 7) (oi := ⟨some 65, .fieldAddr 84 (.tmp 64) 1, 0, "tape.go:207", #[⟨6, .data⟩], none⟩) (v := ?_) rfl (by kernel_rfl) (by kernel_rfl) (by kernel_rfl) (fun _ _ _ h => h) (Or.inl ⟨by rfl, ?_⟩) (by assumption) ?_
          rotate_left
          · intro w hSw
            try dsimp only at hSw
            go_simp
            try with_reducible rfl
          try simp only [Act.put, List.setIfInBounds_toArray, List.set_cons_zero, List.set_cons_succ]
          refine wpAnyH_take (i := 8) (oi := ⟨some 66, .load 22 (.tmp 65), 22, "tape.go:207", #[⟨7, .data⟩], none⟩) (v := ?_) rfl (by kernel_rfl) (by kernel_rfl) (by kernel_rfl) (fun _ _ _ h => h) (Or.inl ⟨by rfl, ?_⟩) (by assumption) ?_
          rotate_left
          · intro w hSw
            try dsimp only at hSw
            go_simp
            try with_reducible rfl
          try simp only [Act.put, List.setIfInBounds_toArray, List.set_cons_zero, List.set_cons_succ]
          refine wpAnyH_take (i := 9) (oi := ⟨some 67, .move (.tmp 5), 3, "tape.go:207", #[], none⟩) (v := ?_) rfl (by kernel_rfl) (by kernel_rfl) (by kernel_rfl) (fun _ _ _ h => h) (Or.inl ⟨by rfl, ?_⟩) (by assumption) ?_
          rotate_left
          · intro w hSw
            try dsimp only at hSw
            go_simp
            try with_reducible rfl
          try simp only [Act.put, List.setIfInBounds_toArray, List.set_cons_zero, List.set_cons_succ]
          refine wpAnyH_take (i := 10) (oi := ⟨some 68, .load 3 (.tmp 8), 3, "tape.go:207", #[], none⟩) (v := ?_) rfl (by kernel_rfl) (by kernel_rfl) (by kernel_rfl) (fun _ _ _ h => h) (Or.inl ⟨by rfl, ?_⟩) (by assumption) ?_
          rotate_left
          · intro w hSw
            try dsimp only at hSw
            go_simp
            try with_reducible rfl
          try simp only [Act.put, List.setIfInBounds_toArray, List.set_cons_zero, List.set_cons_succ]
          refine wpAnyH_take (i := 11) (oi := ⟨some 69, .slice 22 (.tmp 66) (some (.tmp 67)) (some (.tmp 68)) none, 22, "tape.go:207", #[⟨8, .data⟩, ⟨9, .data⟩, ⟨10, .data⟩], none⟩) (v := ?_) rfl (by kernel_rfl) (by kernel_rfl) (by kernel_rfl) (fun _ _ _ h => h) (Or.inl ⟨by rfl, ?_⟩) (by assumption) ?_
          rotate_left
          · intro w hSw
            try dsimp only at hSw
            go_simp
            try with_reducible rfl
          try simp only [Act.put, List.setIfInBounds_toArray, List.set_cons_zero, List.set_cons_succ]
          refine wpAnyH_ready (rs := [12, 16]) (by kernel_rfl) (by simp) ?_
          refine AllReadyH.cons (o := ⟨some 70, .call { callee := .value (.func 24), args := #[.tmp 60, .tmp 61, .tmp 62, .tmp 69], argTypes := #[65, 44, 58, 22] }, 75, "tape.go:207", #[⟨2, .data⟩, ⟨3, .data⟩, ⟨4, .data⟩, ⟨11, .data⟩], none⟩) rfl (fun K hK => ?_) (AllReadyH.cons (o := ⟨some 10, .alloc 74, 0, "tape.go:207", #[], none⟩) rfl (fun K hK => ?_) AllReadyH.nil)
          · go_simp
            refine (HADD.out w5.drew (rcP g7 x * (itP g8 tt * (flP g9 ⟨0, 0⟩ * (rrP g1 g * coderP g' c2)))) (S5.out.drew.perm (by ac_rfl))).mono ?_
            rintro e w6 ⟨op, cA, cc, tA, tc, Q', rfl, x6, s6, z6, hcn⟩
            have S6 : Hid (Sat w6 (mb 84 g m gc gl sA sc (.slice (some ad) xs.length c) * (rcP g7 x * (itP g8 tt * (rrP g1 g * (owedP Q' (.pointer op) s.owed * (bytesP (.slice cA s.check.length cc) s.check * (bytesP (.slice tA s.trailer.length tc) s.trailer * (ledP Q' gl m.owed * (sg m sA sc * (Q' * (flP g9 ⟨0, 0⟩ * (coderP g' c2 * F0))))))))))))) := Lib.hid (s6.perm (by ac_rfl))
            have Z6 := Lib.hid (Z5.out.drew.then z6)
            have X6 := Lib.hid x6
            have K1 := Lib.hid (nxt_held S6.out)
            refine hK.out _ _ K1.out (fun hHeld2 => ?_)
            clear hK K hHeld s6 z6 x6 hcn
            try simp only [Act.put, List.setIfInBounds_toArray, List.set_cons_zero, List.set_cons_succ]
            refine wpAnyH_take (i := 13) (oi := ⟨some 57, .move (.tmp 70), 75, "tape.go:207", #[⟨12, .data⟩], none⟩) (v := ?_) rfl (by kernel_rfl) (by kernel_rfl) (by kernel_rfl) (fun _ _ _ h => h) (Or.inl ⟨by rfl, ?_⟩) (by assumption) ?_
            rotate_left
            · intro w hSw
              try dsimp only at hSw
              go_simp
              try with_reducible rfl
            try simp only [Act.put, List.setIfInBounds_toArray, List.set_cons_zero, List.set_cons_succ]
            refine wpAnyH_take (i := 14) (oi := ⟨some 71, .extract (.tmp 57) 0, 74, "tape.go:207", #[⟨13, .data⟩], none⟩) (v := ?_) rfl (by kernel_rfl) (by kernel_rfl) (by kernel_rfl) (fun _ _ _ h => h) (Or.inl ⟨by rfl, ?_⟩) (by assumption) ?_
            rotate_left
            · intro w hSw
              try dsimp only at hSw
              go_simp
              try with_reducible rfl
            try simp only [Act.put, List.setIfInBounds_toArray, List.set_cons_zero, List.set_cons_succ]
            refine wpAnyH_take (i := 15) (oi := ⟨some 72, .extract (.tmp 57) 1, 4, "tape.go:207", #[⟨13, .data⟩, ⟨17, .gcOnly .lateStores⟩], none⟩) (v := ?_) rfl (by kernel_rfl) (by kernel_rfl) (by kernel_rfl) (fun _ _ _ h => h) (Or.inl ⟨by rfl, ?_⟩) (by assumption) ?_
            rotate_left
            · intro w hSw
              try dsimp only at hSw
              go_simp
              try with_reducible rfl
            try simp only [Act.put, List.setIfInBounds_toArray, List.set_cons_zero, List.set_cons_succ]
            refine wpAnyH_ready (rs := [16]) (by kernel_rfl) (by simp) ?_
            refine AllReadyH.cons (o := ⟨some 10, .alloc 74, 0, "tape.go:207", #[], none⟩) rfl (fun K hK => ?_) AllReadyH.nil
            have S7 := Lib.hid (S6.out.alloc (.cells stepZero 74))
            have K2 := Lib.hid (nxt_held (S7.out.perm (show _ = mb 84 g m gc gl sA sc (.slice (some ad) xs.length c) * (rcP g7 x * (itP g8 tt * (rrP g1 g * (pt w6.heap.size (.cells stepZero 74) * (owedP Q' (.pointer op) s.owed * (bytesP (.slice cA s.check.length cc) s.check * (bytesP (.slice tA s.trailer.length tc) s.trailer * (ledP Q' gl m.owed * (sg m sA sc * (Q' * (flP g9 ⟨0, 0⟩ * (coderP g' c2 * F0)))))))))))) by ac_rfl)))
            refine step_alloc rfl 74 rfl (.agg stepZero) (zero_of_info zero_step).1 ?_
            refine hK.out _ _ K2.out (fun hHeld => ?_)
            clear hK K hHeld2
            try simp only [Act.put, List.setIfInBounds_toArray, List.set_cons_zero, List.set_cons_succ]
            refine wpAnyH_ready (rs := [17]) (by kernel_rfl) (by simp) ?_
            refine AllReadyH.cons (o := ⟨none, .store 74 (.tmp 10) (.tmp 71), 0, "tape.go:207", #[⟨16, .data⟩, ⟨14, .data⟩, ⟨12, .chain⟩, ⟨0, .phase⟩, ⟨1, .phase⟩, ⟨2, .phase⟩, ⟨3, .phase⟩, ⟨4, .phase⟩, ⟨5, .phase⟩, ⟨6, .phase⟩, ⟨7, .phase⟩, ⟨8, .phase⟩, ⟨9, .phase⟩, ⟨10, .phase⟩, ⟨11, .phase⟩, ⟨12, .phase⟩, ⟨13, .phase⟩, ⟨14, .phase⟩, ⟨15, .textOnly .lateStores⟩, ⟨16, .phase⟩], none⟩) rfl (fun K hK => ?_) AllReadyH.nil
            have S8 : Hid (Sat _ (stp w6.heap.size g' op s (.slice (some (ad.add m.size)) (tt - m.size) (c - m.size)) (.slice cA s.check.length cc) (.slice tA s.trailer.length tc) * (mb 84 g m gc gl sA sc (.slice (some ad) xs.length c) * (rcP g7 x * (itP g8 tt * (rrP g1 g * (owedP Q' (.pointer op) s.owed * (bytesP (.slice cA s.check.length cc) s.check * (bytesP (.slice tA s.trailer.length tc) s.trailer * (ledP Q' gl m.owed * (sg m sA sc * (Q' * (flP g9 ⟨0, 0⟩ * (coderP g' c2 * F0)))))))))))))) := Lib.hid (sat_setRow (n := (stepCells g' (.pointer op) s.link (.slice (some (ad.add m.size)) (tt - m.size) (c - m.size)) (.slice cA s.check.length cc) (.slice tA s.trailer.length tc) s.ends)) S7.out)
            have K3 := Lib.hid (nxt_held (S8.out.perm (show _ = mb 84 g m gc gl sA sc (.slice (some ad) xs.length c) * (rcP g7 x * (itP g8 tt * (rrP g1 g * (stp w6.heap.size g' op s (.slice (some (ad.add m.size)) (tt - m.size) (c - m.size)) (.slice cA s.check.length cc) (.slice tA s.trailer.length tc) * (owedP Q' (.pointer op) s.owed * (bytesP (.slice cA s.check.length cc) s.check * (bytesP (.slice tA s.trailer.length tc) s.trailer * (ledP Q' gl m.owed * (sg m sA sc * (Q' * (flP g9 ⟨0, 0⟩ * (coderP g' c2 * F0)))))))))))) by ac_rfl)))
            refine step_store_row rfl 74 (.tmp 10) (.tmp 71) rfl w6.heap.size (stepCells g' (.pointer op) s.link (.slice (some (ad.add m.size)) (tt - m.size) (c - m.size)) (.slice cA s.check.length cc) (.slice tA s.trailer.length tc) s.ends) (by rfl) (by rfl) 74 stepZero S7.out.heap info_step (by rfl) (one_step _ _ _ _ _ _ _ _ _ _ _ _ _) ?_
            refine hK.out _ _ K3.out (fun hHeld2 => ?_)
            clear hK K hHeld
            try simp only [Act.put, List.setIfInBounds_toArray, List.set_cons_zero, List.set_cons_succ]
            refine wpAnyH_take (i := 18) (oi := ⟨some 11, .assign (.tmp 72), 4, "tape.go:207", #[⟨15, .data⟩, ⟨17, .chain⟩, ⟨0, .phase⟩, ⟨1, .phase⟩, ⟨2, .phase⟩, ⟨3, .phase⟩, ⟨4, .phase⟩, ⟨5, .phase⟩, ⟨6, .phase⟩, ⟨7, .phase⟩, ⟨8, .phase⟩, ⟨9, .phase⟩, ⟨10, .phase⟩, ⟨11, .phase⟩, ⟨12, .phase⟩, ⟨13, .phase⟩, ⟨14, .phase⟩, ⟨15, .phase⟩, ⟨16, .phase⟩, ⟨17, .phase⟩], none⟩) (v := ?_) rfl (by kernel_rfl) (by kernel_rfl) (by kernel_rfl) (fun _ _ _ h => h) (Or.inl ⟨by rfl, ?_⟩) (by assumption) ?_
            rotate_left
            · intro w hSw
              try dsimp only at hSw
              go_simp
              try with_reducible rfl
            try simp only [Act.put, List.setIfInBounds_toArray, List.set_cons_zero, List.set_cons_succ]
            refine wpAnyH_done (by kernel_rfl) ?_ _
            clear hHeld2
            go_wp2_with fail
            go_meet
            case rel => exact ⟨_, op, cA, cc, tA, tc, Q', rfl, rfl, X6.out, S8.out.perm (by ac_rfl), (Z6.out.then (Same.of ((Kept.refl (fun _ => False) _).alloc _))).then (same_setRow _ _ _)⟩
          · have S6 : Hid (Sat (w5.drew.alloc (.cells stepZero 74)) _) := Lib.hid (S5.out.drew.alloc (.cells stepZero 74))
            have S6b : Hid (Sat (w5.drew.alloc (.cells stepZero 74)) (mb 84 g m gc gl sA sc (.slice (some ad) xs.length c) * (rcP g7 x * (itP g8 tt * (rrP g1 g * (pt w5.heap.size (.cells stepZero 74) * (flP g9 ⟨0, 0⟩ * (ledP Q gl m.owed * (sg m sA sc * (Q * (coderP g' c2 * F0))))))))))) := Lib.hid (S6.out.perm (by simp only [World.size_drew]; ac_rfl))
            have K1 := Lib.hid (nxt_held S6b.out)
            refine step_alloc rfl 74 rfl (.agg stepZero) (zero_of_info zero_step).1 ?_
            refine hK.out _ _ K1.out (fun hHeld2 => ?_)
            clear hK K hHeld
            try simp only [Act.put, List.setIfInBounds_toArray, List.set_cons_zero, List.set_cons_succ]
            refine wpAnyH_ready (rs := [12]) (by kernel_rfl) (by simp) ?_
            refine AllReadyH.cons (o := ⟨some 70, .call { callee := .value (.func 24), args := #[.tmp 60, .tmp 61, .tmp 62, .tmp 69], argTypes := #[65, 44, 58, 22] }, 75, "tape.go:207", #[⟨2, .data⟩, ⟨3, .data⟩, ⟨4, .data⟩, ⟨11, .data⟩], none⟩) rfl (fun K hK => ?_) AllReadyH.nil
            go_simp
            refine (HADD.out _ (pt w5.heap.size (.cells stepZero 74) * (rcP g7 x * (itP g8 tt * (flP g9 ⟨0, 0⟩ * (rrP g1 g * coderP g' c2))))) (S6b.out.perm (by ac_rfl))).mono ?_
            rintro e w7 ⟨op, cA, cc, tA, tc, Q', rfl, x6, s6, z6, hcn⟩
            have S7 : Hid (Sat w7 (pt w5.heap.size (.cells stepZero 74) * (mb 84 g m gc gl sA sc (.slice (some ad) xs.length c) * (rcP g7 x * (itP g8 tt * (rrP g1 g * (owedP Q' (.pointer op) s.owed * (bytesP (.slice cA s.check.length cc) s.check * (bytesP (.slice tA s.trailer.length tc) s.trailer * (ledP Q' gl m.owed * (sg m sA sc * (Q' * (flP g9 ⟨0, 0⟩ * (coderP g' c2 * F0)))))))))))))) := Lib.hid (s6.perm (by ac_rfl))
            have Z7 : Hid (Same w w7) := Lib.hid ((Z5.out.drew.then (Same.of ((Kept.refl (fun _ => False) w5.drew).alloc (.cells stepZero 74)))).then z6)
            have X6 := Lib.hid x6
            have K2 := Lib.hid (nxt_held (S7.out.perm (show _ = mb 84 g m gc gl sA sc (.slice (some ad) xs.length c) * (rcP g7 x * (itP g8 tt * (rrP g1 g * (pt w5.heap.size (.cells stepZero 74) * (owedP Q' (.pointer op) s.owed * (bytesP (.slice cA s.check.length cc) s.check * (bytesP (.slice tA s.trailer.length tc) s.trailer * (ledP Q' gl m.owed * (sg m sA sc * (Q' * (flP g9 ⟨0, 0⟩ * (coderP g' c2 * F0)))))))))))) by ac_rfl)))
            refine hK.out _ _ K2.out (fun hHeld => ?_)
            clear hK K hHeld2 s6 z6 x6 hcn
            try simp only [Act.put, List.setIfInBounds_toArray, List.set_cons_zero, List.set_cons_succ]
            refine wpAnyH_take (i := 13) (oi := ⟨some 57, .move (.tmp 70), 75, "tape.go:207", #[⟨12, .data⟩], none⟩) (v := ?_) rfl (by kernel_rfl) (by kernel_rfl) (by kernel_rfl) (fun _ _ _ h => h) (Or.inl ⟨by rfl, ?_⟩) (by assumption) ?_
            rotate_left
            · intro w hSw
              try dsimp only at hSw
              go_simp
              try with_reducible rfl
            try simp only [Act.put, List.setIfInBounds_toArray, List.set_cons_zero, List.set_cons_succ]
            refine wpAnyH_take (i := 14) (oi := ⟨some 71, .extract (.tmp 57) 0, 74, "tape.go:207", #[⟨13, .data⟩], none⟩) (v := ?_) rfl (by kernel_rfl) (by kernel_rfl) (by kernel_rfl) (fun _ _ _ h => h) (Or.inl ⟨by rfl, ?_⟩) (by assumption) ?_
            rotate_left
            · intro w hSw
              try dsimp only at hSw
              go_simp
              try with_reducible rfl
            try simp only [Act.put, List.setIfInBounds_toArray, List.set_cons_zero, List.set_cons_succ]
            refine wpAnyH_take (i := 15) (oi := ⟨some 72, .extract (.tmp 57) 1, 4, "tape.go:207", #[⟨13, .data⟩, ⟨17, .gcOnly .lateStores⟩], none⟩) (v := ?_) rfl (by kernel_rfl) (by kernel_rfl) (by kernel_rfl) (fun _ _ _ h => h) (Or.inl ⟨by rfl, ?_⟩) (by assumption) ?_
            rotate_left
            · intro w hSw
              try dsimp only at hSw
              go_simp
              try with_reducible rfl
            try simp only [Act.put, List.setIfInBounds_toArray, List.set_cons_zero, List.set_cons_succ]
            refine wpAnyH_ready (rs := [17]) (by kernel_rfl) (by simp) ?_
            refine AllReadyH.cons (o := ⟨none, .store 74 (.tmp 10) (.tmp 71), 0, "tape.go:207", #[⟨16, .data⟩, ⟨14, .data⟩, ⟨12, .chain⟩, ⟨0, .phase⟩, ⟨1, .phase⟩, ⟨2, .phase⟩, ⟨3, .phase⟩, ⟨4, .phase⟩, ⟨5, .phase⟩, ⟨6, .phase⟩, ⟨7, .phase⟩, ⟨8, .phase⟩, ⟨9, .phase⟩, ⟨10, .phase⟩, ⟨11, .phase⟩, ⟨12, .phase⟩, ⟨13, .phase⟩, ⟨14, .phase⟩, ⟨15, .textOnly .lateStores⟩, ⟨16, .phase⟩], none⟩) rfl (fun K hK => ?_) AllReadyH.nil
            have S8 : Hid (Sat _ (stp w5.heap.size g' op s (.slice (some (ad.add m.size)) (tt - m.size) (c - m.size)) (.slice cA s.check.length cc) (.slice tA s.trailer.length tc) * (mb 84 g m gc gl sA sc (.slice (some ad) xs.length c) * (rcP g7 x * (itP g8 tt * (rrP g1 g * (owedP Q' (.pointer op) s.owed * (bytesP (.slice cA s.check.length cc) s.check * (bytesP (.slice tA s.trailer.length tc) s.trailer * (ledP Q' gl m.owed * (sg m sA sc * (Q' * (flP g9 ⟨0, 0⟩ * (coderP g' c2 * F0)))))))))))))) := Lib.hid (sat_setRow (n := (stepCells g' (.pointer op) s.link (.slice (some (ad.add m.size)) (tt - m.size) (c - m.size)) (.slice cA s.check.length cc) (.slice tA s.trailer.length tc) s.ends)) S7.out)
            have K3 := Lib.hid (nxt_held (S8.out.perm (show _ = mb 84 g m gc gl sA sc (.slice (some ad) xs.length c) * (rcP g7 x * (itP g8 tt * (rrP g1 g * (stp w5.heap.size g' op s (.slice (some (ad.add m.size)) (tt - m.size) (c - m.size)) (.slice cA s.check.length cc) (.slice tA s.trailer.length tc) * (owedP Q' (.pointer op) s.owed * (bytesP (.slice cA s.check.length cc) s.check * (bytesP (.slice tA s.trailer.length tc) s.trailer * (ledP Q' gl m.owed * (sg m sA sc * (Q' * (flP g9 ⟨0, 0⟩ * (coderP g' c2 * F0)))))))))))) by ac_rfl)))
            refine step_store_row rfl 74 (.tmp 10) (.tmp 71) rfl w5.heap.size (stepCells g' (.pointer op) s.link (.slice (some (ad.add m.size)) (tt - m.size) (c - m.size)) (.slice cA s.check.length cc) (.slice tA s.trailer.length tc) s.ends) (by rfl) (by rfl) 74 stepZero S7.out.heap info_step (by rfl) (one_step _ _ _ _ _ _ _ _ _ _ _ _ _) ?_
            refine hK.out _ _ K3.out (fun hHeld2 => ?_)
            clear hK K hHeld
            try simp only [Act.put, List.setIfInBounds_toArray, List.set_cons_zero, List.set_cons_succ]
            refine wpAnyH_take (i := 18) (oi := ⟨some 11, .assign (.tmp 72), 4, "tape.go:207", #[⟨15, .data⟩, ⟨17, .chain⟩, ⟨0, .phase⟩, ⟨1, .phase⟩, ⟨2, .phase⟩, ⟨3, .phase⟩, ⟨4, .phase⟩, ⟨5, .phase⟩, ⟨6, .phase⟩, ⟨7, .phase⟩, ⟨8, .phase⟩, ⟨9, .phase⟩, ⟨10, .phase⟩, ⟨11, .phase⟩, ⟨12, .phase⟩, ⟨13, .phase⟩, ⟨14, .phase⟩, ⟨15, .phase⟩, ⟨16, .phase⟩, ⟨17, .phase⟩], none⟩) (v := ?_) rfl (by kernel_rfl) (by kernel_rfl) (by kernel_rfl) (fun _ _ _ h => h) (Or.inl ⟨by rfl, ?_⟩) (by assumption) ?_
            rotate_left
            · intro w hSw
              try dsimp only at hSw
              go_simp
              try with_reducible rfl
            try simp only [Act.put, List.setIfInBounds_toArray, List.set_cons_zero, List.set_cons_succ]
            refine wpAnyH_done (by kernel_rfl) ?_ _
            clear hHeld2
            go_wp2_with fail
            go_meet
            case rel => exact ⟨_, op, cA, cc, tA, tc, Q', rfl, rfl, X6.out, S8.out.perm (by ac_rfl), Z7.out.then (same_setRow _ _ _)⟩
        case rest =>
          rename World => w6
          obtain ⟨gA, op, cA, cc, tA, tc, Q', rfl, rfl, x6, s6, z6⟩ := hcut
          have S6 : Hid (Sat w6 (nxtP g9 g1 g8 g ⟨0, 0⟩ tt * (mb 84 g m gc gl sA sc (.slice (some ad) xs.length c) * (stp gA g' op s (.slice (some (ad.add m.size)) (tt - m.size) (c - m.size)) (.slice cA s.check.length cc) (.slice tA s.trailer.length tc) * (owedP Q' (.pointer op) s.owed * (bytesP (.slice cA s.check.length cc) s.check * (bytesP (.slice tA s.trailer.length tc) s.trailer * (ledP Q' gl m.owed * (sg m sA sc * (Q' * (rcP g7 x * (coderP g' c2 * F0)))))))))))) := Lib.hid (s6.perm (by rw [nxtP_eq]; ac_rfl))
          have hcl := check_len HM.out HSO.out HSK.out s6.right.right
          have Z6 := Lib.hid z6
          have X6 := Lib.hid x6
          clear s6 z6 x6 HADD S5 Z5 K0 l0 l1 hb1 hb2 hb3 hb4
          have HXI : Hid (RdIn (stp gA g' op s (.slice (some (ad.add m.size)) (tt - m.size) (c - m.size)) (.slice cA s.check.length cc) (.slice tA s.trailer.length tc) * (owedP Q' (.pointer op) s.owed * (bytesP (.slice cA s.check.length cc) s.check * (bytesP (.slice tA s.trailer.length tc) s.trailer * (ledP Q' gl m.owed * (sg m sA sc * (Q' * (rcP g7 x * (coderP g' c2 * F0))))))))) (some ad) (u8s xs)) := Lib.hid (Rv.RdIn.right (Rv.RdIn.right (Rv.RdIn.right (Rv.RdIn.right (Rv.RdIn.right (Rv.RdIn.right (Rv.RdIn.right (Rv.RdIn.right (Rv.RdIn.right HRD.out)))))))))
          have HCI : Hid (RdIn (stp gA g' op s (.slice (some (ad.add m.size)) (tt - m.size) (c - m.size)) (.slice cA s.check.length cc) (.slice tA s.trailer.length tc) * (owedP Q' (.pointer op) s.owed * (bytesP (.slice cA s.check.length cc) s.check * (bytesP (.slice tA s.trailer.length tc) s.trailer * (ledP Q' gl m.owed * (sg m sA sc * (Q' * (rcP g7 x * (coderP g' c2 * F0))))))))) cA (u8s s.check)) := Lib.hid (Rv.RdIn.right (Rv.RdIn.right (Rv.RdIn.left Rv.RdIn.row)))
          have HTI : Hid (RdIn (stp gA g' op s (.slice (some (ad.add m.size)) (tt - m.size) (c - m.size)) (.slice cA s.check.length cc) (.slice tA s.trailer.length tc) * (owedP Q' (.pointer op) s.owed * (bytesP (.slice cA s.check.length cc) s.check * (bytesP (.slice tA s.trailer.length tc) s.trailer * (ledP Q' gl m.owed * (sg m sA sc * (Q' * (rcP g7 x * (coderP g' c2 * F0))))))))) tA (u8s s.trailer)) := Lib.hid (Rv.RdIn.right (Rv.RdIn.right (Rv.RdIn.right (Rv.RdIn.left Rv.RdIn.row))))
          obtain ⟨⟨f1, t1⟩, hr1⟩ : ∃ y, takeF ⟨0, 0⟩ tt xs s.check 110 = y := ⟨_, rfl⟩
          obtain ⟨⟨f2, t2⟩, hr2⟩ : ∃ y, takeF f1 t1 xs s.trailer 111 = y := ⟨_, rfl⟩
          obtain ⟨ht1, hfin⟩ := mnext_take HEND.out HREC.out HGET.out HAS.out (by omega) hr1 hr2
          have HFIN := Lib.hid hfin
          have HT1 : Hid (Calls Tryz.prog 50 #[(.slice cA s.check.length cc), .int .i64 110, .pointer (some ⟨g9, 0, none⟩), .pointer (some ⟨g1, 0, none⟩), .pointer (some ⟨g8, 0, none⟩)] w6 fun e w' =>
              e = .returned (.tuple #[]) ∧ Sat w' (nxtP g9 g1 g8 g f1 t1 * (mb 84 g m gc gl sA sc (.slice (some ad) xs.length c) * (stp gA g' op s (.slice (some (ad.add m.size)) (tt - m.size) (c - m.size)) (.slice cA s.check.length cc) (.slice tA s.trailer.length tc) * (owedP Q' (.pointer op) s.owed * (bytesP (.slice cA s.check.length cc) s.check * (bytesP (.slice tA s.trailer.length tc) s.trailer * (ledP Q' gl m.owed * (sg m sA sc * (Q' * (rcP g7 x * (coderP g' c2 * F0))))))))))) ∧ Same w6 w') := Lib.hid (by
            have h1 := take_any 84 w6 (stp gA g' op s (.slice (some (ad.add m.size)) (tt - m.size) (c - m.size)) (.slice cA s.check.length cc) (.slice tA s.trailer.length tc) * (owedP Q' (.pointer op) s.owed * (bytesP (.slice cA s.check.length cc) s.check * (bytesP (.slice tA s.trailer.length tc) s.trailer * (ledP Q' gl m.owed * (sg m sA sc * (Q' * (rcP g7 x * (coderP g' c2 * F0))))))))) g9 g1 g8 g gc gl m.records m.size m.p m.link (.slice sA m.segment.length sc) ad c xs s.check cA cc 110 ⟨0, 0⟩ tt S6.out HXI.out HCI.out (by omega) hcap.1 hl (by omega) hcap.2
            rw [hr1] at h1
            exact h1)
          have HT2 : Hid (∀ w7, Sat w7 (nxtP g9 g1 g8 g f1 t1 * (mb 84 g m gc gl sA sc (.slice (some ad) xs.length c) * (stp gA g' op s (.slice (some (ad.add m.size)) (tt - m.size) (c - m.size)) (.slice cA s.check.length cc) (.slice tA s.trailer.length tc) * (owedP Q' (.pointer op) s.owed * (bytesP (.slice cA s.check.length cc) s.check * (bytesP (.slice tA s.trailer.length tc) s.trailer * (ledP Q' gl m.owed * (sg m sA sc * (Q' * (rcP g7 x * (coderP g' c2 * F0))))))))))) → Calls Tryz.prog 50 #[(.slice tA s.trailer.length tc), .int .i64 111, .pointer (some ⟨g9, 0, none⟩), .pointer (some ⟨g1, 0, none⟩), .pointer (some ⟨g8, 0, none⟩)] w7 fun e w' =>
              e = .returned (.tuple #[]) ∧ Sat w' (nxtP g9 g1 g8 g f2 t2 * (mb 84 g m gc gl sA sc (.slice (some ad) xs.length c) * (stp gA g' op s (.slice (some (ad.add m.size)) (tt - m.size) (c - m.size)) (.slice cA s.check.length cc) (.slice tA s.trailer.length tc) * (owedP Q' (.pointer op) s.owed * (bytesP (.slice cA s.check.length cc) s.check * (bytesP (.slice tA s.trailer.length tc) s.trailer * (ledP Q' gl m.owed * (sg m sA sc * (Q' * (rcP g7 x * (coderP g' c2 * F0))))))))))) ∧ Same w7 w') := Lib.hid (fun w7 h7 => by
            have h1 := take_any 84 w7 (stp gA g' op s (.slice (some (ad.add m.size)) (tt - m.size) (c - m.size)) (.slice cA s.check.length cc) (.slice tA s.trailer.length tc) * (owedP Q' (.pointer op) s.owed * (bytesP (.slice cA s.check.length cc) s.check * (bytesP (.slice tA s.trailer.length tc) s.trailer * (ledP Q' gl m.owed * (sg m sA sc * (Q' * (rcP g7 x * (coderP g' c2 * F0))))))))) g9 g1 g8 g gc gl m.records m.size m.p m.link (.slice sA m.segment.length sc) ad c xs s.trailer tA tc 111 f1 t1 h7 HXI.out HTI.out ht1 hcap.1 hl hst hcap.2
            rw [hr2] at h1
            exact h1)
          clear hr1 hr2 hfin ht1
          obtain ⟨y0, y1, y2, y3, y4, y5, y6, y7, y8, y9⟩ := stp_facts S6.out.right.right
          go_wp2_with fail
          refine HT1.out.mono ?_
          rintro e w7 ⟨rfl, s7, z7⟩
          have S7 := Lib.hid s7
          have Z7 := Lib.hid (Z6.out.then z7)
          clear s7 z7 S6 Z6 HT1 y0 y1 y2 y3 y4 y5 y6 y7 y8 y9
          obtain ⟨y0, y1, y2, y3, y4, y5, y6, y7, y8, y9⟩ := stp_facts S7.out.right.right
          go_wp2_with fail
          refine (HT2.out w7 S7.out).mono ?_
          rintro e w8 ⟨rfl, s8, z8⟩
          have S8 := Lib.hid s8
          have Z8 := Lib.hid (Z7.out.then z8)
          clear s8 z8 S7 Z7 HT2 y0 y1 y2 y3 y4 y5 y6 y7 y8 y9 HXI HCI HTI
          have S8 : Hid (Sat w8 (flP g9 f2 * (mb 84 g m gc gl sA sc (.slice (some ad) xs.length c) * (itP g8 t2 * (rrP g1 g * (stp gA g' op s (.slice (some (ad.add m.size)) (tt - m.size) (c - m.size)) (.slice cA s.check.length cc) (.slice tA s.trailer.length tc) * (owedP Q' (.pointer op) s.owed * (bytesP (.slice cA s.check.length cc) s.check * (bytesP (.slice tA s.trailer.length tc) s.trailer * (ledP Q' gl m.owed * (sg m sA sc * (Q' * (rcP g7 x * (coderP g' c2 * F0)))))))))))))) := Lib.hid (S8.out.perm (by rw [nxtP_eq]; ac_rfl))
          obtain ⟨l0, l1⟩ := flt_facts S8.out
          rcases HFIN.out with ⟨hf2, hcx, hnx⟩ | ⟨hf2, hnx⟩
          · have e4 : (f2.code != 0) = false := by rw [hf2]; rfl
            obtain rfl := hnx.symm.trans HRES.out
            have HCN : Hid (cA = none → cc = 0) := Lib.hid (bytesP_own (S8.out.right.right.right.right.right.right)).nilcap
            have HDN : Hid (∀ wx, Sat wx (mb 84 g m gc gl sA sc (.slice (some ad) xs.length c) * (owedP Q' (.pointer op) s.owed * (ledP Q' gl m.owed * (sg m sA sc * (coderP g' c2 * (Q' * (stp gA g' op s (.slice (some (ad.add m.size)) (tt - m.size) (c - m.size)) (.slice cA s.check.length cc) (.slice tA s.trailer.length tc) * (flP g9 f2 * (itP g8 t2 * (rrP g1 g * (bytesP (.slice cA s.check.length cc) s.check * (bytesP (.slice tA s.trailer.length tc) s.trailer * (rcP g7 x * F0))))))))))))) → Calls Tryz.prog 25 #[.pointer (some ⟨g, 0, none⟩), .agg #[.int .i64 x.tick, .string x.key, .int .i64 x.cost, .int .i64 x.verdict], .agg (stepCells g' (.pointer op) s.link (.slice (some (ad.add m.size)) (tt - m.size) (c - m.size)) (.slice cA s.check.length cc) (.slice tA s.trailer.length tc) s.ends)] wx (DoneRes 84 Q' (stp gA g' op s (.slice (some (ad.add m.size)) (tt - m.size) (c - m.size)) (.slice cA s.check.length cc) (.slice tA s.trailer.length tc) * (flP g9 f2 * (itP g8 t2 * (rrP g1 g * (bytesP (.slice cA s.check.length cc) s.check * (bytesP (.slice tA s.trailer.length tc) s.trailer * (rcP g7 x * F0))))))) wx g (m.done x s) (.slice (some ad) xs.length c))) :=
              Lib.hid fun wx h => by
                have h1 := done_step 84 wx Q' (stp gA g' op s (.slice (some (ad.add m.size)) (tt - m.size) (c - m.size)) (.slice cA s.check.length cc) (.slice tA s.trailer.length tc) * (flP g9 f2 * (itP g8 t2 * (rrP g1 g * (bytesP (.slice cA s.check.length cc) s.check * (bytesP (.slice tA s.trailer.length tc) s.trailer * (rcP g7 x * F0))))))) g gc gl g' m x s sA (some (ad.add m.size)) cA tA op sc (c - m.size) cc tc (.slice (some ad) xs.length c) HM.out (by rw [HSC.out]; exact h)
                  (by rw [HSP.out]; exact Rv.RdIn.right (Rv.RdIn.right (Rv.RdIn.right (Rv.RdIn.right (Rv.RdIn.right (Rv.RdIn.right (Rv.RdIn.right HRP.out))))))) (by simp) (Rv.RdIn.right (Rv.RdIn.right (Rv.RdIn.right (Rv.RdIn.right (Rv.RdIn.left Rv.RdIn.row))))) HCN.out (by rw [HSL.out]; omega) (by omega) hst HXR.out HXT.out
                rw [HSL.out] at h1
                exact h1
            have S8b : Hid (Sat w8 (rrP g1 g * (rcP g7 x * (stp gA g' op s (.slice (some (ad.add m.size)) (tt - m.size) (c - m.size)) (.slice cA s.check.length cc) (.slice tA s.trailer.length tc) * (mb 84 g m gc gl sA sc (.slice (some ad) xs.length c) * (owedP Q' (.pointer op) s.owed * (ledP Q' gl m.owed * (sg m sA sc * (coderP g' c2 * (Q' * (flP g9 f2 * (itP g8 t2 * (bytesP (.slice cA s.check.length cc) s.check * (bytesP (.slice tA s.trailer.length tc) s.trailer * F0)))))))))))))) := Lib.hid (S8.out.perm (by ac_rfl))
            have K0 := Lib.hid (And.intro ((cells_of S8b.out.heap 0).trans rfl : w8.cell? ⟨g1, 0, none⟩ = some (.pointer (some ⟨g, 0, none⟩))) (And.intro (rec_facts S8b.out.right) (stp_facts S8b.out.right.right)))
            clear HRES HFIN hf2 hnx hcl
            go_upto_region 16 with (fail)
            refine wp_region_held_drew (S := fun w => w.cell? ⟨g1, 0, none⟩ = some (.pointer (some ⟨g, 0, none⟩)) ∧ (w.cell? ⟨g7, 0, none⟩ = some (.int .i64 x.tick) ∧ w.cell? ⟨g7, 1, none⟩ = some (.string x.key) ∧ w.cell? ⟨g7, 2, none⟩ = some (.int .i64 x.cost) ∧ w.cell? ⟨g7, 3, none⟩ = some (.int .i64 x.verdict)) ∧ (w.cell? ⟨gA, 0, none⟩ = some (.pointer (some ⟨g', 0, none⟩)) ∧ w.cell? ⟨gA, 1, none⟩ = some (.pointer op) ∧ w.cell? ⟨gA, 2, none⟩ = some (.int .i64 s.link.number) ∧ w.cell? ⟨gA, 3, none⟩ = some (.int .i64 s.link.bytes) ∧ w.cell? ⟨gA, 4, none⟩ = some (.int .i64 s.link.sl.re) ∧ w.cell? ⟨gA, 5, none⟩ = some (.int .i64 s.link.sl.im) ∧ w.cell? ⟨gA, 6, none⟩ = some (.slice (some (ad.add m.size)) (tt - m.size) (c - m.size)) ∧ w.cell? ⟨gA, 7, none⟩ = some (.slice cA s.check.length cc) ∧ w.cell? ⟨gA, 8, none⟩ = some (.slice tA s.trailer.length tc) ∧ w.cell? ⟨gA, 9, none⟩ = some (.bool s.ends))) (by kernel_rfl) K0.out (fun hHeld => ?_)
            refine wpAnyH_take (i := 0) (oi := ⟨some 87, .load 78 (.tmp 1), 78, "tape.go:222", #[], none⟩) (v := ?_) rfl (by kernel_rfl) (by kernel_rfl) (by kernel_rfl) (fun _ _ _ h => h) (Or.inl ⟨by rfl, ?_⟩) (by assumption) ?_
            rotate_left
            · intro w hSw
              try dsimp only at hSw
              go_simp
              try with_reducible rfl
            try simp only [Act.put, List.setIfInBounds_toArray, List.set_cons_zero, List.set_cons_succ]
            refine wpAnyH_take (i := 1) (oi := ⟨some 88, .nilCheck (.tmp 87), 0, "tape.go:222", #[⟨0, .data⟩], none⟩) (v := ?_) rfl (by kernel_rfl) (by kernel_rfl) (by kernel_rfl) (fun _ _ _ h => h) (Or.inl ⟨by rfl, ?_⟩) (by assumption) ?_
            rotate_left
            · intro w hSw
              try dsimp only at hSw
              go_simp
              try with_reducible rfl
            try simp only [Act.put, List.setIfInBounds_toArray, List.set_cons_zero, List.set_cons_succ]
            refine wpAnyH_take (i := 2) (oi := ⟨some 89, .fieldAddr 84 (.tmp 88) 0, 0, "tape.go:222", #[⟨1, .data⟩], none⟩) (v := ?_) rfl (by kernel_rfl) (by kernel_rfl) (by kernel_rfl) (fun _ _ _ h => h) (Or.inl ⟨by rfl, ?_⟩) (by assumption) ?_
            rotate_left
            · intro w hSw
              try dsimp only at hSw
              go_simp
              try with_reducible rfl
            try simp only [Act.put, List.setIfInBounds_toArray, List.set_cons_zero, List.set_cons_succ]
            refine wpAnyH_take (i := 3) (oi := ⟨some 90, .load 44 (.tmp 7), 44, "tape.go:222", #[], none⟩) (v := ?_) rfl (by kernel_rfl) (by kernel_rfl) (by kernel_rfl) (fun _ _ _ h => h) (Or.inl ⟨by rfl, ?_⟩) (by assumption) ?_
            rotate_left
            · intro w hSw
              try dsimp only at hSw
              go_simp
              try with_reducible rfl
            try simp only [Act.put, List.setIfInBounds_toArray, List.set_cons_zero, List.set_cons_succ]
            refine wpAnyH_take (i := 4) (oi := ⟨some 91, .load 74 (.tmp 10), 74, "tape.go:222", #[], none⟩) (v := ?_) rfl (by kernel_rfl) (by kernel_rfl) (by kernel_rfl) (fun _ _ _ h => h) (Or.inl ⟨by rfl, ?_⟩) (by assumption) ?_
            rotate_left
            · intro w hSw
              try dsimp only at hSw
              go_simp
              try with_reducible rfl
            try simp only [Act.put, List.setIfInBounds_toArray, List.set_cons_zero, List.set_cons_succ]
            refine wpAnyH_ready (rs := [5]) (by kernel_rfl) (by simp) ?_
            refine AllReadyH.cons (o := ⟨some 92, .call { callee := .value (.func 25), args := #[.tmp 89, .tmp 90, .tmp 91], argTypes := #[65, 44, 74] }, 0, "tape.go:222", #[⟨2, .data⟩, ⟨3, .data⟩, ⟨4, .data⟩], none⟩) rfl (fun K hK => ?_) AllReadyH.nil
            go_simp
            refine (HDN.out w8.drew (S8.out.drew.perm (by ac_rfl))).mono ?_
            rintro e w9 ⟨rfl, Q2, x9, s9, z9⟩
            have S9 : Hid (Sat w9 (rrP g1 g * (rcP g7 x * (stp gA g' op s (.slice (some (ad.add m.size)) (tt - m.size) (c - m.size)) (.slice cA s.check.length cc) (.slice tA s.trailer.length tc) * (mkrP 84 Q2 g (m.done x s) (.slice (some ad) xs.length c) * (Q2 * (flP g9 f2 * (itP g8 t2 * (bytesP (.slice cA s.check.length cc) s.check * (bytesP (.slice tA s.trailer.length tc) s.trailer * F0)))))))))) := Lib.hid (s9.perm (by ac_rfl))
            have Z9 := Lib.hid (Z8.out.drew.then z9)
            have X9 := Lib.hid (X6.out.then x9)
            have K1 := Lib.hid (And.intro ((cells_of S9.out.heap 0).trans rfl) (And.intro (rec_facts S9.out.right) (stp_facts S9.out.right.right)))
            refine hK.out _ _ K1.out (fun hHeld2 => ?_)
            clear hK K hHeld s9 z9 x9
            try simp only [Act.put, List.setIfInBounds_toArray, List.set_cons_zero, List.set_cons_succ]
            refine wpAnyH_done (by kernel_rfl) ?_ _
            clear hHeld2
            have ZR : Hid (Sat w9 (rzP g2 * (flP g4 ⟨0, 0⟩ * (rcP g7 x * (mkrP 84 Q2 g (m.done x s) (.slice (some ad) xs.length c) * (bytesP (.slice (some ad) xs.length c) xs * (Q2 * R))))))) := Lib.hid ((S9.out.perm (show _ = rrP g1 g * (stp gA g' op s (.slice (some (ad.add m.size)) (tt - m.size) (c - m.size)) (.slice cA s.check.length cc) (.slice tA s.trailer.length tc) * (flP g9 f2 * (itP g8 t2 * (bytesP (.slice cA s.check.length cc) s.check * (bytesP (.slice tA s.trailer.length tc) s.trailer * (coderP gc m.coder * (rzP g2 * (flP g4 ⟨0, 0⟩ * (rcP g7 x * (mkrP 84 Q2 g (m.done x s) (.slice (some ad) xs.length c) * (bytesP (.slice (some ad) xs.length c) xs * (Q2 * R)))))))))))) by rw [← HF0.out]; ac_rfl)).right.right.right.right.right.right.right)
            obtain ⟨T1, T2, T3⟩ := two_sets (n2 := recCells x) (n4 := fltCells ⟨0, 0⟩) ZR.out
            have T1 := Lib.hid T1
            have T2 := Lib.hid T2
            have T3 := Lib.hid T3
            have q7 := Lib.hid ZR.out.third.heap
            clear S9 K1 K0
            go_wp2_with (first
              | ((with_reducible refine at_slot 93 ?_); refine wpList_load_row rfl 44 (.tmp 7) rfl g7 (by rfl) 44 (recCells x) (0, 0) _ q7.out Tryz.underlying44 (by rfl) info_rec ?_)
              | ((with_reducible refine at_store 44 2 93 ?_); refine wpList_store_row rfl 44 (.tmp 2) (.tmp 93) rfl g2 (recCells x) (by rfl) (by rfl) 44 recZero ZR.out.heap info_rec (by rfl) (one_rec x) ?_; simp only [Act.put])
              | ((with_reducible refine at_store 27 4 94 ?_); refine wpList_store_row rfl 27 (.tmp 4) (.tmp 94) rfl g4 (fltCells ⟨0, 0⟩) (by rfl) (by rfl) 27 (fltCells ⟨0, 0⟩) T1.out.swap.heap info_flt (by rfl) (one_flt _) ?_; simp only [Act.put]))
            exact bodyPost_ret (results_ctc Tryz.results27 _ _ g2 g4 44 27 (recCells x) (fltCells ⟨0, 0⟩) (0, 0) (0, 0) _ _ (.bool true) (by rfl) (by rfl) (by rfl) T2.out.heap T2.out.swap.heap Tryz.underlying44 (by rfl) info_rec Tryz.underlying27 (by rfl) info_flt) rfl
              ⟨rfl, Q2, X9.out, rdrP_shut (A := some ad) (c := c) T2.out.right.right.right, Z9.out.then T3.out⟩
          · have e4 : (f2.code != 0) = true := by simpa using hf2
            obtain rfl := hnx.symm.trans HRES.out
            have K0 := Lib.hid (And.intro l0 l1)
            have ZR : Hid (Sat w8.drew (rzP g2 * (flP g4 ⟨0, 0⟩ * (flP g9 f2 * (mb 84 g m gc gl sA sc (.slice (some ad) xs.length c) * (itP g8 t2 * (rrP g1 g * (stp gA g' op s (.slice (some (ad.add m.size)) (tt - m.size) (c - m.size)) (.slice cA s.check.length cc) (.slice tA s.trailer.length tc) * (owedP Q' (.pointer op) s.owed * (bytesP (.slice cA s.check.length cc) s.check * (bytesP (.slice tA s.trailer.length tc) s.trailer * (ledP Q' gl m.owed * (sg m sA sc * (Q' * (rcP g7 x * (coderP g' c2 * (bytesP (.slice (some ad) xs.length c) xs * (coderP gc m.coder * R)))))))))))))))))) := Lib.hid (S8.out.drew.perm (by rw [← HF0.out]; ac_rfl))
            obtain ⟨T1, T2, T3⟩ := two_sets (n2 := recZero) (n4 := fltCells f2) ZR.out
            have T1 := Lib.hid T1
            have T2 := Lib.hid T2
            have T3 := Lib.hid T3
            clear HRES HFIN hf2 hnx hcl hst S8
            go_upto_region 15 with (fail)
            refine wp_region_held_drew (S := fun w' => w'.cell? ⟨g9, 0, none⟩ = some (.int .i64 f2.code) ∧ w'.cell? ⟨g9, 1, none⟩ = some (.int .i64 f2.at_)) (by kernel_rfl) K0.out (fun hHeld => ?_)
            refine wpAnyH_take (i := 0) (oi := ⟨some 85, .build 44 #[], 44, "tape.go:220", #[], none⟩) (v := ?_) rfl (by kernel_rfl) (by kernel_rfl) (by kernel_rfl) (fun _ _ _ h => h) (Or.inl ⟨by rfl, ?_⟩) (by assumption) ?_
            rotate_left
            · intro w hSw
              try dsimp only at hSw
              go_simp
              try with_reducible rfl
            try simp only [Act.put, List.setIfInBounds_toArray, List.set_cons_zero, List.set_cons_succ]
            refine wpAnyH_take (i := 1) (oi := ⟨some 86, .load 27 (.tmp 9), 27, "tape.go:220", #[⟨3, .gcOnly .lateStores⟩], none⟩) (v := ?_) rfl (by kernel_rfl) (by kernel_rfl) (by kernel_rfl) (fun _ _ _ h => h) (Or.inl ⟨by rfl, ?_⟩) (by assumption) ?_
            rotate_left
            · intro w hSw
              try dsimp only at hSw
              go_simp
              try with_reducible rfl
            try simp only [Act.put, List.setIfInBounds_toArray, List.set_cons_zero, List.set_cons_succ]
            refine wpAnyH_ready (rs := [2]) (by kernel_rfl) (by simp) ?_
            refine AllReadyH.cons (o := ⟨none, .store 44 (.tmp 2) (.tmp 85), 0, "tape.go:220", #[⟨0, .data⟩, ⟨0, .phase⟩, ⟨1, .textOnly .lateStores⟩], none⟩) rfl (fun K hK => ?_) AllReadyH.nil
            have K1 := Lib.hid (flt_facts T1.out.third)
            refine step_store_row rfl 44 (.tmp 2) (.tmp 85) rfl g2 recZero (by rfl) (by rfl) 44 recZero ZR.out.heap info_rec (by rfl) one_rec0 ?_
            refine hK.out _ _ K1.out (fun hHeld2 => ?_)
            clear hK K hHeld
            try simp only [Act.put, List.setIfInBounds_toArray, List.set_cons_zero, List.set_cons_succ]
            refine wpAnyH_take (i := 3) (oi := ⟨some 3, .assign (.const (.bool false)), 4, "tape.go:220", #[⟨2, .chain⟩, ⟨0, .phase⟩, ⟨1, .textOnly .lateStores⟩, ⟨2, .phase⟩], none⟩) (v := ?_) rfl (by kernel_rfl) (by kernel_rfl) (by kernel_rfl) (fun _ _ _ h => h) (Or.inl ⟨by rfl, ?_⟩) (by assumption) ?_
            rotate_left
            · intro w hSw
              try dsimp only at hSw
              go_simp
              try with_reducible rfl
            try simp only [Act.put, List.setIfInBounds_toArray, List.set_cons_zero, List.set_cons_succ]
            refine wpAnyH_ready (rs := [4]) (by kernel_rfl) (by simp) ?_
            refine AllReadyH.cons (o := ⟨none, .store 27 (.tmp 4) (.tmp 86), 0, "tape.go:220", #[⟨1, .data⟩, ⟨3, .chain⟩, ⟨0, .phase⟩, ⟨1, .phase⟩, ⟨2, .phase⟩, ⟨3, .phase⟩], none⟩) rfl (fun K hK => ?_) AllReadyH.nil
            have K2 := Lib.hid (flt_facts T2.out.third)
            refine step_store_row rfl 27 (.tmp 4) (.tmp 86) rfl g4 (fltCells f2) (by rfl) (by rfl) 27 (fltCells ⟨0, 0⟩) T1.out.swap.heap info_flt (by rfl) (one_flt _) ?_
            refine hK.out _ _ K2.out (fun hHeld => ?_)
            clear hK K hHeld2
            try simp only [Act.put, List.setIfInBounds_toArray, List.set_cons_zero, List.set_cons_succ]
            refine wpAnyH_done (by kernel_rfl) ?_ _
            clear hHeld
            go_wp2_with fail
            exact bodyPost_ret (results_ctc Tryz.results27 _ _ g2 g4 44 27 recZero (fltCells f2) (0, 0) (0, 0) _ _ (.bool false) (by rfl) (by rfl) (by rfl) T2.out.heap T2.out.swap.heap Tryz.underlying44 (by rfl) info_rec Tryz.underlying27 (by rfl) info_flt) rfl
              ⟨rfl, Q', X6.out, rdr_fold (gc := gc) (gl := gl) (sA := sA) (sc := sc) (A := some ad) (c := c) ((T2.out.right.right.right).perm (show _ = itP g8 t2 * (rrP g1 g * (stp gA g' op s (.slice (some (ad.add m.size)) (tt - m.size) (c - m.size)) (.slice cA s.check.length cc) (.slice tA s.trailer.length tc) * (owedP Q' (.pointer op) s.owed * (bytesP (.slice cA s.check.length cc) s.check * (bytesP (.slice tA s.trailer.length tc) s.trailer * (rcP g7 x * (coderP g' c2 * (mb 84 g m gc gl sA sc (.slice (some ad) xs.length c) * (ledP Q' gl m.owed * (sg m sA sc * (coderP gc m.coder * (bytesP (.slice (some ad) xs.length c) xs * (Q' * R))))))))))))) by ac_rfl)).right.right.right.right.right.right.right.right, Z8.out.drew.then T3.out⟩
end Go.Proofs.YtcmndglhileeoaaGreat
