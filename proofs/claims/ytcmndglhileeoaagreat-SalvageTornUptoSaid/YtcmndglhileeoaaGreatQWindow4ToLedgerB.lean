/- A part of the proof: its texts in a row: Window4, LedgerA, LedgerB. Each text's own remark stands at its head. -/
import Derived.Test.YtcmndglhileeoaaGreatQIndexFuncToWindow3
/- The walks of package window: Take. -/
set_option linter.unusedSimpArgs false
set_option linter.unusedVariables false
namespace Go.Proofs.YtcmndglhileeoaaGreat
open Go.RowKit
open Rv (HP Sat Same pt allOf sat_all RdIn row own)

/-- A store into a row of one's own. -/
theorem sat_row_set {w : World} {R : HP} {e : TypeId} {g n c : Nat} {vs : List Value} (h : Sat w (row e (.slice (some ⟨g, 0, none⟩) n c) vs * R)) (i : Nat) (hi : i < vs.length) (u : Value) : Sat (w.setCell ⟨g, i, none⟩ u) (row e (.slice (some ⟨g, 0, none⟩) n c) (vs.set i u) * R) :=
  h.row_turn (Kept.setCell (Kept.refl _ _) _ _ (.inl rfl)) ((Rv.Sat.row_own h).set i hi u) (fun k hk => .inl hk)
theorem row_cell {w : World} {R : HP} {e : TypeId} {g n c : Nat} {vs : List Value} (h : Sat w (row e (.slice (some ⟨g, 0, none⟩) n c) vs * R)) (i : Nat) (u : Value) (hu : vs[i]? = some u) : w.cell? ⟨g, i, none⟩ = some u ∧ w.frozen? ⟨g, i, none⟩ = false := by
  have ho := Rv.Sat.row_own h
  obtain ⟨A, c', he, -, -, hr⟩ := ho.shape
  injection he with h1 h2 h3
  subst h1
  obtain ⟨ad, e', hc⟩ := hr i u hu
  cases e'
  rw [add_zero_off] at hc
  obtain ⟨g', cur, e2, -, -, hg, -⟩ := ho.row (by have := (List.getElem?_eq_some_iff.1 hu).1; omega)
  cases e2
  exact ⟨hc, frozen_of hg i⟩

set_option maxHeartbeats 4000000 in
set_option maxRecDepth 100000 in
theorem wtake_any (R : HP) (p : Rv.Pol) (s : Rv.Sums) (cost : Int) (A : Option Addr) (c : Nat) (w : World) (hR : Sat w R) (hr : RdIn R A (s.l.map intI)) (hnil : A = none → c = 0) (hs : SOk p s) (h : p.ok = true) (hk : p.kind = 2) (hc : Rv.costOk cost = true) :
    Calls Tryz.prog 216 #[.agg (polCells p), sumsV s A c, .int .i64 cost] w (MoveRes R w (Rv.takeW p s cost)) := by
  have hcb : 1 ≤ cost ∧ cost ≤ 1048576 := by simpa [Rv.costOk, Rv.inB] using hc
  have Hc := Lib.hid hc
  have Hok := Lib.hid h
  have Hk := Lib.hid hk
  have Hs := Lib.hid hs
  have Hr := Lib.hid hr
  have Hnil := Lib.hid hnil
  have hlen := Lib.hid hs.len
  obtain ⟨-, -, q1, q2⟩ := width_ok h hk
  obtain ⟨k, hkk⟩ : ∃ k : Nat, k + 1 = s.l.length := ⟨s.l.length - 1, by have := hs.len; omega⟩
  obtain ⟨x, hx⟩ := some_at (xs := s.l) (i := k) (by omega)
  have hxb := hs.all x (List.mem_of_getElem? hx)
  have HX : Hid (Rv.takeW p s cost = ⟨s.grid, s.l.set k (min (x + cost) 1099511627776)⟩) := Lib.hid (by
    unfold Rv.takeW
    rw [hs.counts]
    have e : (p.count - 1).toNat = k := by have := hs.len; omega
    simp only [e, List.getD, hx, Option.getD_some])
  have Hx := Lib.hid hx
  have S0 := Lib.hid (((hR.alloc (.cells (polCells p) 33)).alloc (.cells #[.int .i64 s.grid, .slice A s.l.length c] 224)).alloc (.cells #[.int .i64 0, .slice none 0 0] 224))
  have Z0 : Hid (Same w (((w.alloc (.cells (polCells p) 33)).alloc (.cells #[.int .i64 s.grid, .slice A s.l.length c] 224)).alloc (.cells #[.int .i64 0, .slice none 0 0] 224))) := Lib.hid (Same.of ((((Kept.refl (fun _ => False) w).alloc _).alloc _).alloc _))
  clear h hk hR hs hr hnil hx hc
  go_enter Tryz.func216, Tryz.ntmps216
  go_upto_region 1 with (fail)
  obtain ⟨w0, hw0⟩ : ∃ w0, w0 = ((w.alloc (.cells (polCells p) 33)).alloc (.cells #[.int .i64 s.grid, .slice A s.l.length c] 224)).alloc (.cells #[.int .i64 0, .slice none 0 0] 224) := ⟨_, rfl⟩
  change Code.wp _ _ _ _ (((w.alloc (.cells (polCells p) 33)).alloc (.cells #[.int .i64 s.grid, .slice A s.l.length c] 224)).alloc (.cells #[.int .i64 0, .slice none 0 0] 224))
  rw [← hw0] at S0 Z0 ⊢
  simp only [World.size_alloc] at S0
  clear hw0
  generalize w.heap.size + 1 + 1 = g6 at *
  generalize w.heap.size + 1 = g4 at *
  generalize w.heap.size = g3 at *
  have q3 := Lib.hid S0.out.right.right.heap
  go_wp2_with ((with_reducible refine at_slot 8 ?_); refine wpList_load_row rfl 33 (.tmp 3) rfl g3 (by rfl) 33 (polCells p) (0, 0) _ q3.out Tryz.underlying33 (by rfl) info_pol ?_)
  refine (wmeans_yes p _ Hok.out Hk.out).mono ?_
  rintro e w1 ⟨rfl, b1⟩
  have S1 := Lib.hid (S0.out.below b1)
  have Z1 := Lib.hid (Z0.out.then (Rv.Same.below b1))
  clear b1 S0 Z0 q3
  have q3 := Lib.hid S1.out.right.right.heap
  have q4 := Lib.hid S1.out.right.heap
  go_wp2_with (first | ((with_reducible refine at_slot 12 ?_); refine wpList_load_row rfl 33 (.tmp 3) rfl g3 (by rfl) 33 (polCells p) (0, 0) _ q3.out Tryz.underlying33 (by rfl) info_pol ?_) | ((with_reducible refine at_slot 13 ?_); refine wpList_load_row rfl 224 (.tmp 4) rfl g4 (by rfl) 224 #[.int .i64 s.grid, .slice A s.l.length c] (0, 0) _ q4.out Tryz.underlying224 (by rfl) info_sums ?_))
  refine (counts_any _ p s A c w1 S1.out (Rv.RdIn.right (Rv.RdIn.right (Rv.RdIn.right Hr.out))) Hnil.out Hs.out Hok.out Hk.out).mono ?_
  rintro e w2 ⟨B, C, rfl, s2, z2⟩
  have S2 := Lib.hid s2
  have Z2 := Lib.hid (Z1.out.then z2)
  clear s2 z2 S1 Z1 q3 q4
  obtain ⟨gb, cur, rfl, -⟩ := (Rv.Sat.row_own S2.out).row (by simp; omega)
  have q4 := Lib.hid S2.out.right.right.heap
  go_upto_region 4 with ((with_reducible refine at_store 224 4 14 ?_); refine wpList_store_row rfl 224 (.tmp 4) (.tmp 14) rfl g4 #[.int .i64 s.grid, .slice (some ⟨gb, 0, none⟩) s.l.length C] (by rfl) (by rfl) 224 #[.int .i64 s.grid, .slice A s.l.length c] q4.out info_sums (by rfl) (by simp [Value.oneCell']) ?_)
  have S3 : Hid (Sat (w2.setRow g4 #[.int .i64 s.grid, .slice (some ⟨gb, 0, none⟩) s.l.length C]) (pt g4 (.cells #[.int .i64 s.grid, .slice (some ⟨gb, 0, none⟩) s.l.length C] 224) * (intsP (.slice (some ⟨gb, 0, none⟩) s.l.length C) s.l * (pt g6 (.cells #[.int .i64 0, .slice none 0 0] 224) * (pt g3 (.cells (polCells p) 33) * R))))) := Lib.hid (sat_setRow (S2.out.perm (show _ = pt g4 (.cells #[.int .i64 s.grid, .slice A s.l.length c] 224) * (intsP (.slice (some ⟨gb, 0, none⟩) s.l.length C) s.l * (pt g6 (.cells #[.int .i64 0, .slice none 0 0] 224) * (pt g3 (.cells (polCells p) 33) * R))) by ac_rfl)))
  have Z3 : Hid (Same w (w2.setRow g4 #[.int .i64 s.grid, .slice (some ⟨gb, 0, none⟩) s.l.length C])) := Lib.hid (Z2.out.then (same_setRow _ _ _))
  clear S2 Z2 q4
  generalize w2.setRow g4 #[.int .i64 s.grid, .slice (some ⟨gb, 0, none⟩) s.l.length C] = w3 at *
  go_wp2_with fail
  refine (wmay_yes cost Hc.out w3).mono ?_
  rintro e w' ⟨rfl, rfl⟩
  have d1 : w3.cell? ⟨g4, 1, none⟩ = some (.slice (some ⟨gb, 0, none⟩) s.l.length C) := (sums_cells S3.out.heap).2.1
  have d5 : w3.cell? ⟨g3, 5, none⟩ = some (.int .i64 p.count) := (cells_of S3.out.right.right.right.heap 5).trans rfl
  have hw1 : IntKind.i64.wrap (p.count - 1) = (k : Int) := by rw [IntWalk.i64_in _ (by omega)]; have := hlen.out; omega
  have hw2 : IntKind.i64.wrap (x + cost) = x + cost := IntWalk.i64_in _ (by omega)
  obtain ⟨d2, f2⟩ := row_cell S3.out.right.left.one k (intI x) (by simp [Hx.out])
  have hkl : (k : Int) < (s.l.length : Int) := by omega
  have hcm : p.count - 1 = (k : Int) := by have := hlen.out; omega
  go_upto_region 6 with (fail)
  have k6 := Lib.hid (show True from trivial)
  by_cases hm : x + cost ≤ 1099511627776
  · have HY : Hid (Rv.takeW p s cost = ⟨s.grid, s.l.set k (x + cost)⟩) := Lib.hid (by rw [HX.out]; congr 2; omega)
    have hm2 : ¬ 1099511627776 < x + cost := by omega
    go_upto_region 7 with (fail)
    have S5 : Hid (Sat (w3.setCell ⟨gb, k, none⟩ (intI (x + cost))) (intsP (.slice (some ⟨gb, 0, none⟩) s.l.length C) (s.l.set k (x + cost)) * (pt g4 (.cells #[.int .i64 s.grid, .slice (some ⟨gb, 0, none⟩) s.l.length C] 224) * (pt g6 (.cells #[.int .i64 0, .slice none 0 0] 224) * (pt g3 (.cells (polCells p) 33) * R))))) := Lib.hid (by
      have := sat_row_set S3.out.swap k (by simp; omega) (intI (x + cost))
      unfold intsP
      rw [List.map_set]
      exact this)
    have Z5 : Hid (Same w (w3.setCell ⟨gb, k, none⟩ (intI (x + cost)))) := Lib.hid (Z3.out.then (Kept.setCell (Kept.refl _ _) _ _ (.inl trivial)))
    clear S3 Z3 d1 d5 d2 f2
    generalize (w3.setCell ⟨gb, k, none⟩ (intI (x + cost))) = w5 at *
    have q4 := Lib.hid S5.out.right.heap
    have q6 := Lib.hid S5.out.right.right.heap
    have S6 := Lib.hid (sat_setRow (n := #[.int .i64 s.grid, .slice (some ⟨gb, 0, none⟩) s.l.length C]) S5.out.swap.third)
    have Z6 := Lib.hid (Z5.out.then (same_setRow w5 g6 #[.int .i64 s.grid, .slice (some ⟨gb, 0, none⟩) s.l.length C]))
    go_wp2_with (first | ((with_reducible refine at_slot 31 ?_); refine wpList_load_row rfl 224 (.tmp 4) rfl g4 (by rfl) 224 #[.int .i64 s.grid, .slice (some ⟨gb, 0, none⟩) s.l.length C] (0, 0) _ q4.out Tryz.underlying224 (by rfl) info_sums ?_) | ((with_reducible refine at_store 224 6 31 ?_); refine wpList_store_row rfl 224 (.tmp 6) (.tmp 31) rfl g6 #[.int .i64 s.grid, .slice (some ⟨gb, 0, none⟩) s.l.length C] (by rfl) (by rfl) 224 #[.int .i64 0, .slice none 0 0] q6.out info_sums (by rfl) (by simp [Value.oneCell']) ?_))
    rw [HY.out]
    exact bodyPost_ret (results_cell_row Tryz.results216 _ _ g6 224 _ (0, 0) _ (by rfl) S6.out.heap Tryz.underlying224 (by rfl) info_sums) rfl
      ⟨some ⟨gb, 0, none⟩, C, by simp only [sumsV, List.length_set], by simp only [List.length_set]; exact S6.out.right.right.drop2, Z6.out⟩

  · have HY : Hid (Rv.takeW p s cost = ⟨s.grid, s.l.set k 1099511627776⟩) := Lib.hid (by rw [HX.out]; congr 2; omega)
    have hm2 : 1099511627776 < x + cost := by omega
    go_upto_region 7 with (fail)
    have S5 : Hid (Sat (w3.setCell ⟨gb, k, none⟩ (intI (1099511627776))) (intsP (.slice (some ⟨gb, 0, none⟩) s.l.length C) (s.l.set k (1099511627776)) * (pt g4 (.cells #[.int .i64 s.grid, .slice (some ⟨gb, 0, none⟩) s.l.length C] 224) * (pt g6 (.cells #[.int .i64 0, .slice none 0 0] 224) * (pt g3 (.cells (polCells p) 33) * R))))) := Lib.hid (by
      have := sat_row_set S3.out.swap k (by simp; omega) (intI (1099511627776))
      unfold intsP
      rw [List.map_set]
      exact this)
    have Z5 : Hid (Same w (w3.setCell ⟨gb, k, none⟩ (intI (1099511627776)))) := Lib.hid (Z3.out.then (Kept.setCell (Kept.refl _ _) _ _ (.inl trivial)))
    clear S3 Z3 d1 d5 d2 f2
    generalize (w3.setCell ⟨gb, k, none⟩ (intI (1099511627776))) = w5 at *
    have q4 := Lib.hid S5.out.right.heap
    have q6 := Lib.hid S5.out.right.right.heap
    have S6 := Lib.hid (sat_setRow (n := #[.int .i64 s.grid, .slice (some ⟨gb, 0, none⟩) s.l.length C]) S5.out.swap.third)
    have Z6 := Lib.hid (Z5.out.then (same_setRow w5 g6 #[.int .i64 s.grid, .slice (some ⟨gb, 0, none⟩) s.l.length C]))
    go_wp2_with (first | ((with_reducible refine at_slot 31 ?_); refine wpList_load_row rfl 224 (.tmp 4) rfl g4 (by rfl) 224 #[.int .i64 s.grid, .slice (some ⟨gb, 0, none⟩) s.l.length C] (0, 0) _ q4.out Tryz.underlying224 (by rfl) info_sums ?_) | ((with_reducible refine at_store 224 6 31 ?_); refine wpList_store_row rfl 224 (.tmp 6) (.tmp 31) rfl g6 #[.int .i64 s.grid, .slice (some ⟨gb, 0, none⟩) s.l.length C] (by rfl) (by rfl) 224 #[.int .i64 0, .slice none 0 0] q6.out info_sums (by rfl) (by simp [Value.oneCell']) ?_))
    rw [HY.out]
    exact bodyPost_ret (results_cell_row Tryz.results216 _ _ g6 224 _ (0, 0) _ (by rfl) S6.out.heap Tryz.underlying224 (by rfl) info_sums) rfl
      ⟨some ⟨gb, 0, none⟩, C, by simp only [sumsV, List.length_set], by simp only [List.length_set]; exact S6.out.right.right.drop2, Z6.out⟩

end Go.Proofs.YtcmndglhileeoaaGreat

/- The walks of package ledger: what a key owes: later, take, numbers of both kinds. -/
set_option linter.unusedSimpArgs false
set_option linter.unusedVariables false
namespace Go.Proofs.YtcmndglhileeoaaGreat
open Go.RowKit
open Rv (HP Sat Same pt allOf sat_all RdIn row own)

abbrev levelV (n : Int) : Value := .iface 244 (.int .i64 n)
abbrev owedV (s : Rv.Sums) (A : Option Addr) (c : Nat) : Value := .iface 246 (sumsV s A c)

set_option maxHeartbeats 1000000 in
set_option maxRecDepth 100000 in
theorem llater_any (p : Rv.Pol) (n from_ to : Int) (w : World) (h : p.ok = true) (hk : p.kind = 1) (h0 : 0 ≤ from_) (h1 : from_ ≤ 1099511627776) (h2 : 0 ≤ to) (h3 : to ≤ 1099511627776) :
    Calls Tryz.prog 201 #[.int .i64 n, .agg (polCells p), .int .i64 from_, .int .i64 to] w fun e w' => e = .returned (levelV (Rv.decay p n (to - from_))) ∧ Below w.heap.size w w' := by
  have HB := Lib.hid (fun o => (Below.refl w.heap.size w).alloc (Nat.le_refl _) o)
  have Hok := Lib.hid h
  have Hk := Lib.hid hk
  have hw1 : IntKind.i64.wrap (to - from_) = to - from_ := IntWalk.i64_in _ (by omega)
  clear h hk
  go_enter Tryz.func201, Tryz.ntmps201
  go_wp2_with ((with_reducible refine at_slot 9 ?_); refine wpList_load_row rfl 33 (.tmp 5) rfl w.heap.size (by rfl) 33 (polCells p) (0, 0) _ (heap_alloc_new w _) Tryz.underlying33 (by rfl) info_pol ?_)
  refine (decay_any p n (to - from_) _ Hok.out Hk.out).mono ?_
  rintro e w1 ⟨rfl, b1⟩
  have B1 := Lib.hid (below_then (HB.out _) (by simp) b1)
  clear b1
  go_wp2_with fail
  go_ret
  exact ⟨rfl, B1.out⟩

set_option maxHeartbeats 1000000 in
set_option maxRecDepth 100000 in
theorem ltake_any (p : Rv.Pol) (n cost : Int) (w : World) (h : p.ok = true) (hk : p.kind = 1) (hc : Rv.costOk cost = true) :
    Calls Tryz.prog 204 #[.int .i64 n, .agg (polCells p), .int .i64 cost] w fun e w' => e = .returned (levelV (Rv.takeB p n cost)) ∧ Below w.heap.size w w' := by
  have HB := Lib.hid (fun o => (Below.refl w.heap.size w).alloc (Nat.le_refl _) o)
  have Hok := Lib.hid h
  have Hk := Lib.hid hk
  have Hc := Lib.hid hc
  clear h hk hc
  go_enter Tryz.func204, Tryz.ntmps204
  go_wp2_with ((with_reducible refine at_slot 7 ?_); refine wpList_load_row rfl 33 (.tmp 4) rfl w.heap.size (by rfl) 33 (polCells p) (0, 0) _ (heap_alloc_new w _) Tryz.underlying33 (by rfl) info_pol ?_)
  refine (btake_any p n cost _ Hok.out Hk.out Hc.out).mono ?_
  rintro e w1 ⟨rfl, b1⟩
  have B1 := Lib.hid (below_then (HB.out _) (by simp) b1)
  clear b1
  go_wp2_with fail
  go_ret
  exact ⟨rfl, B1.out⟩

theorem lnum_any (n : Int) (w : World) :
    Calls Tryz.prog 203 #[.int .i64 n] w fun e w' => e = .returned (.slice (some ⟨w.heap.size, 0, none⟩) 1 1) ∧ w' = w.alloc (.cells #[.int .i64 n] 3) := by
  go_enter Tryz.func203, Tryz.ntmps203
  go_wp2_with fail
  go_ret
  exact ⟨rfl, rfl⟩
theorem snum_any (s : Rv.Sums) (A : Option Addr) (c : Nat) (w : World) :
    Calls Tryz.prog 213 #[sumsV s A c] w fun e w' => e = .returned (.slice A s.l.length c) ∧ Below w.heap.size w w' := by
  go_enter Tryz.func213, Tryz.ntmps213
  go_wp2_with fail
  go_ret
  exact ⟨rfl, (Below.refl _ _).alloc (Nat.le_refl _) _⟩

theorem info_osums : (Tryz.prog.info? 246).map (·.size) = some 2 := by kernel_rfl
set_option maxHeartbeats 1000000 in
set_option maxRecDepth 100000 in
theorem slater_any (R : HP) (p : Rv.Pol) (s : Rv.Sums) (from_ to : Int) (A : Option Addr) (c : Nat) (w : World) (hR : Sat w R) (hr : RdIn R A (s.l.map intI)) (hnil : A = none → c = 0) (hs : SOk p s) (h : p.ok = true) (hk : p.kind = 2) :
    Calls Tryz.prog 211 #[sumsV s A c, .agg (polCells p), .int .i64 from_, .int .i64 to] w fun e w' => ∃ B c', e = .returned (owedV (Rv.moveW p s to) B c') ∧ Sat w' (intsP (.slice B (Rv.moveW p s to).l.length c') (Rv.moveW p s to).l * R) ∧ Same w w' := by
  have Hok := Lib.hid h
  have Hk := Lib.hid hk
  have Hs := Lib.hid hs
  have Hr := Lib.hid hr
  have Hnil := Lib.hid hnil
  have S0 := Lib.hid ((hR.alloc (.cells #[.int .i64 s.grid, .slice A s.l.length c] 246)).alloc (.cells (polCells p) 33))
  have Z0 : Hid (Same w ((w.alloc (.cells #[.int .i64 s.grid, .slice A s.l.length c] 246)).alloc (.cells (polCells p) 33))) := Lib.hid (Same.of (((Kept.refl (fun _ => False) w).alloc _).alloc _))
  clear h hk hR hs hr hnil
  go_enter Tryz.func211, Tryz.ntmps211
  go_upto_region 1 with (fail)
  obtain ⟨w0, hw0⟩ : ∃ w0, w0 = (w.alloc (.cells #[.int .i64 s.grid, .slice A s.l.length c] 246)).alloc (.cells (polCells p) 33) := ⟨_, rfl⟩
  change Code.wp _ _ _ _ ((w.alloc (.cells #[.int .i64 s.grid, .slice A s.l.length c] 246)).alloc (.cells (polCells p) 33))
  rw [← hw0] at S0 Z0 ⊢
  simp only [World.size_alloc] at S0
  clear hw0
  have q1 := Lib.hid S0.out.heap
  have q0 := Lib.hid S0.out.right.heap
  go_wp2_with (first
    | ((with_reducible refine at_slot 9 ?_); refine wpList_load_row rfl 33 (.tmp 5) rfl (w.heap.size + 1) (by rfl) 33 (polCells p) (0, 0) _ q1.out Tryz.underlying33 (by rfl) info_pol ?_)
    | ((with_reducible refine at_slot 11 ?_); refine wpList_load_row rfl 224 (.tmp 10) rfl w.heap.size (by rfl) 246 #[.int .i64 s.grid, .slice A s.l.length c] (0, 0) _ q0.out Tryz.underlying224 (by rfl) info_sums ?_))
  refine (wmove_any _ p s to A c w0 S0.out (Rv.RdIn.right (Rv.RdIn.right Hr.out)) Hnil.out Hs.out Hok.out Hk.out).mono ?_
  rintro e w1 ⟨B, C, rfl, s1, z1⟩
  have S1 := Lib.hid s1
  have Z1 := Lib.hid (Z0.out.then z1)
  clear s1 z1 S0 Z0 q0 q1
  go_wp2_with fail
  go_ret
  exact ⟨B, C, rfl, S1.out.drop2.drop2, Z1.out⟩

set_option maxHeartbeats 1000000 in
set_option maxRecDepth 100000 in
theorem stake_any (R : HP) (p : Rv.Pol) (s : Rv.Sums) (cost : Int) (A : Option Addr) (c : Nat) (w : World) (hR : Sat w R) (hr : RdIn R A (s.l.map intI)) (hnil : A = none → c = 0) (hs : SOk p s) (h : p.ok = true) (hk : p.kind = 2) (hc : Rv.costOk cost = true) :
    Calls Tryz.prog 214 #[sumsV s A c, .agg (polCells p), .int .i64 cost] w fun e w' => ∃ B c', e = .returned (owedV (Rv.takeW p s cost) B c') ∧ Sat w' (intsP (.slice B (Rv.takeW p s cost).l.length c') (Rv.takeW p s cost).l * R) ∧ Same w w' := by
  have Hok := Lib.hid h
  have Hk := Lib.hid hk
  have Hs := Lib.hid hs
  have Hr := Lib.hid hr
  have Hnil := Lib.hid hnil
  have Hc := Lib.hid hc
  have S0 := Lib.hid ((hR.alloc (.cells #[.int .i64 s.grid, .slice A s.l.length c] 246)).alloc (.cells (polCells p) 33))
  have Z0 : Hid (Same w ((w.alloc (.cells #[.int .i64 s.grid, .slice A s.l.length c] 246)).alloc (.cells (polCells p) 33))) := Lib.hid (Same.of (((Kept.refl (fun _ => False) w).alloc _).alloc _))
  clear h hk hR hs hr hnil hc
  go_enter Tryz.func214, Tryz.ntmps214
  go_upto_region 1 with (fail)
  obtain ⟨w0, hw0⟩ : ∃ w0, w0 = (w.alloc (.cells #[.int .i64 s.grid, .slice A s.l.length c] 246)).alloc (.cells (polCells p) 33) := ⟨_, rfl⟩
  change Code.wp _ _ _ _ ((w.alloc (.cells #[.int .i64 s.grid, .slice A s.l.length c] 246)).alloc (.cells (polCells p) 33))
  rw [← hw0] at S0 Z0 ⊢
  simp only [World.size_alloc] at S0
  clear hw0
  have q1 := Lib.hid S0.out.heap
  have q0 := Lib.hid S0.out.right.heap
  go_wp2_with (first
    | ((with_reducible refine at_slot 7 ?_); refine wpList_load_row rfl 33 (.tmp 4) rfl (w.heap.size + 1) (by rfl) 33 (polCells p) (0, 0) _ q1.out Tryz.underlying33 (by rfl) info_pol ?_)
    | ((with_reducible refine at_slot 9 ?_); refine wpList_load_row rfl 224 (.tmp 8) rfl w.heap.size (by rfl) 246 #[.int .i64 s.grid, .slice A s.l.length c] (0, 0) _ q0.out Tryz.underlying224 (by rfl) info_sums ?_))
  refine (wtake_any _ p s cost A c w0 S0.out (Rv.RdIn.right (Rv.RdIn.right Hr.out)) Hnil.out Hs.out Hok.out Hk.out Hc.out).mono ?_
  rintro e w1 ⟨B, C, rfl, s1, z1⟩
  have S1 := Lib.hid s1
  have Z1 := Lib.hid (Z0.out.then z1)
  clear s1 z1 S0 Z0 q0 q1
  go_wp2_with fail
  go_ret
  exact ⟨B, C, rfl, S1.out.drop2.drop2, Z1.out⟩
end Go.Proofs.YtcmndglhileeoaaGreat

/- The walks of package ledger: owes, is, none, debt. -/
set_option linter.unusedSimpArgs false
set_option linter.unusedVariables false
namespace Go.Proofs.YtcmndglhileeoaaGreat
open Go.RowKit
open Rv (HP Sat Same pt allOf sat_all RdIn row own)

/-- A value that is a debt; what it reads stands in Q. -/
def DebtIn (Q : HP) (p : Rv.Pol) (v : Value) : Rv.Debt → Prop
  | .level n => p.kind = 1 ∧ 0 ≤ n ∧ n ≤ 4611686018427387903 ∧ v = levelV n
  | .sums s => p.kind = 2 ∧ SOk p s ∧ ∃ A c, v = owedV s A c ∧ RdIn Q A (s.l.map intI) ∧ (A = none → c = 0)
def Ext (Q Q' : HP) : Prop := ∀ A vs, RdIn Q A vs → RdIn Q' A vs
theorem Ext.refl (Q : HP) : Ext Q Q := fun _ _ h => h
theorem Ext.then {Q Q' Q'' : HP} (h : Ext Q Q') (k : Ext Q' Q'') : Ext Q Q'' := fun A vs x => k A vs (h A vs x)
theorem Ext.more (P Q : HP) : Ext Q (P * Q) := fun _ _ h => Rv.RdIn.right h
theorem DebtIn.ext {Q Q' : HP} {p : Rv.Pol} {v : Value} {d : Rv.Debt} (h : DebtIn Q p v d) (e : Ext Q Q') : DebtIn Q' p v d := by
  cases d with
  | level n => exact h
  | sums s =>
    obtain ⟨h1, h2, A, c, h3, h4, h5⟩ := h
    exact ⟨h1, h2, A, c, h3, e A _ h4, h5⟩

theorem meth_level (n : Int) (w : World) (m : String) (K : Nat) (h : (m, K) = ("reeve/ledger.numbers", 203) ∨ (m, K) = ("reeve/ledger.later", 201) ∨ (m, K) = ("reeve/ledger.take", 204)) :
    (method 387 244 (.int .i64 n) m).run Tryz.prog w = .ok (K, .int .i64 n) w := by
  rcases h with h | h | h <;> (cases h; kernel_rfl)
theorem meth_sums (v : Value) (w : World) (m : String) (K : Nat) (h : (m, K) = ("reeve/ledger.numbers", 213) ∨ (m, K) = ("reeve/ledger.later", 211) ∨ (m, K) = ("reeve/ledger.take", 214)) :
    (method 387 246 v m).run Tryz.prog w = .ok (K, v) w := by
  rcases h with h | h | h <;> (cases h; kernel_rfl)

set_option maxHeartbeats 1000000 in
set_option maxRecDepth 100000 in
theorem owes_level (n : Int) (w : World) (b : Bool) (hb : (Rv.Debt.level n).owes = b) :
    Calls Tryz.prog 118 #[levelV n] w fun e w' => e = .returned (.bool b) ∧ Below w.heap.size w w' := by
  have hm := fun w => meth_level n w "reeve/ledger.numbers" _ (.inl rfl)
  have Hb := Lib.hid hb
  clear hb
  go_enter Tryz.func118, Tryz.ntmps118
  go_wp2_with fail
  refine (lnum_any n w).mono ?_
  rintro e w1 ⟨rfl, rfl⟩
  go_wp2_with fail
  refine (contains_nz (some ⟨w.heap.size, 0, none⟩) [n] 1 _ (fun j u hu => ⟨_, rfl, ?_⟩) (by simp) b Hb.out).mono ?_
  · rw [add_zero_off, cells_of (heap_alloc_new w _)]
    have : j = 0 := by have := (List.getElem?_eq_some_iff.1 hu).1; simp at this; exact this
    subst this
    cases hu
    rfl
  · rintro e w2 ⟨rfl, rfl⟩
    go_wp2_with fail
    go_ret
    exact ⟨rfl, (Below.refl _ _).alloc (Nat.le_refl _) _⟩
set_option maxHeartbeats 1000000 in
set_option maxRecDepth 100000 in
theorem owes_sums (s : Rv.Sums) (A : Option Addr) (c : Nat) (w : World) (hr : RdV w A (s.l.map intI)) (hl : s.l.length ≤ 64) (b : Bool) (hb : (Rv.Debt.sums s).owes = b) :
    Calls Tryz.prog 118 #[owedV s A c] w fun e w' => e = .returned (.bool b) ∧ Below w.heap.size w w' := by
  have hm := fun v w => meth_sums v w "reeve/ledger.numbers" _ (.inl rfl)
  have Hr := Lib.hid hr
  have Hb := Lib.hid hb
  clear hb hr
  go_enter Tryz.func118, Tryz.ntmps118
  go_wp2_with fail
  refine (snum_any s A c w).mono ?_
  rintro e w1 ⟨rfl, b1⟩
  have B1 := Lib.hid b1
  clear b1
  go_wp2_with fail
  refine (contains_nz A s.l c w1 (Hr.out.below B1.out) (by omega) b Hb.out).mono ?_
  rintro e w2 ⟨rfl, rfl⟩
  go_wp2_with fail
  go_ret
  exact ⟨rfl, B1.out⟩
theorem owes_any {R : HP} {p : Rv.Pol} {v : Value} {d : Rv.Debt} (Q : HP) (w : World) (h : DebtIn Q p v d) (hs : Sat w (Q * R)) (hok : p.ok = true) (b : Bool) (hb : d.owes = b) :
    Calls Tryz.prog 118 #[v] w fun e w' => e = .returned (.bool b) ∧ Below w.heap.size w w' := by
  cases d with
  | level n => obtain ⟨_, _, _, rfl⟩ := h; exact owes_level n w b hb
  | sums s =>
    obtain ⟨h1, h2, A, c, rfl, h4, h5⟩ := h
    exact owes_sums s A c w (h4 w hs.left) (by have := width_ok hok h1; have := h2.len; omega) b hb

theorem is_any (key : ByteArray) (b : Bool) (hb : Rv.keyOk key = b) (w : World) : Calls Tryz.prog 119 #[.string key] w fun e w' => e = .returned (.bool b) ∧ w = w' := by
  subst hb
  unfold Rv.keyOk
  by_cases h0 : 1 ≤ key.size
  · have d0 : decide (1 ≤ key.size) = true := by simpa using h0
    by_cases h1 : key.size ≤ 64
    · have d1 : decide (key.size ≤ 64) = true := by simpa using h1
      rw [d0, d1]
      have d2 : decide ((key.size : Int) ≤ 64) = true := by simp; omega
      go_enter Tryz.func119, Tryz.ntmps119
      go_wp2
      go_ret
      exact ⟨rfl, rfl⟩
    · have d1 : decide (key.size ≤ 64) = false := by simpa using h1
      rw [d0, d1]
      have d2 : decide ((key.size : Int) ≤ 64) = false := by simp; omega
      go_enter Tryz.func119, Tryz.ntmps119
      go_wp2
      go_ret
      exact ⟨rfl, rfl⟩
  · have d0 : decide (1 ≤ key.size) = false := by simpa using h0
    rw [d0]
    go_enter Tryz.func119, Tryz.ntmps119
    go_wp2
    go_ret
    exact ⟨rfl, rfl⟩
end Go.Proofs.YtcmndglhileeoaaGreat
