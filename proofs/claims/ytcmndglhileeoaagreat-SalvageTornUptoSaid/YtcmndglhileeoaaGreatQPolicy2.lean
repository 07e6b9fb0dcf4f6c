/- The walks of package policy: fields, kind 2 and none. -/
import Derived.Test.YtcmndglhileeoaaGreatQPolicy
set_option linter.unusedSimpArgs false
set_option linter.unusedVariables false
namespace Go.Proofs.YtcmndglhileeoaaGreat
open Go.RowKit

set_option maxHeartbeats 2000000 in
set_option maxRecDepth 100000 in
theorem fields_two (g : Nat) (w : World) (hc : w.cell? ⟨g, 0, none⟩ = some (.int .i64 2)) :
    Calls Tryz.prog 53 #[.pointer (some ⟨g, 0, none⟩)] w fun e w' => e = .returned (.tuple #[.agg (fields2 g), .bool true]) ∧ Below w.heap.size w w' := by
  have hg := World.block_lt_of_cell? w _ hc
  simp only at hg
  go_enter Tryz.func53, Tryz.ntmps53
  go_upto_region 1 with (fail)
  have R1 : Hid ((w.alloc (.cells zeros8 131)).drew.heap[w.heap.size]? = some (.cells zeros8 131 (0, 0)) ∧ Below w.heap.size w (w.alloc (.cells zeros8 131)).drew ∧ (w.alloc (.cells zeros8 131)).drew.heap.size = w.heap.size + 1) := Lib.hid ⟨heap_alloc_new w _, ⟨rfl, rfl, rfl, by show _ ≤ (w.heap.push _).size; simp, fun k hk => Below.heap_alloc w _ k hk⟩, by show (w.heap.push _).size = _; simp⟩
  have HC := Lib.hid hc
  clear hc
  refine wp_region_any (by kernel_rfl) ?_
  change wpAny _ _ _ _ _ _ _ (World.drew _)
  generalize (w.alloc (.cells zeros8 131)).drew = w2 at *
  refine wpAny_take (i := 0) (v := ?_) rfl (by kernel_rfl) (by kernel_rfl) (by kernel_rfl) (fun _ _ _ h => h) (Or.inl ⟨by rfl, ?_⟩) ?_
  rotate_left
  · intro w; go_simp
    try with_reducible rfl
  refine wpAny_take (i := 1) (v := ?_) rfl (by kernel_rfl) (by kernel_rfl) (by kernel_rfl) (fun _ _ _ h => h) (Or.inl ⟨by rfl, ?_⟩) ?_
  rotate_left
  · intro w; go_simp
    try with_reducible rfl
  refine wpAny_take (i := 2) (v := ?_) rfl (by kernel_rfl) (by kernel_rfl) (by kernel_rfl) (fun _ _ _ h => h) (Or.inl ⟨by rfl, ?_⟩) ?_
  rotate_left
  · intro w; go_simp
    try with_reducible rfl
  refine wpAny_take (i := 3) (v := ?_) rfl (by kernel_rfl) (by kernel_rfl) (by kernel_rfl) (fun _ _ _ h => h) (Or.inl ⟨by rfl, ?_⟩) ?_
  rotate_left
  · intro w; go_simp
    try with_reducible rfl
  refine wpAny_take (i := 4) (v := ?_) rfl (by kernel_rfl) (by kernel_rfl) (by kernel_rfl) (fun _ _ _ h => h) (Or.inl ⟨by rfl, ?_⟩) ?_
  rotate_left
  · intro w; go_simp
    try with_reducible rfl
  refine wpAny_take (i := 5) (v := ?_) rfl (by kernel_rfl) (by kernel_rfl) (by kernel_rfl) (fun _ _ _ h => h) (Or.inl ⟨by rfl, ?_⟩) ?_
  rotate_left
  · intro w; go_simp
    try with_reducible rfl
  refine wpAny_take (i := 6) (v := ?_) rfl (by kernel_rfl) (by kernel_rfl) (by kernel_rfl) (fun _ _ _ h => h) (Or.inl ⟨by rfl, ?_⟩) ?_
  rotate_left
  · intro w; go_simp
    try with_reducible rfl
  refine wpAny_take (i := 7) (v := ?_) rfl (by kernel_rfl) (by kernel_rfl) (by kernel_rfl) (fun _ _ _ h => h) (Or.inl ⟨by rfl, ?_⟩) ?_
  rotate_left
  · intro w; go_simp
    try with_reducible rfl
  refine wpAny_take (i := 8) (v := ?_) rfl (by kernel_rfl) (by kernel_rfl) (by kernel_rfl) (fun _ _ _ h => h) (Or.inl ⟨by rfl, ?_⟩) ?_
  rotate_left
  · intro w; go_simp
    try with_reducible rfl
  refine wpAny_take (i := 9) (v := ?_) rfl (by kernel_rfl) (by kernel_rfl) (by kernel_rfl) (fun _ _ _ h => h) (Or.inl ⟨by rfl, ?_⟩) ?_
  rotate_left
  · intro w; go_simp
    try with_reducible rfl
  refine wpAny_take (i := 10) (v := ?_) rfl (by kernel_rfl) (by kernel_rfl) (by kernel_rfl) (fun _ _ _ h => h) (Or.inl ⟨by rfl, ?_⟩) ?_
  rotate_left
  · intro w; go_simp
    try with_reducible rfl
  refine wpAny_take (i := 11) (v := ?_) rfl (by kernel_rfl) (by kernel_rfl) (by kernel_rfl) (fun _ _ _ h => h) (Or.inl ⟨by rfl, ?_⟩) ?_
  rotate_left
  · intro w; go_simp
    try with_reducible rfl
  refine wpAny_take (i := 12) (v := ?_) rfl (by kernel_rfl) (by kernel_rfl) (by kernel_rfl) (fun _ _ _ h => h) (Or.inl ⟨by rfl, ?_⟩) ?_
  rotate_left
  · intro w; go_simp
    try with_reducible rfl
  refine wpAny_take (i := 13) (v := ?_) rfl (by kernel_rfl) (by kernel_rfl) (by kernel_rfl) (fun _ _ _ h => h) (Or.inl ⟨by rfl, ?_⟩) ?_
  rotate_left
  · intro w; go_simp
    try with_reducible rfl
  refine wpAny_take (i := 14) (v := ?_) rfl (by kernel_rfl) (by kernel_rfl) (by kernel_rfl) (fun _ _ _ h => h) (Or.inl ⟨by rfl, ?_⟩) ?_
  rotate_left
  · intro w; go_simp
    try with_reducible rfl
  refine wpAny_take (i := 15) (v := ?_) rfl (by kernel_rfl) (by kernel_rfl) (by kernel_rfl) (fun _ _ _ h => h) (Or.inl ⟨by rfl, ?_⟩) ?_
  rotate_left
  · intro w; go_simp
    try with_reducible rfl
  refine wpAny_take (i := 16) (v := ?_) rfl (by kernel_rfl) (by kernel_rfl) (by kernel_rfl) (fun _ _ _ h => h) (Or.inl ⟨by rfl, ?_⟩) ?_
  rotate_left
  · intro w; go_simp
    try with_reducible rfl
  refine wpAny_take (i := 17) (v := ?_) rfl (by kernel_rfl) (by kernel_rfl) (by kernel_rfl) (fun _ _ _ h => h) (Or.inl ⟨by rfl, ?_⟩) ?_
  rotate_left
  · intro w; go_simp
    try with_reducible rfl
  refine wpAny_take (i := 18) (v := ?_) rfl (by kernel_rfl) (by kernel_rfl) (by kernel_rfl) (fun _ _ _ h => h) (Or.inl ⟨by rfl, ?_⟩) ?_
  rotate_left
  · intro w; go_simp
    try with_reducible rfl
  refine wpAny_take (i := 19) (v := ?_) rfl (by kernel_rfl) (by kernel_rfl) (by kernel_rfl) (fun _ _ _ h => h) (Or.inl ⟨by rfl, ?_⟩) ?_
  rotate_left
  · intro w; go_simp
    try with_reducible rfl
  refine wpAny_take (i := 20) (v := ?_) rfl (by kernel_rfl) (by kernel_rfl) (by kernel_rfl) (fun _ _ _ h => h) (Or.inl ⟨by rfl, ?_⟩) ?_
  rotate_left
  · intro w; go_simp
    try with_reducible rfl
  refine wpAny_take (i := 21) (v := ?_) rfl (by kernel_rfl) (by kernel_rfl) (by kernel_rfl) (fun _ _ _ h => h) (Or.inl ⟨by rfl, ?_⟩) ?_
  rotate_left
  · intro w; go_simp
    try with_reducible rfl
  refine wpAny_take (i := 22) (v := ?_) rfl (by kernel_rfl) (by kernel_rfl) (by kernel_rfl) (fun _ _ _ h => h) (Or.inl ⟨by rfl, ?_⟩) ?_
  rotate_left
  · intro w; go_simp
    try with_reducible rfl
  refine wpAny_take (i := 23) (v := ?_) rfl (by kernel_rfl) (by kernel_rfl) (by kernel_rfl) (fun _ _ _ h => h) (Or.inl ⟨by rfl, ?_⟩) ?_
  rotate_left
  · intro w; go_simp
    try with_reducible rfl
  refine wpAny_take (i := 24) (v := ?_) rfl (by kernel_rfl) (by kernel_rfl) (by kernel_rfl) (fun _ _ _ h => h) (Or.inl ⟨by rfl, ?_⟩) ?_
  rotate_left
  · intro w; go_simp
    try with_reducible rfl
  refine wpAny_take (i := 25) (v := ?_) rfl (by kernel_rfl) (by kernel_rfl) (by kernel_rfl) (fun _ _ _ h => h) (Or.inl ⟨by rfl, ?_⟩) ?_
  rotate_left
  · intro w; go_simp
    try with_reducible rfl
  refine wpAny_take (i := 26) (v := ?_) rfl (by kernel_rfl) (by kernel_rfl) (by kernel_rfl) (fun _ _ _ h => h) (Or.inl ⟨by rfl, ?_⟩) ?_
  rotate_left
  · intro w; go_simp
    try with_reducible rfl
  conv => arg 7; simp [Act.put, go_sem]
  refine wpAny_ready (rs := [27]) (by kernel_rfl) (by simp) ?_
  refine AllReady.cons rfl (fun K hK => ?_) AllReady.nil
  refine step_alloc rfl _ rfl _ (zero_of_info zero131).1 ?_
  refine hK _ _ ?_
  clear hK K
  conv => arg 7; simp [Act.put, go_sem]
  refine wpAny_ready (rs := [28]) (by kernel_rfl) (by simp) ?_
  refine AllReady.cons rfl (fun K hK => ?_) AllReady.nil
  refine step_store_row rfl _ _ _ rfl w2.heap.size (fields0 g) (by rfl) (by rfl) 131 _ (heap_alloc_new w2 _) (zero_of_info zero131).2 (by rfl) (by simp [Value.oneCell']) ?_
  refine hK _ _ ?_
  clear hK K
  refine wpAny_done (by kernel_rfl) ?_ _
  have R2 : Hid (((w2.alloc (.cells zeros8 131)).setRow w2.heap.size (fields0 g)).heap[w2.heap.size]? = some (.cells (fields0 g) 131 (0, 0))) := Lib.hid (setRow_heap _ w2.heap.size _ (fields0 g) 131 (0, 0) (heap_alloc_new w2 _))
  have R3 : Hid (((w2.alloc (.cells zeros8 131)).setRow w2.heap.size (fields0 g)).heap[w.heap.size]? = some (.cells zeros8 131 (0, 0))) := Lib.hid (by
    rw [setRow_other _ _ _ _ (by rw [R1.out.2.2]; omega), Below.heap_alloc _ _ _ (by rw [R1.out.2.2]; omega)]
    exact R1.out.1)
  have R4 : Hid (Below w.heap.size w ((w2.alloc (.cells zeros8 131)).setRow w2.heap.size (fields0 g))) := Lib.hid (below_setRow (R1.out.2.1.alloc (by rw [R1.out.2.2]; omega) _) (by rw [R1.out.2.2]; omega) _)
  have hb : Hid (w2.heap.size = w.heap.size + 1) := Lib.hid R1.out.2.2
  clear R1
  change Exit.then _ _ _ _ ((w2.alloc (.cells zeros8 131)).setRow w2.heap.size (fields0 g))
  generalize (w2.alloc (.cells zeros8 131)).setRow w2.heap.size (fields0 g) = w3 at *
  generalize w2.heap.size = b at *
  clear w2
  have hc : w3.cell? ⟨g, 0, none⟩ = some (.int .i64 2) := (R4.out.cell (p := ⟨g, 0, none⟩) hg).trans HC.out
  go_upto_region 7 with (fail)
  have d6 : w3.cell? ⟨b, 6, none⟩ = some (.pointer none) := by rw [cells_of R2.out]; rfl
  have d7 : w3.cell? ⟨b, 7, none⟩ = some (.int .i64 0) := by rw [cells_of R2.out]; rfl
  have d8 : w3.cell? ⟨b, 8, none⟩ = some (.int .i64 0) := by rw [cells_of R2.out]; rfl
  have d9 : w3.cell? ⟨b, 9, none⟩ = some (.pointer none) := by rw [cells_of R2.out]; rfl
  have d10 : w3.cell? ⟨b, 10, none⟩ = some (.int .i64 0) := by rw [cells_of R2.out]; rfl
  have d11 : w3.cell? ⟨b, 11, none⟩ = some (.int .i64 0) := by rw [cells_of R2.out]; rfl
  have df : ∀ i, w3.frozen? ⟨b, i, none⟩ = false := frozen_of R2.out
  go_region
  have S1 := Lib.hid (six_sets w3 b g 4 5 1 1048576 1 32 (fields0 g) 131 R2.out)
  clear d6 d7 d8 d9 d10 d11 df hc
  generalize hw4 : World.setCell (World.setCell (World.setCell (World.setCell (World.setCell (World.setCell w3 _ _) _ _) _ _) _ _) _ _) _ _ = w4 at *
  clear hw4
  have R5 : Hid (w4.heap[b]? = some (.cells (fields2 g) 131 (0, 0))) := Lib.hid S1.out.1
  have R6 : Hid (w4.heap[w.heap.size]? = some (.cells zeros8 131 (0, 0))) := Lib.hid (by rw [S1.out.2.block _ (Array.getElem?_eq_some_iff.1 R3.out).1 (by rw [hb.out]; omega)]; exact R3.out)
  have R7 : Hid (Below w.heap.size w w4) := Lib.hid (R4.out.trans (S1.out.2.below R4.out.size (fun k hk e => by rw [hb.out] at e; omega)))
  clear S1 R2 R3 R4
  have R5' : Hid (w4.drew.heap[b]? = some (.cells (fields2 g) 131 (0, 0))) := Lib.hid R5.out
  have R6' : Hid (w4.drew.heap[w.heap.size]? = some (.cells zeros8 131 (0, 0))) := Lib.hid R6.out
  have R7' : Hid (Below w.heap.size w w4.drew) := Lib.hid ⟨R7.out.os, R7.out.tape, R7.out.output, R7.out.size, R7.out.block⟩
  clear R5 R6 R7
  generalize w4.drew = w5 at *
  clear w4
  go_upto_region 8 with (fail)
  go_wp2_with (first
    | (refine wpList_load_row (o := ⟨some 61, _, _, _, _, _⟩) rfl 131 (.tmp 4) rfl b (by rfl) 131 (fields2 g) (0, 0) _ R5'.out Tryz.underlying131 (by rfl) (zero_of_info zero131).2 ?_)
    | (refine wpList_store_row (o := ⟨none, .store _ _ _, _, _, _, _⟩) rfl 131 (.tmp 2) (.tmp 61) rfl w.heap.size (fields2 g) (by rfl) (by rfl) 131 zeros8 R6'.out (zero_of_info zero131).2 (by rfl) (by simp [Value.oneCell']) ?_))
  exact bodyPost_ret (results_cell_tmp Tryz.results53 _ _ w.heap.size 131 (fields2 g) (0, 0) _ (.bool true) (by rfl) (by rfl) (setRow_heap _ _ _ _ _ _ R6'.out) Tryz.underlying131 (by rfl) (zero_of_info zero131).2) rfl
    ⟨rfl, below_setRow R7'.out (Nat.le_refl _) _⟩
set_option maxHeartbeats 2000000 in
set_option maxRecDepth 100000 in
theorem fields_none (g : Nat) (w : World) (k : Int) (h1 : k ≠ 1) (h2 : k ≠ 2) (hc : w.cell? ⟨g, 0, none⟩ = some (.int .i64 k)) :
    Calls Tryz.prog 53 #[.pointer (some ⟨g, 0, none⟩)] w fun e w' => e = .returned (.tuple #[.agg (fields0 g), .bool false]) ∧ Below w.heap.size w w' := by
  have hg := World.block_lt_of_cell? w _ hc
  simp only at hg
  have e1 : (k == 1) = false := by rw [beq_eq_false_iff_ne]; exact h1
  have e2 : (k == 2) = false := by rw [beq_eq_false_iff_ne]; exact h2
  clear h1 h2
  go_enter Tryz.func53, Tryz.ntmps53
  go_upto_region 1 with (fail)
  have R1 : Hid ((w.alloc (.cells zeros8 131)).drew.heap[w.heap.size]? = some (.cells zeros8 131 (0, 0)) ∧ Below w.heap.size w (w.alloc (.cells zeros8 131)).drew ∧ (w.alloc (.cells zeros8 131)).drew.heap.size = w.heap.size + 1) := Lib.hid ⟨heap_alloc_new w _, ⟨rfl, rfl, rfl, by show _ ≤ (w.heap.push _).size; simp, fun k hk => Below.heap_alloc w _ k hk⟩, by show (w.heap.push _).size = _; simp⟩
  have HC := Lib.hid hc
  clear hc
  refine wp_region_any (by kernel_rfl) ?_
  change wpAny _ _ _ _ _ _ _ (World.drew _)
  generalize (w.alloc (.cells zeros8 131)).drew = w2 at *
  refine wpAny_take (i := 0) (v := ?_) rfl (by kernel_rfl) (by kernel_rfl) (by kernel_rfl) (fun _ _ _ h => h) (Or.inl ⟨by rfl, ?_⟩) ?_
  rotate_left
  · intro w; go_simp
    try with_reducible rfl
  refine wpAny_take (i := 1) (v := ?_) rfl (by kernel_rfl) (by kernel_rfl) (by kernel_rfl) (fun _ _ _ h => h) (Or.inl ⟨by rfl, ?_⟩) ?_
  rotate_left
  · intro w; go_simp
    try with_reducible rfl
  refine wpAny_take (i := 2) (v := ?_) rfl (by kernel_rfl) (by kernel_rfl) (by kernel_rfl) (fun _ _ _ h => h) (Or.inl ⟨by rfl, ?_⟩) ?_
  rotate_left
  · intro w; go_simp
    try with_reducible rfl
  refine wpAny_take (i := 3) (v := ?_) rfl (by kernel_rfl) (by kernel_rfl) (by kernel_rfl) (fun _ _ _ h => h) (Or.inl ⟨by rfl, ?_⟩) ?_
  rotate_left
  · intro w; go_simp
    try with_reducible rfl
  refine wpAny_take (i := 4) (v := ?_) rfl (by kernel_rfl) (by kernel_rfl) (by kernel_rfl) (fun _ _ _ h => h) (Or.inl ⟨by rfl, ?_⟩) ?_
  rotate_left
  · intro w; go_simp
    try with_reducible rfl
  refine wpAny_take (i := 5) (v := ?_) rfl (by kernel_rfl) (by kernel_rfl) (by kernel_rfl) (fun _ _ _ h => h) (Or.inl ⟨by rfl, ?_⟩) ?_
  rotate_left
  · intro w; go_simp
    try with_reducible rfl
  refine wpAny_take (i := 6) (v := ?_) rfl (by kernel_rfl) (by kernel_rfl) (by kernel_rfl) (fun _ _ _ h => h) (Or.inl ⟨by rfl, ?_⟩) ?_
  rotate_left
  · intro w; go_simp
    try with_reducible rfl
  refine wpAny_take (i := 7) (v := ?_) rfl (by kernel_rfl) (by kernel_rfl) (by kernel_rfl) (fun _ _ _ h => h) (Or.inl ⟨by rfl, ?_⟩) ?_
  rotate_left
  · intro w; go_simp
    try with_reducible rfl
  refine wpAny_take (i := 8) (v := ?_) rfl (by kernel_rfl) (by kernel_rfl) (by kernel_rfl) (fun _ _ _ h => h) (Or.inl ⟨by rfl, ?_⟩) ?_
  rotate_left
  · intro w; go_simp
    try with_reducible rfl
  refine wpAny_take (i := 9) (v := ?_) rfl (by kernel_rfl) (by kernel_rfl) (by kernel_rfl) (fun _ _ _ h => h) (Or.inl ⟨by rfl, ?_⟩) ?_
  rotate_left
  · intro w; go_simp
    try with_reducible rfl
  refine wpAny_take (i := 10) (v := ?_) rfl (by kernel_rfl) (by kernel_rfl) (by kernel_rfl) (fun _ _ _ h => h) (Or.inl ⟨by rfl, ?_⟩) ?_
  rotate_left
  · intro w; go_simp
    try with_reducible rfl
  refine wpAny_take (i := 11) (v := ?_) rfl (by kernel_rfl) (by kernel_rfl) (by kernel_rfl) (fun _ _ _ h => h) (Or.inl ⟨by rfl, ?_⟩) ?_
  rotate_left
  · intro w; go_simp
    try with_reducible rfl
  refine wpAny_take (i := 12) (v := ?_) rfl (by kernel_rfl) (by kernel_rfl) (by kernel_rfl) (fun _ _ _ h => h) (Or.inl ⟨by rfl, ?_⟩) ?_
  rotate_left
  · intro w; go_simp
    try with_reducible rfl
  refine wpAny_take (i := 13) (v := ?_) rfl (by kernel_rfl) (by kernel_rfl) (by kernel_rfl) (fun _ _ _ h => h) (Or.inl ⟨by rfl, ?_⟩) ?_
  rotate_left
  · intro w; go_simp
    try with_reducible rfl
  refine wpAny_take (i := 14) (v := ?_) rfl (by kernel_rfl) (by kernel_rfl) (by kernel_rfl) (fun _ _ _ h => h) (Or.inl ⟨by rfl, ?_⟩) ?_
  rotate_left
  · intro w; go_simp
    try with_reducible rfl
  refine wpAny_take (i := 15) (v := ?_) rfl (by kernel_rfl) (by kernel_rfl) (by kernel_rfl) (fun _ _ _ h => h) (Or.inl ⟨by rfl, ?_⟩) ?_
  rotate_left
  · intro w; go_simp
    try with_reducible rfl
  refine wpAny_take (i := 16) (v := ?_) rfl (by kernel_rfl) (by kernel_rfl) (by kernel_rfl) (fun _ _ _ h => h) (Or.inl ⟨by rfl, ?_⟩) ?_
  rotate_left
  · intro w; go_simp
    try with_reducible rfl
  refine wpAny_take (i := 17) (v := ?_) rfl (by kernel_rfl) (by kernel_rfl) (by kernel_rfl) (fun _ _ _ h => h) (Or.inl ⟨by rfl, ?_⟩) ?_
  rotate_left
  · intro w; go_simp
    try with_reducible rfl
  refine wpAny_take (i := 18) (v := ?_) rfl (by kernel_rfl) (by kernel_rfl) (by kernel_rfl) (fun _ _ _ h => h) (Or.inl ⟨by rfl, ?_⟩) ?_
  rotate_left
  · intro w; go_simp
    try with_reducible rfl
  refine wpAny_take (i := 19) (v := ?_) rfl (by kernel_rfl) (by kernel_rfl) (by kernel_rfl) (fun _ _ _ h => h) (Or.inl ⟨by rfl, ?_⟩) ?_
  rotate_left
  · intro w; go_simp
    try with_reducible rfl
  refine wpAny_take (i := 20) (v := ?_) rfl (by kernel_rfl) (by kernel_rfl) (by kernel_rfl) (fun _ _ _ h => h) (Or.inl ⟨by rfl, ?_⟩) ?_
  rotate_left
  · intro w; go_simp
    try with_reducible rfl
  refine wpAny_take (i := 21) (v := ?_) rfl (by kernel_rfl) (by kernel_rfl) (by kernel_rfl) (fun _ _ _ h => h) (Or.inl ⟨by rfl, ?_⟩) ?_
  rotate_left
  · intro w; go_simp
    try with_reducible rfl
  refine wpAny_take (i := 22) (v := ?_) rfl (by kernel_rfl) (by kernel_rfl) (by kernel_rfl) (fun _ _ _ h => h) (Or.inl ⟨by rfl, ?_⟩) ?_
  rotate_left
  · intro w; go_simp
    try with_reducible rfl
  refine wpAny_take (i := 23) (v := ?_) rfl (by kernel_rfl) (by kernel_rfl) (by kernel_rfl) (fun _ _ _ h => h) (Or.inl ⟨by rfl, ?_⟩) ?_
  rotate_left
  · intro w; go_simp
    try with_reducible rfl
  refine wpAny_take (i := 24) (v := ?_) rfl (by kernel_rfl) (by kernel_rfl) (by kernel_rfl) (fun _ _ _ h => h) (Or.inl ⟨by rfl, ?_⟩) ?_
  rotate_left
  · intro w; go_simp
    try with_reducible rfl
  refine wpAny_take (i := 25) (v := ?_) rfl (by kernel_rfl) (by kernel_rfl) (by kernel_rfl) (fun _ _ _ h => h) (Or.inl ⟨by rfl, ?_⟩) ?_
  rotate_left
  · intro w; go_simp
    try with_reducible rfl
  refine wpAny_take (i := 26) (v := ?_) rfl (by kernel_rfl) (by kernel_rfl) (by kernel_rfl) (fun _ _ _ h => h) (Or.inl ⟨by rfl, ?_⟩) ?_
  rotate_left
  · intro w; go_simp
    try with_reducible rfl
  conv => arg 7; simp [Act.put, go_sem]
  refine wpAny_ready (rs := [27]) (by kernel_rfl) (by simp) ?_
  refine AllReady.cons rfl (fun K hK => ?_) AllReady.nil
  refine step_alloc rfl _ rfl _ (zero_of_info zero131).1 ?_
  refine hK _ _ ?_
  clear hK K
  conv => arg 7; simp [Act.put, go_sem]
  refine wpAny_ready (rs := [28]) (by kernel_rfl) (by simp) ?_
  refine AllReady.cons rfl (fun K hK => ?_) AllReady.nil
  refine step_store_row rfl _ _ _ rfl w2.heap.size (fields0 g) (by rfl) (by rfl) 131 _ (heap_alloc_new w2 _) (zero_of_info zero131).2 (by rfl) (by simp [Value.oneCell']) ?_
  refine hK _ _ ?_
  clear hK K
  refine wpAny_done (by kernel_rfl) ?_ _
  have R2 : Hid (((w2.alloc (.cells zeros8 131)).setRow w2.heap.size (fields0 g)).heap[w2.heap.size]? = some (.cells (fields0 g) 131 (0, 0))) := Lib.hid (setRow_heap _ w2.heap.size _ (fields0 g) 131 (0, 0) (heap_alloc_new w2 _))
  have R3 : Hid (((w2.alloc (.cells zeros8 131)).setRow w2.heap.size (fields0 g)).heap[w.heap.size]? = some (.cells zeros8 131 (0, 0))) := Lib.hid (by
    rw [setRow_other _ _ _ _ (by rw [R1.out.2.2]; omega), Below.heap_alloc _ _ _ (by rw [R1.out.2.2]; omega)]
    exact R1.out.1)
  have R4 : Hid (Below w.heap.size w ((w2.alloc (.cells zeros8 131)).setRow w2.heap.size (fields0 g))) := Lib.hid (below_setRow (R1.out.2.1.alloc (by rw [R1.out.2.2]; omega) _) (by rw [R1.out.2.2]; omega) _)
  have hb : Hid (w2.heap.size = w.heap.size + 1) := Lib.hid R1.out.2.2
  clear R1
  change Exit.then _ _ _ _ ((w2.alloc (.cells zeros8 131)).setRow w2.heap.size (fields0 g))
  generalize (w2.alloc (.cells zeros8 131)).setRow w2.heap.size (fields0 g) = w3 at *
  generalize w2.heap.size = b at *
  clear w2
  have hc : w3.cell? ⟨g, 0, none⟩ = some (.int .i64 k) := (R4.out.cell (p := ⟨g, 0, none⟩) hg).trans HC.out
  have R5 := R2
  have R6 := R3
  have R7 := R4
  clear R2 R3 R4
  have R5' : Hid (w3.heap[b]? = some (.cells (fields0 g) 131 (0, 0))) := Lib.hid R5.out
  have R6' : Hid (w3.heap[w.heap.size]? = some (.cells zeros8 131 (0, 0))) := Lib.hid R6.out
  have R7' : Hid (Below w.heap.size w w3) := Lib.hid ⟨R7.out.os, R7.out.tape, R7.out.output, R7.out.size, R7.out.block⟩
  clear R5 R6 R7
  go_upto_region 3 with (fail)
  go_wp2_with (first
    | (refine wpList_load_row (o := ⟨some 36, _, _, _, _, _⟩) rfl 131 (.tmp 4) rfl b (by rfl) 131 (fields0 g) (0, 0) _ R5'.out Tryz.underlying131 (by rfl) (zero_of_info zero131).2 ?_)
    | (refine wpList_store_row (o := ⟨none, .store _ _ _, _, _, _, _⟩) rfl 131 (.tmp 2) (.tmp 36) rfl w.heap.size (fields0 g) (by rfl) (by rfl) 131 zeros8 R6'.out (zero_of_info zero131).2 (by rfl) (by simp [Value.oneCell']) ?_))
  exact bodyPost_ret (results_cell_tmp Tryz.results53 _ _ w.heap.size 131 (fields0 g) (0, 0) _ (.bool false) (by rfl) (by rfl) (setRow_heap _ _ _ _ _ _ R6'.out) Tryz.underlying131 (by rfl) (zero_of_info zero131).2) rfl
    ⟨rfl, below_setRow R7'.out (Nat.le_refl _) _⟩
end Go.Proofs.YtcmndglhileeoaaGreat
