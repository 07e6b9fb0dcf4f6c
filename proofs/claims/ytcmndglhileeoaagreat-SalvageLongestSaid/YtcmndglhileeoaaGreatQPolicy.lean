/- The walks of package policy. Conditions: the policy's cells lie in a block of their own. -/
import Derived.Test.YtcmndglhileeoaaGreatQHeap
import Derived.Deep.Cut
import Derived.Deep.WholeRow
import Derived.RegionTactic
set_option linter.unusedSimpArgs false
set_option linter.unusedVariables false
namespace Go.Proofs.YtcmndglhileeoaaGreat
open Go.RowKit

abbrev fp (g o : Nat) : Value := .pointer (some ⟨g, o, none⟩)
abbrev fields0 (g : Nat) : Array Value := #[fp g 0, .int .i64 1, .int .i64 2, fp g 1, .int .i64 1, .int .i64 1048576, .pointer none, .int .i64 0, .int .i64 0, .pointer none, .int .i64 0, .int .i64 0, fp g 6, .int .i64 1, .int .i64 1000, fp g 7, .int .i64 1, .int .i64 64, fp g 8, .int .i64 0, .int .i64 1000, fp g 9, .int .i64 1, .int .i64 1000]
abbrev fields1 (g : Nat) : Array Value := #[fp g 0, .int .i64 1, .int .i64 2, fp g 1, .int .i64 1, .int .i64 1048576, fp g 2, .int .i64 1, .int .i64 65536, fp g 3, .int .i64 1, .int .i64 65536, fp g 6, .int .i64 1, .int .i64 1000, fp g 7, .int .i64 1, .int .i64 64, fp g 8, .int .i64 0, .int .i64 1000, fp g 9, .int .i64 1, .int .i64 1000]
abbrev fields2 (g : Nat) : Array Value := #[fp g 0, .int .i64 1, .int .i64 2, fp g 1, .int .i64 1, .int .i64 1048576, fp g 4, .int .i64 1, .int .i64 1048576, fp g 5, .int .i64 1, .int .i64 32, fp g 6, .int .i64 1, .int .i64 1000, fp g 7, .int .i64 1, .int .i64 64, fp g 8, .int .i64 0, .int .i64 1000, fp g 9, .int .i64 1, .int .i64 1000]

theorem step_alloc {P : Program} {ops : Array Oper} {o : Oper} {a : Act} {w : World} {K : Act → World → Prop} {Q : Exit → Act → World → Prop} {E : Prop} (hgd : o.guard = none) (t : TypeId) (ho : o.op = .alloc t) (z : Value)
    (hz : ∀ w, (zeroValue t).run P w = .ok z w) (h : K (a.put o.dst (.pointer (some ⟨w.heap.size, 0, none⟩))) (w.alloc (.cells z.cells t))) :
    if Region.wanted o (yielded ops a.tmps) = true then Oper.wp P o a w K Q else E := by
  have hw : Region.wanted o (yielded ops a.tmps) = true := by simp [Region.wanted, hgd]
  rw [if_pos hw]
  unfold Oper.wp
  simp [execOp, ho, hz, Result.andThen, newVar, newRow, go_sem]
  exact h

theorem step_store_row {P : Program} {ops : Array Oper} {o : Oper} {a : Act} {w : World} {K : Act → World → Prop} {Q : Exit → Act → World → Prop} {E : Prop} (hgd : o.guard = none) (ty : TypeId) (x y : Operand) (ho : o.op = .store ty x y)
    (g : Nat) (cells : Array Value) (hx : a.eval x = .pointer (some ⟨g, 0, none⟩)) (hy : a.eval y = .agg cells)
    (t : TypeId) (old : Array Value) (hg : w.heap[g]? = some (.cells old t (0, 0))) (hi : (P.info? ty).map (·.size) = some cells.size)
    (hold : old.size = cells.size) (h1 : cells.all (·.oneCell') = true) (h : K (a.put o.dst undef) (w.setRow g cells)) :
    if Region.wanted o (yielded ops a.tmps) = true then Oper.wp P o a w K Q else E := by
  have hw : Region.wanted o (yielded ops a.tmps) = true := by simp [Region.wanted, hgd]
  rw [if_pos hw]
  exact wp_store_row ty x y ho g cells hx hy t old hg hi hold h1 h

theorem results_cell_tmp {P : Program} {fn : Func} {p q : Tmp} {ty : TypeId} (h : fn.results = #[.cell p ty, .tmp q]) (tmps : Array Value) (w : World) (g : Nat) (t : TypeId) (cs : Array Value) (fr : Nat × Nat) (d : TypeDesc) (v : Value)
    (hp : tmps.getD p undef = .pointer (some ⟨g, 0, none⟩)) (hq : tmps.getD q undef = v) (hg : w.heap[g]? = some (.cells cs t fr))
    (hu : P.underlying ty = some d) (hd : (match d with | .struct _ | .array _ _ => true | _ => false) = true) (hi : (P.info? ty).map (·.size) = some cs.size) :
    (results fn tmps).run P w = .ok (.tuple #[.agg cs, v]) w := by
  have hp' : tmps[p]?.getD undef = .pointer (some ⟨g, 0, none⟩) := by simpa using hp
  have hq' : tmps[q]?.getD undef = v := by simpa using hq
  simp [results, h, hp', hq', asAddr, run_loadVar_row w g t ty cs fr d hg hu hd hi]

theorem zero131 : (Tryz.prog.info? 131).map (fun i => (i.zero, i.size)) = some (some (.agg #[.pointer none, .int .i64 0, .int .i64 0, .pointer none, .int .i64 0, .int .i64 0, .pointer none, .int .i64 0, .int .i64 0, .pointer none, .int .i64 0, .int .i64 0, .pointer none, .int .i64 0, .int .i64 0, .pointer none, .int .i64 0, .int .i64 0, .pointer none, .int .i64 0, .int .i64 0, .pointer none, .int .i64 0, .int .i64 0]), 24) := by kernel_rfl

theorem six_sets (w : World) (b g : Nat) (p q : Nat) (l1 t1 l2 t2 : Int) (F : Array Value) (e : TypeId) (h : w.heap[b]? = some (.cells F e (0, 0))) :
    ((((((w.setCell ⟨b, 6, none⟩ (fp g p)).setCell ⟨b, 7, none⟩ (.int .i64 l1)).setCell ⟨b, 8, none⟩ (.int .i64 t1)).setCell ⟨b, 9, none⟩ (fp g q)).setCell ⟨b, 10, none⟩ (.int .i64 l2)).setCell ⟨b, 11, none⟩ (.int .i64 t2)).heap[b]? =
      some (.cells ((((((F.setIfInBounds 6 (fp g p)).setIfInBounds 7 (.int .i64 l1)).setIfInBounds 8 (.int .i64 t1)).setIfInBounds 9 (fp g q)).setIfInBounds 10 (.int .i64 l2)).setIfInBounds 11 (.int .i64 t2)) e (0, 0)) ∧
    Kept (fun k => k = b) w ((((((w.setCell ⟨b, 6, none⟩ (fp g p)).setCell ⟨b, 7, none⟩ (.int .i64 l1)).setCell ⟨b, 8, none⟩ (.int .i64 t1)).setCell ⟨b, 9, none⟩ (fp g q)).setCell ⟨b, 10, none⟩ (.int .i64 l2)).setCell ⟨b, 11, none⟩ (.int .i64 t2)) := by
  refine ⟨set_at (set_at (set_at (set_at (set_at (set_at h 6 _) 7 _) 8 _) 9 _) 10 _) 11 _, ?_⟩
  have k0 : Kept (fun k => k = b) w w := Kept.refl _ _
  exact (((((k0.setCell ⟨b, 6, none⟩ _ (.inl rfl)).setCell ⟨b, 7, none⟩ _ (.inl rfl)).setCell ⟨b, 8, none⟩ _ (.inl rfl)).setCell ⟨b, 9, none⟩ _ (.inl rfl)).setCell ⟨b, 10, none⟩ _ (.inl rfl)).setCell ⟨b, 11, none⟩ _ (.inl rfl)

abbrev zeros8 : Array Value := #[.pointer none, .int .i64 0, .int .i64 0, .pointer none, .int .i64 0, .int .i64 0, .pointer none, .int .i64 0, .int .i64 0, .pointer none, .int .i64 0, .int .i64 0, .pointer none, .int .i64 0, .int .i64 0, .pointer none, .int .i64 0, .int .i64 0, .pointer none, .int .i64 0, .int .i64 0, .pointer none, .int .i64 0, .int .i64 0]

set_option maxHeartbeats 2000000 in
set_option maxRecDepth 100000 in
theorem fields_one (g : Nat) (w : World) (hc : w.cell? ⟨g, 0, none⟩ = some (.int .i64 1)) :
    Calls Tryz.prog 53 #[.pointer (some ⟨g, 0, none⟩)] w fun e w' => e = .returned (.tuple #[.agg (fields1 g), .bool true]) ∧ Below w.heap.size w w' := by
  have hg := World.block_lt_of_cell? w _ hc
  simp only at hg
  go_enter Tryz.func53, Tryz.ntmps53
  go_upto_region 1 with (fail)
  have R1 : Hid ((w.alloc (.cells zeros8 131)).drew.heap[w.heap.size]? = some (.cells zeros8 131 (0, 0)) ∧ Below w.heap.size w (w.alloc (.cells zeros8 131)).drew ∧ (w.alloc (.cells zeros8 131)).drew.heap.size = w.heap.size + 1) := Lib.hid ⟨heap_alloc_new w _, ⟨rfl, rfl, rfl, by show _ ≤ (w.heap.push _).size; simp, fun k hk => Below.heap_alloc w _ k hk⟩, by show (w.heap.push _).size = _; simp⟩
  have HC := Lib.hid hc
  clear hc
  refine wp_region_any (by kernel_rfl) ?_
  change wpAny _ _ _ _ _ _ _ (World.drew _)
  generalize (w.alloc (.cells zeros8 131)).drew = w2 at *
  refine wpAny_take (i := 0) (v := ?_) rfl (by kernel_rfl) (by kernel_rfl) (by kernel_rfl) (fun _ _ _ h => h) (Or.inl ⟨by rfl, ?_⟩) ?_
  rotate_left
  · intro w; go_simp
    try with_reducible rfl
  refine wpAny_take (i := 1) (v := ?_) rfl (by kernel_rfl) (by kernel_rfl) (by kernel_rfl) (fun _ _ _ h => h) (Or.inl ⟨by rfl, ?_⟩) ?_
  rotate_left
  · intro w; go_simp
    try with_reducible rfl
  refine wpAny_take (i := 2) (v := ?_) rfl (by kernel_rfl) (by kernel_rfl) (by kernel_rfl) (fun _ _ _ h => h) (Or.inl ⟨by rfl, ?_⟩) ?_
  rotate_left
  · intro w; go_simp
    try with_reducible rfl
  refine wpAny_take (i := 3) (v := ?_) rfl (by kernel_rfl) (by kernel_rfl) (by kernel_rfl) (fun _ _ _ h => h) (Or.inl ⟨by rfl, ?_⟩) ?_
  rotate_left
  · intro w; go_simp
    try with_reducible rfl
  refine wpAny_take (i := 4) (v := ?_) rfl (by kernel_rfl) (by kernel_rfl) (by kernel_rfl) (fun _ _ _ h => h) (Or.inl ⟨by rfl, ?_⟩) ?_
  rotate_left
  · intro w; go_simp
    try with_reducible rfl
  refine wpAny_take (i := 5) (v := ?_) rfl (by kernel_rfl) (by kernel_rfl) (by kernel_rfl) (fun _ _ _ h => h) (Or.inl ⟨by rfl, ?_⟩) ?_
  rotate_left
  · intro w; go_simp
    try with_reducible rfl
  refine wpAny_take (i := 6) (v := ?_) rfl (by kernel_rfl) (by kernel_rfl) (by kernel_rfl) (fun _ _ _ h => h) (Or.inl ⟨by rfl, ?_⟩) ?_
  rotate_left
  · intro w; go_simp
    try with_reducible rfl
  refine wpAny_take (i := 7) (v := ?_) rfl (by kernel_rfl) (by kernel_rfl) (by kernel_rfl) (fun _ _ _ h => h) (Or.inl ⟨by rfl, ?_⟩) ?_
  rotate_left
  · intro w; go_simp
    try with_reducible rfl
  refine wpAny_take (i := 8) (v := ?_) rfl (by kernel_rfl) (by kernel_rfl) (by kernel_rfl) (fun _ _ _ h => h) (Or.inl ⟨by rfl, ?_⟩) ?_
  rotate_left
  · intro w; go_simp
    try with_reducible rfl
  refine wpAny_take (i := 9) (v := ?_) rfl (by kernel_rfl) (by kernel_rfl) (by kernel_rfl) (fun _ _ _ h => h) (Or.inl ⟨by rfl, ?_⟩) ?_
  rotate_left
  · intro w; go_simp
    try with_reducible rfl
  refine wpAny_take (i := 10) (v := ?_) rfl (by kernel_rfl) (by kernel_rfl) (by kernel_rfl) (fun _ _ _ h => h) (Or.inl ⟨by rfl, ?_⟩) ?_
  rotate_left
  · intro w; go_simp
    try with_reducible rfl
  refine wpAny_take (i := 11) (v := ?_) rfl (by kernel_rfl) (by kernel_rfl) (by kernel_rfl) (fun _ _ _ h => h) (Or.inl ⟨by rfl, ?_⟩) ?_
  rotate_left
  · intro w; go_simp
    try with_reducible rfl
  refine wpAny_take (i := 12) (v := ?_) rfl (by kernel_rfl) (by kernel_rfl) (by kernel_rfl) (fun _ _ _ h => h) (Or.inl ⟨by rfl, ?_⟩) ?_
  rotate_left
  · intro w; go_simp
    try with_reducible rfl
  refine wpAny_take (i := 13) (v := ?_) rfl (by kernel_rfl) (by kernel_rfl) (by kernel_rfl) (fun _ _ _ h => h) (Or.inl ⟨by rfl, ?_⟩) ?_
  rotate_left
  · intro w; go_simp
    try with_reducible rfl
  refine wpAny_take (i := 14) (v := ?_) rfl (by kernel_rfl) (by kernel_rfl) (by kernel_rfl) (fun _ _ _ h => h) (Or.inl ⟨by rfl, ?_⟩) ?_
  rotate_left
  · intro w; go_simp
    try with_reducible rfl
  refine wpAny_take (i := 15) (v := ?_) rfl (by kernel_rfl) (by kernel_rfl) (by kernel_rfl) (fun _ _ _ h => h) (Or.inl ⟨by rfl, ?_⟩) ?_
  rotate_left
  · intro w; go_simp
    try with_reducible rfl
  refine wpAny_take (i := 16) (v := ?_) rfl (by kernel_rfl) (by kernel_rfl) (by kernel_rfl) (fun _ _ _ h => h) (Or.inl ⟨by rfl, ?_⟩) ?_
  rotate_left
  · intro w; go_simp
    try with_reducible rfl
  refine wpAny_take (i := 17) (v := ?_) rfl (by kernel_rfl) (by kernel_rfl) (by kernel_rfl) (fun _ _ _ h => h) (Or.inl ⟨by rfl, ?_⟩) ?_
  rotate_left
  · intro w; go_simp
    try with_reducible rfl
  refine wpAny_take (i := 18) (v := ?_) rfl (by kernel_rfl) (by kernel_rfl) (by kernel_rfl) (fun _ _ _ h => h) (Or.inl ⟨by rfl, ?_⟩) ?_
  rotate_left
  · intro w; go_simp
    try with_reducible rfl
  refine wpAny_take (i := 19) (v := ?_) rfl (by kernel_rfl) (by kernel_rfl) (by kernel_rfl) (fun _ _ _ h => h) (Or.inl ⟨by rfl, ?_⟩) ?_
  rotate_left
  · intro w; go_simp
    try with_reducible rfl
  refine wpAny_take (i := 20) (v := ?_) rfl (by kernel_rfl) (by kernel_rfl) (by kernel_rfl) (fun _ _ _ h => h) (Or.inl ⟨by rfl, ?_⟩) ?_
  rotate_left
  · intro w; go_simp
    try with_reducible rfl
  refine wpAny_take (i := 21) (v := ?_) rfl (by kernel_rfl) (by kernel_rfl) (by kernel_rfl) (fun _ _ _ h => h) (Or.inl ⟨by rfl, ?_⟩) ?_
  rotate_left
  · intro w; go_simp
    try with_reducible rfl
  refine wpAny_take (i := 22) (v := ?_) rfl (by kernel_rfl) (by kernel_rfl) (by kernel_rfl) (fun _ _ _ h => h) (Or.inl ⟨by rfl, ?_⟩) ?_
  rotate_left
  · intro w; go_simp
    try with_reducible rfl
  refine wpAny_take (i := 23) (v := ?_) rfl (by kernel_rfl) (by kernel_rfl) (by kernel_rfl) (fun _ _ _ h => h) (Or.inl ⟨by rfl, ?_⟩) ?_
  rotate_left
  · intro w; go_simp
    try with_reducible rfl
  refine wpAny_take (i := 24) (v := ?_) rfl (by kernel_rfl) (by kernel_rfl) (by kernel_rfl) (fun _ _ _ h => h) (Or.inl ⟨by rfl, ?_⟩) ?_
  rotate_left
  · intro w; go_simp
    try with_reducible rfl
  refine wpAny_take (i := 25) (v := ?_) rfl (by kernel_rfl) (by kernel_rfl) (by kernel_rfl) (fun _ _ _ h => h) (Or.inl ⟨by rfl, ?_⟩) ?_
  rotate_left
  · intro w; go_simp
    try with_reducible rfl
  refine wpAny_take (i := 26) (v := ?_) rfl (by kernel_rfl) (by kernel_rfl) (by kernel_rfl) (fun _ _ _ h => h) (Or.inl ⟨by rfl, ?_⟩) ?_
  rotate_left
  · intro w; go_simp
    try with_reducible rfl
  conv => arg 7; simp [Act.put, go_sem]
  refine wpAny_ready (rs := [27]) (by kernel_rfl) (by simp) ?_
  refine AllReady.cons rfl (fun K hK => ?_) AllReady.nil
  refine step_alloc rfl _ rfl _ (zero_of_info zero131).1 ?_
  refine hK _ _ ?_
  clear hK K
  conv => arg 7; simp [Act.put, go_sem]
  refine wpAny_ready (rs := [28]) (by kernel_rfl) (by simp) ?_
  refine AllReady.cons rfl (fun K hK => ?_) AllReady.nil
  refine step_store_row rfl _ _ _ rfl w2.heap.size (fields0 g) (by rfl) (by rfl) 131 _ (heap_alloc_new w2 _) (zero_of_info zero131).2 (by rfl) (by simp [Value.oneCell']) ?_
  refine hK _ _ ?_
  clear hK K
  refine wpAny_done (by kernel_rfl) ?_ _
  have R2 : Hid (((w2.alloc (.cells zeros8 131)).setRow w2.heap.size (fields0 g)).heap[w2.heap.size]? = some (.cells (fields0 g) 131 (0, 0))) := Lib.hid (setRow_heap _ w2.heap.size _ (fields0 g) 131 (0, 0) (heap_alloc_new w2 _))
  have R3 : Hid (((w2.alloc (.cells zeros8 131)).setRow w2.heap.size (fields0 g)).heap[w.heap.size]? = some (.cells zeros8 131 (0, 0))) := Lib.hid (by
    rw [setRow_other _ _ _ _ (by rw [R1.out.2.2]; omega), Below.heap_alloc _ _ _ (by rw [R1.out.2.2]; omega)]
    exact R1.out.1)
  have R4 : Hid (Below w.heap.size w ((w2.alloc (.cells zeros8 131)).setRow w2.heap.size (fields0 g))) := Lib.hid (below_setRow (R1.out.2.1.alloc (by rw [R1.out.2.2]; omega) _) (by rw [R1.out.2.2]; omega) _)
  have hb : Hid (w2.heap.size = w.heap.size + 1) := Lib.hid R1.out.2.2
  clear R1
  change Exit.then _ _ _ _ ((w2.alloc (.cells zeros8 131)).setRow w2.heap.size (fields0 g))
  generalize (w2.alloc (.cells zeros8 131)).setRow w2.heap.size (fields0 g) = w3 at *
  generalize w2.heap.size = b at *
  clear w2
  have hc : w3.cell? ⟨g, 0, none⟩ = some (.int .i64 1) := (R4.out.cell (p := ⟨g, 0, none⟩) hg).trans HC.out
  go_upto_region 5 with (fail)
  have d6 : w3.cell? ⟨b, 6, none⟩ = some (.pointer none) := by rw [cells_of R2.out]; rfl
  have d7 : w3.cell? ⟨b, 7, none⟩ = some (.int .i64 0) := by rw [cells_of R2.out]; rfl
  have d8 : w3.cell? ⟨b, 8, none⟩ = some (.int .i64 0) := by rw [cells_of R2.out]; rfl
  have d9 : w3.cell? ⟨b, 9, none⟩ = some (.pointer none) := by rw [cells_of R2.out]; rfl
  have d10 : w3.cell? ⟨b, 10, none⟩ = some (.int .i64 0) := by rw [cells_of R2.out]; rfl
  have d11 : w3.cell? ⟨b, 11, none⟩ = some (.int .i64 0) := by rw [cells_of R2.out]; rfl
  have df : ∀ i, w3.frozen? ⟨b, i, none⟩ = false := frozen_of R2.out
  go_region
  have S1 := Lib.hid (six_sets w3 b g 2 3 1 65536 1 65536 (fields0 g) 131 R2.out)
  clear d6 d7 d8 d9 d10 d11 df hc
  generalize hw4 : World.setCell (World.setCell (World.setCell (World.setCell (World.setCell (World.setCell w3 _ _) _ _) _ _) _ _) _ _) _ _ = w4 at *
  clear hw4
  have R5 : Hid (w4.heap[b]? = some (.cells (fields1 g) 131 (0, 0))) := Lib.hid S1.out.1
  have R6 : Hid (w4.heap[w.heap.size]? = some (.cells zeros8 131 (0, 0))) := Lib.hid (by rw [S1.out.2.block _ (Array.getElem?_eq_some_iff.1 R3.out).1 (by rw [hb.out]; omega)]; exact R3.out)
  have R7 : Hid (Below w.heap.size w w4) := Lib.hid (R4.out.trans (S1.out.2.below R4.out.size (fun k hk e => by rw [hb.out] at e; omega)))
  clear S1 R2 R3 R4
  have R5' : Hid (w4.drew.heap[b]? = some (.cells (fields1 g) 131 (0, 0))) := Lib.hid R5.out
  have R6' : Hid (w4.drew.heap[w.heap.size]? = some (.cells zeros8 131 (0, 0))) := Lib.hid R6.out
  have R7' : Hid (Below w.heap.size w w4.drew) := Lib.hid ⟨R7.out.os, R7.out.tape, R7.out.output, R7.out.size, R7.out.block⟩
  clear R5 R6 R7
  generalize w4.drew = w5 at *
  clear w4
  go_upto_region 8 with (fail)
  go_wp2_with (first
    | (refine wpList_load_row (o := ⟨some 61, _, _, _, _, _⟩) rfl 131 (.tmp 4) rfl b (by rfl) 131 (fields1 g) (0, 0) _ R5'.out Tryz.underlying131 (by rfl) (zero_of_info zero131).2 ?_)
    | (refine wpList_store_row (o := ⟨none, .store _ _ _, _, _, _, _⟩) rfl 131 (.tmp 2) (.tmp 61) rfl w.heap.size (fields1 g) (by rfl) (by rfl) 131 zeros8 R6'.out (zero_of_info zero131).2 (by rfl) (by simp [Value.oneCell']) ?_))
  exact bodyPost_ret (results_cell_tmp Tryz.results53 _ _ w.heap.size 131 (fields1 g) (0, 0) _ (.bool true) (by rfl) (by rfl) (setRow_heap _ _ _ _ _ _ R6'.out) Tryz.underlying131 (by rfl) (zero_of_info zero131).2) rfl
    ⟨rfl, below_setRow R7'.out (Nat.le_refl _) _⟩
end Go.Proofs.YtcmndglhileeoaaGreat
