/- The walks of package policy: Right. -/
import Derived.Test.YtcmndglhileeoaaGreatQPolicy2
import Derived.Test.YtcmndglhileeoaaGreatQModel
import Derived.KernelRfl
import Derived.BigQuiet
set_option linter.unusedSimpArgs false
set_option linter.unusedVariables false
namespace Go.Proofs.YtcmndglhileeoaaGreat
open Go.RowKit

def tab1 : List (Nat × Int × Int) := [(0, 1, 2), (1, 1, 1048576), (2, 1, 65536), (3, 1, 65536), (6, 1, 1000), (7, 1, 64), (8, 0, 1000), (9, 1, 1000)]
def tab2 : List (Nat × Int × Int) := [(0, 1, 2), (1, 1, 1048576), (4, 1, 1048576), (5, 1, 32), (6, 1, 1000), (7, 1, 64), (8, 0, 1000), (9, 1, 1000)]
set_option maxRecDepth 100000 in
theorem index1 (g k : Nat) (off : Nat) (lo hi : Int) (h : tab1[k]? = some (off, lo, hi)) (w : World) : (Instr.index 131 (.agg (fields1 g)) (.int .i64 (k : Int))).run Tryz.prog w = .ok (.agg #[fp g off, .int .i64 lo, .int .i64 hi]) w := by
  have hk : k < 8 := (List.getElem?_eq_some_iff.1 h).1
  have hs : k = 0 ∨ k = 1 ∨ k = 2 ∨ k = 3 ∨ k = 4 ∨ k = 5 ∨ k = 6 ∨ k = 7 := by omega
  rcases hs with rfl | rfl | rfl | rfl | rfl | rfl | rfl | rfl <;> simp [tab1] at h <;> obtain ⟨rfl, rfl, rfl⟩ := h <;> rfl
set_option maxRecDepth 100000 in
theorem index2 (g k : Nat) (off : Nat) (lo hi : Int) (h : tab2[k]? = some (off, lo, hi)) (w : World) : (Instr.index 131 (.agg (fields2 g)) (.int .i64 (k : Int))).run Tryz.prog w = .ok (.agg #[fp g off, .int .i64 lo, .int .i64 hi]) w := by
  have hk : k < 8 := (List.getElem?_eq_some_iff.1 h).1
  have hs : k = 0 ∨ k = 1 ∨ k = 2 ∨ k = 3 ∨ k = 4 ∨ k = 5 ∨ k = 6 ∨ k = 7 := by omega
  rcases hs with rfl | rfl | rfl | rfl | rfl | rfl | rfl | rfl <;> simp [tab2] at h <;> obtain ⟨rfl, rfl, rfl⟩ := h <;> rfl

theorem wpList_alloc {P : Program} {ops : Array Oper} {rest : List Oper} {o : Oper} {a : Act} {w : World} {Q : Exit → Act → World → Prop} (hgd : o.guard = none) (t : TypeId) (ho : o.op = .alloc t) (z : Value)
    (hz : ∀ w, (zeroValue t).run P w = .ok z w) (h : wpList P ops Q rest (a.put o.dst (.pointer (some ⟨w.heap.size, 0, none⟩))) (w.alloc (.cells z.cells t))) : wpList P ops Q (o :: rest) a w :=
  wpList_plain hgd fun K hK => by
    unfold Oper.wp
    simp [execOp, ho, hz, Result.andThen, newVar, newRow, go_sem]
    exact hK _ _ h

abbrev polCells (p : Rv.Pol) : Array Value := #[.int .i64 p.kind, .int .i64 p.cap, .int .i64 p.num, .int .i64 p.den, .int .i64 p.width, .int .i64 p.count, .int .i64 p.keys, .int .i64 p.slots, .int .i64 p.every, .int .i64 p.seg]

def FieldsRes (w : World) (b : Bool) (F0 : Array Value) (e : Ending) (w' : World) : Prop := ∃ F, Hid (F = F0) ∧ e = .returned (.tuple #[.agg F, .bool b]) ∧ Below w.heap.size w w'
theorem fieldsN (g : Nat) (w : World) (k : Int) (h1 : k ≠ 1) (h2 : k ≠ 2) (hc : w.cell? ⟨g, 0, none⟩ = some (.int .i64 k)) : Calls Tryz.prog 53 #[.pointer (some ⟨g, 0, none⟩)] w (FieldsRes w false (fields0 g)) :=
  (fields_none g w k h1 h2 hc).mono fun _ _ h => ⟨_, Lib.hid rfl, h.1, h.2⟩
theorem F24 {F : Array Value} {g : Nat} (h : F = fields0 g ∨ F = fields1 g ∨ F = fields2 g) : F.size = 24 ∧ F.all (·.oneCell') = true := by
  rcases h with rfl | rfl | rfl <;> exact ⟨rfl, by simp [Value.oneCell']⟩

set_option maxHeartbeats 2000000 in
set_option maxRecDepth 100000 in
theorem right_none (p : Rv.Pol) (w : World) (h1 : p.kind ≠ 1) (h2 : p.kind ≠ 2) :
    Calls Tryz.prog 54 #[.agg #[.int .i64 p.kind, .int .i64 p.cap, .int .i64 p.num, .int .i64 p.den, .int .i64 p.width, .int .i64 p.count, .int .i64 p.keys, .int .i64 p.slots, .int .i64 p.every, .int .i64 p.seg]] w fun e w' => e = .returned (.int .i64 40) ∧ Below w.heap.size w w' := by
  have HB := Lib.hid (fun o => (Below.refl w.heap.size w).alloc (Nat.le_refl _) o)
  have H1 := Lib.hid h1
  have H2 := Lib.hid h2
  clear h1 h2
  go_enter Tryz.func54, Tryz.ntmps54
  go_wp2_with fail
  refine (fieldsN w.heap.size _ p.kind H1.out H2.out (by go_simp)).mono ?_
  rintro e w1 ⟨F, HF, rfl, b1⟩
  have HS := F24 (.inl HF.out)
  have hi : Hid ((Tryz.prog.info? 131).map (·.size) = some F.size) := Lib.hid (by rw [HS.1]; exact (zero_of_info zero131).2)
  have ho : Hid (zeros8.size = F.size) := Lib.hid (by rw [HS.1]; rfl)
  have h1c := Lib.hid HS.2
  clear HS
  have B1 := Lib.hid (below_then (HB.out _) (by simp) b1)
  clear b1
  go_upto_region 2 with (first
    | (refine wpList_alloc (o := ⟨some 3, .alloc _, _, _, _, _⟩) rfl 131 rfl (.agg zeros8) (zero_of_info zero131).1 ?_)
    | (refine wpList_store_row (o := ⟨none, .store _ _ _, _, _, _, _⟩) rfl 131 (.tmp 3) (.tmp 9) rfl w1.heap.size F (by rfl) (by rfl) 131 zeros8 (heap_alloc_new w1 _) hi.out ho.out h1c.out ?_; have R := Lib.hid (below_setRow (B1.out.alloc B1.out.size (.cells zeros8 131)) B1.out.size F); change wpList _ _ _ _ _ ((w1.alloc (.cells zeros8 131)).setRow w1.heap.size F); generalize (w1.alloc (.cells zeros8 131)).setRow w1.heap.size F = w9 at *; clear B1))
  clear hi ho h1c HF H1 H2 HB
  go_wp2_with fail
  go_ret
  exact ⟨rfl, R.out⟩
end Go.Proofs.YtcmndglhileeoaaGreat
