/- What a row's arguments are: slices of bytes that came in. No walk. -/
import Derived.Test.YtcmndglhileeoaaGreatQSepRToSepB
import Derived.Test.YtcmndglhileeoaaGreatRows
import Derived.ProofKit
import Derived.OpenShut
import Derived.ShutString
import Derived.ChangeOld
import Derived.Below
import Derived.SizedLaws
import Derived.ChangeSlices
set_option linter.unusedSimpArgs false
set_option linter.unusedVariables false
namespace Go.Proofs.YtcmndglhileeoaaGreat
open Go.ChangeShapes Go.WideShapes Go.ChangeAt Go.RowKit

theorem row_own : ownKnob Tryz.prog.godebug = none := by kernel_rfl
theorem row_laid : laidOutB Tryz.prog = true := by kernel_rfl
/-- The bytes behind whole numbers. -/
def toBs (zs : List Int) : List UInt8 := zs.map fun n => UInt8.ofNat n.toNat
theorem u8_wf {n : Int} (h : (Lit.int .u8 n).wf = true) : 0 ≤ n ∧ n < 256 := by
  simp only [Lit.wf, Bool.and_eq_true, decide_eq_true_eq] at h
  have h1 : IntKind.u8.min = 0 := by decide
  have h2 : IntKind.u8.max = 255 := by decide
  omega
theorem i64_wf {n : Int} (h : (Lit.int .i64 n).wf = true) : -9223372036854775808 ≤ n ∧ n ≤ 9223372036854775807 := by
  simp only [Lit.wf, Bool.and_eq_true, decide_eq_true_eq] at h
  have h1 : IntKind.i64.min = -9223372036854775808 := by decide
  have h2 : IntKind.i64.max = 9223372036854775807 := by decide
  omega
theorem cells_u8 : Tryz.prog.cellsOf 5 = 1 := by kernel_rfl
theorem bytes_u8 : Tryz.prog.bytesOf 5 = 1 := by kernel_rfl
set_option maxRecDepth 100000 in
/-- A slice of bytes that came in. -/
theorem open_bs {H : Type} {enc : TypeId × Value → H} {W : World} {base : Nat} {d : DataW H} {ps : List MemPlace} {v : Value} {ts : List TypeId} {ds : List (DataW H)} {j : Nat} (hsz : (DataW.weightsEach Tryz.prog ts ds).all (· ≤ reachBytes) = true)
    (ht : ts[j]? = some 22) (hd : ds[j]? = some d) (hv : Value.okWide Tryz.prog W .any base 22 v) (h : DataW.Trod enc Tryz.prog W 0 (fun _ => true) true 22 v d ps) :
    ∃ A xs c, v = .slice A (xs : List UInt8).length c ∧ RdB W A xs ∧ (A = none → c = 0) ∧ xs.length ≤ c ∧ c ≤ 9223372036854775807 ∧ xs.length ≤ 140737488351232 := by
  obtain ⟨a, len, cap, rfl⟩ := okWide_slice Tryz.underlying22 hv
  obtain ⟨fuel, hf⟩ := h
  rcases open_ints Tryz.underlying22 Tryz.underlying5 cells_u8 hf with ⟨hcs, _⟩ | ⟨x, l, c, zs, hcs, _, hl, hm, hz, hx, hcell, hwz⟩
  · simp [Value.cells] at hcs
    obtain ⟨rfl, rfl, rfl⟩ := hcs
    exact ⟨none, [], 0, rfl, RdB.nil _ _, fun _ => rfl, Nat.le_refl _, by omega, by simp⟩
  · simp [Value.cells] at hcs
    obtain ⟨rfl, rfl, rfl⟩ := hcs
    have hzl : zs.length = cap := by simpa using hz
    have hlen : (toBs (zs.take len)).length = len := by simp only [toBs, List.length_map, List.length_take]; omega
    refine ⟨some x, toBs (zs.take len), cap, by rw [hlen], ?_, by simp, by omega, by unfold maxLen at hm; omega, ?_⟩
    · intro i u hu
      refine ⟨x, rfl, ?_⟩
      have hi : i < len := by have := (List.getElem?_eq_some_iff.1 hu).1; omega
      rw [hcell i (by omega)]
      have hiz : i < zs.length := by omega
      have hg : zs.getD i 0 = zs[i] := by simp [List.getD, hiz]
      have hw := u8_wf (hwz zs[i] (List.getElem_mem _))
      have hu2 : u = UInt8.ofNat zs[i].toNat := by
        simp only [toBs, List.getElem?_map, List.getElem?_take, if_pos hi, List.getElem?_eq_getElem hiz, Option.map_some] at hu
        injection hu with hu
        exact hu.symm
      rw [hg, hu2]
      have hb : (UInt8.ofNat zs[i].toNat).toNat = zs[i].toNat := by
        rw [UInt8.toNat_ofNat']
        omega
      rw [hb]
      congr 2
      omega
    · rw [hlen]
      obtain ⟨hx2, _⟩ := Prod.mk.inj hx
      subst hx2
      have z := sized_slice hsz ht hd Tryz.underlying22
      have hb := bytes_u8
      simp only [lits, List.length_map, List.length_take, List.length_drop, hb, Nat.mul_one] at z
      have hr : reachBytes = 140737488351232 := rfl
      rw [Nat.min_eq_left (by omega), hr] at z
      omega
end Go.Proofs.YtcmndglhileeoaaGreat
