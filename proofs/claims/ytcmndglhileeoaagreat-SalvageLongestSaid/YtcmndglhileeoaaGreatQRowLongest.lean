/- The law SalvageLongest answers true at every input, and what came in reads as before. No condition. -/
import Derived.Test.YtcmndglhileeoaaGreatQRow
import Derived.Test.YtcmndglhileeoaaGreatQMoreToLongest
set_option linter.unusedVariables false
namespace Go.Proofs.YtcmndglhileeoaaGreat.salvageLongestRow
open Go.ChangeShapes Go.WideShapes Go.ChangeAt Go.RowKit
open Rv (HP Sat Same allOf sat_all RdIn)

set_option maxRecDepth 100000 in
theorem lifted (os : Os) (started : os.Started) (H : Type) (enc : TypeId × Value → H) :
    ReturnsInHanded {} Tryz.checked os 6 .any (Rows.salvageLongestSpec.pre6 enc Tryz.prog Tryz.f6 Rows.salvageLongestRow.domain false) (Rows.salvageLongestSpec.post enc Tryz.prog Tryz.f6 false true false false) := by
  refine returnsInHanded_of_change_sized (C := Tryz.checked) row_own started (by kernel_rfl) Tryz.func6
    (ChangeSpec.witness6 (enc := enc) (C := Tryz.checked) false ⟨#[], #[.slice none 0 0], []⟩ 8 (by kernel_rfl) (by kernel_rfl) (by kernel_rfl) (by kernel_rfl)) ?_
  intro W base args ds gs before hval0 hW hcnd hsz0 _
  have hsz : (DataW.weightsEach Tryz.prog (Tryz.f6.params.toList ++ Rows.salvageLongestSpec.plain.varTypes Tryz.prog) (ds ++ gs)).all (· ≤ reachBytes) = true := hsz0
  have hval : ∀ (j : Nat) t v, Tryz.f6.params[j]? = some t → args[j]? = some v → Value.okWide Tryz.prog W .any base t v := hval0
  have hW' := hW
  obtain ⟨p, q, hA0, hV, rfl, hfz, hnd⟩ := hW
  have hA : DataW.TrodAll enc Tryz.prog W 0 (fun _ => true) true Tryz.f6.params.toList args.toList ds p := hA0
  rw [Tryz.params6] at hA hval hsz
  obtain ⟨v0, d0, rfl, rfl, h0⟩ := trodAll_one hA
  obtain ⟨rfl, rfl⟩ := trodVars_none hV
  obtain ⟨A, xs, c, rfl, hr, hnil, hc, hcm, hm⟩ := open_bs hsz (j := 0) rfl rfl (hval 0 22 v0 rfl rfl) h0
  have lt0 : ∀ x ∈ p, x.block < W.heap.size := by obtain ⟨m, hm⟩ := h0; exact DataW.trod_lt m _ _ _ hm
  clear hA0 hval0 hsz0 hsz
  refine (slongest_any (allOf W) A xs c W (sat_all W) (RdIn.all hr.toV) hnil hc (by omega) hcm).mono fun e W' ⟨he, hs, hz⟩ => ?_
  have bel : Below W.heap.size W W' := hz.to_below hs.one
  subst he
  exact ⟨_, rfl, _, _, _, [], _, [], hW', trodAll_mk1 (shut_bool Tryz.underlying4 _), trodAll_mk1 (Below.trod row_laid (by kernel_rfl) (of_decide_eq_true (by kernel_rfl)) h0 bel lt0), rfl, bel.frame _, fun h => by cases h⟩
theorem over : Rows.salvageLongestRow.holds Tryz.pinned (OpenSpec.ofChange Rows.salvageLongestSpec) :=
  OpenClaim.holds_of_wide 6 Tryz.f6 rfl rfl rfl rfl rfl rfl rfl ⟨rfl, rfl, rfl, rfl, rfl⟩ rfl rfl rfl rfl rfl (by kernel_rfl) Tryz.func6 (by kernel_rfl)
    (of_decide_eq_true (by kernel_rfl)) (by unfold Func.isWrapper; first | (rw [if_pos (by decide +kernel)]; kernel_rfl) | (rw [if_neg (by decide +kernel)]; exact ⟨rfl, rfl⟩))
    (fun os started H enc _ => lifted os started H enc)
end Go.Proofs.YtcmndglhileeoaaGreat.salvageLongestRow
namespace Go.Proofs.YtcmndglhileeoaaGreat
theorem salvageLongest_holds : Rows.SalvageLongestSaid := salvageLongestRow.over
#print axioms salvageLongest_holds
end Go.Proofs.YtcmndglhileeoaaGreat
