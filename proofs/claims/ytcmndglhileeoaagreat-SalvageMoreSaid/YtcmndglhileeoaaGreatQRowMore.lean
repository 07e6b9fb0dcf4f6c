/- The law SalvageMore answers true at every input, and what came in reads as before. No condition. -/
import Derived.Test.YtcmndglhileeoaaGreatQRow
import Derived.Test.YtcmndglhileeoaaGreatQMoreToLongest
set_option linter.unusedVariables false
namespace Go.Proofs.YtcmndglhileeoaaGreat.salvageMoreRow
open Go.ChangeShapes Go.WideShapes Go.ChangeAt Go.RowKit
open Rv (HP Sat Same allOf sat_all RdIn)

set_option maxRecDepth 100000 in
theorem lifted (os : Os) (started : os.Started) (H : Type) (enc : TypeId × Value → H) :
    ReturnsInHanded {} Tryz.checked os 5 .any (Rows.salvageMoreSpec.pre6 enc Tryz.prog Tryz.f5 Rows.salvageMoreRow.domain false) (Rows.salvageMoreSpec.post enc Tryz.prog Tryz.f5 false true false false) := by
  refine returnsInHanded_of_change_sized (C := Tryz.checked) row_own started (by kernel_rfl) Tryz.func5
    (ChangeSpec.witness6 (enc := enc) (C := Tryz.checked) false ⟨#[], #[.slice none 0 0, .int .i64 0, .int .i64 0], []⟩ 8 (by kernel_rfl) (by kernel_rfl) (by kernel_rfl) (by kernel_rfl)) ?_
  intro W base args ds gs before hval0 hW hcnd hsz0 _
  have hsz : (DataW.weightsEach Tryz.prog (Tryz.f5.params.toList ++ Rows.salvageMoreSpec.plain.varTypes Tryz.prog) (ds ++ gs)).all (· ≤ reachBytes) = true := hsz0
  have hval : ∀ (j : Nat) t v, Tryz.f5.params[j]? = some t → args[j]? = some v → Value.okWide Tryz.prog W .any base t v := hval0
  have hW' := hW
  obtain ⟨p, q, hA0, hV, rfl, hfz, hnd⟩ := hW
  have hA : DataW.TrodAll enc Tryz.prog W 0 (fun _ => true) true Tryz.f5.params.toList args.toList ds p := hA0
  rw [Tryz.params5] at hA hval hsz
  obtain ⟨v0, v1, v2, d0, d1, d2, p0, p1, p2, rfl, rfl, rfl, h0, h1, h2⟩ := trodAll_three hA
  obtain ⟨rfl, rfl⟩ := trodVars_none hV
  obtain ⟨A, xs, c, rfl, hr, hnil, hc, hcm, hm⟩ := open_bs hsz (j := 0) rfl rfl (hval 0 22 v0 rfl rfl) h0
  obtain ⟨a, rfl, rfl, rfl, wa⟩ := open_int Tryz.underlying3 (hval 1 3 v1 rfl rfl) h1
  obtain ⟨b, rfl, rfl, rfl, wb⟩ := open_int Tryz.underlying3 (hval 2 3 v2 rfl rfl) h2
  have lt0 : ∀ x ∈ p0, x.block < W.heap.size := by obtain ⟨m, hm⟩ := h0; exact DataW.trod_lt m _ _ _ hm
  have ha := i64_wf wa
  have hb := i64_wf wb
  clear hA0 hval0 hsz0 hsz
  refine (smore_any (allOf W) A xs c a b W (sat_all W) (RdIn.all hr.toV) hnil hc (by omega) ha.1 ha.2 hb.1 hb.2 hcm).mono fun e W' ⟨he, hs, hz⟩ => ?_
  have bel : Below W.heap.size W W' := hz.to_below hs.one
  subst he
  exact ⟨_, rfl, _, _, _, [], _, [], hW', trodAll_mk1 (shut_bool Tryz.underlying4 _), trodAll_mk3 (Below.trod row_laid (by kernel_rfl) (of_decide_eq_true (by kernel_rfl)) h0 bel lt0) (shut_int Tryz.underlying3 wa) (shut_int Tryz.underlying3 wb), rfl, bel.frame _, fun h => by cases h⟩
theorem over : Rows.salvageMoreRow.holds Tryz.pinned (OpenSpec.ofChange Rows.salvageMoreSpec) :=
  OpenClaim.holds_of_wide 5 Tryz.f5 rfl rfl rfl rfl rfl rfl rfl ⟨rfl, rfl, rfl, rfl, rfl⟩ rfl rfl rfl rfl rfl (by kernel_rfl) Tryz.func5 (by kernel_rfl)
    (of_decide_eq_true (by kernel_rfl)) (by unfold Func.isWrapper; first | (rw [if_pos (by decide +kernel)]; kernel_rfl) | (rw [if_neg (by decide +kernel)]; exact ⟨rfl, rfl⟩))
    (fun os started H enc _ => lifted os started H enc)
end Go.Proofs.YtcmndglhileeoaaGreat.salvageMoreRow
namespace Go.Proofs.YtcmndglhileeoaaGreat
theorem salvageMore_holds : Rows.SalvageMoreSaid := salvageMoreRow.over
#print axioms salvageMore_holds
end Go.Proofs.YtcmndglhileeoaaGreat
