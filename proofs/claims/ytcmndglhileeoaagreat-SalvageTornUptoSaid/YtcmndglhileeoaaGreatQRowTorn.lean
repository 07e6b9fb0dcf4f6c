/- The law SalvageTorn answers true at every input of bulk at most the given bound, and what came in reads as before. -/
import Derived.Test.YtcmndglhileeoaaGreatQRowIn
import Derived.Test.YtcmndglhileeoaaGreatQTorn
import Derived.JoinedCond
set_option linter.unusedVariables false
namespace Go.Proofs.YtcmndglhileeoaaGreat.salvageTornRow
open Go.ChangeShapes Go.WideShapes Go.ChangeAt Go.RowKit
open Rv (HP Sat Same allOf sat_all RdIn)

theorem slice_len {H : Type} {l : List (DataW H)} {el sp : List (DataW H)} (hk : Rows.uptoSmall H l = true) (h : DataW.slice el sp ∈ l) : el.length ≤ 1048576 := by
  have one : ∀ d : DataW H, 1 ≤ Rows.uptoBulk d := fun d => by
    cases d with
    | lit x => cases x <;> simp [Rows.uptoBulk]
    | nil => simp [Rows.uptoBulk]
    | ptr d => simp [Rows.uptoBulk]
    | slice elems spare => simp [Rows.uptoBulk]
    | agg parts => simp [Rows.uptoBulk]
    | iface t d => simp [Rows.uptoBulk]
    | map entries => simp [Rows.uptoBulk]
    | held h => simp [Rows.uptoBulk]
  have len : ∀ r : List (DataW H), r.length ≤ Rows.uptoBulkAll r := fun r => by
    induction r with
    | nil => simp [Rows.uptoBulkAll]
    | cons x r ih => have := one x; simp only [Rows.uptoBulkAll, List.length_cons]; omega
  have part : ∀ r : List (DataW H), DataW.slice el sp ∈ r → Rows.uptoBulk (DataW.slice el sp) ≤ Rows.uptoBulkAll r := fun r => by
    induction r with
    | nil => intro h; cases h
    | cons x r ih =>
      intro h
      simp only [Rows.uptoBulkAll]
      cases List.mem_cons.1 h with
      | inl e => subst e; omega
      | inr e => have := ih e; omega
  have h1 : Rows.uptoBulkAll l ≤ 1048576 := of_decide_eq_true hk
  have h2 := part l h
  have h3 := len el
  simp only [Rows.uptoBulk] at h2
  omega

set_option maxRecDepth 100000 in
theorem lifted (os : Os) (started : os.Started) (H : Type) (enc : TypeId × Value → H) (F : Stop.Interp) :
    ReturnsInHanded {} Tryz.checked os 4 .any ((Rows.OpenSpec.upto Rows.salvageTornSpec).pre6 enc Tryz.prog Tryz.f4 Rows.salvageTornUptoRow.domain false) (((Rows.OpenSpec.upto Rows.salvageTornSpec).at F).post enc Tryz.prog Tryz.f4 false true false false) := by
  refine returnsInHanded_of_cond (C := Tryz.checked) (s := Rows.OpenSpec.upto Rows.salvageTornSpec) (k := Rows.uptoSmall) rfl row_own started (by kernel_rfl) Tryz.func4
    (OpenSpec.witness (enc := enc) (C := Tryz.checked) (s := Rows.OpenSpec.upto Rows.salvageTornSpec) (k := Rows.uptoSmall) rfl false ⟨#[], #[.agg (polCells default), .slice none 0 0, .int .i64 0], []⟩ 8 (by kernel_rfl) (by kernel_rfl) (by kernel_rfl)
      (x := ([.agg [.lit (.int .i64 0), .lit (.int .i64 0), .lit (.int .i64 0), .lit (.int .i64 0), .lit (.int .i64 0), .lit (.int .i64 0), .lit (.int .i64 0), .lit (.int .i64 0), .lit (.int .i64 0), .lit (.int .i64 0)], .nil, .lit (.int .i64 0)], [], [])) (by kernel_rfl) rfl (by kernel_rfl)) ?_
  intro W base args ds gs before hval0 hW _ hk _
  have hval : ∀ (j : Nat) t v, Tryz.f4.params[j]? = some t → args[j]? = some v → Value.okWide Tryz.prog W .any base t v := hval0
  have hW' := hW
  obtain ⟨p, q, hA0, hV, rfl, hfz, hnd⟩ := hW
  have hA : DataW.TrodAll enc Tryz.prog W 0 (fun _ => true) true Tryz.f4.params.toList args.toList ds p := hA0
  rw [Tryz.params4] at hA hval
  obtain ⟨v0, v1, v2, d0, d1, d2, p0, p1, p2, rfl, rfl, rfl, h0, h1, h2⟩ := trodAll_three hA
  obtain ⟨rfl, rfl⟩ := trodVars_none hV
  obtain ⟨pl, rfl⟩ := open_pol (hval 0 33 v0 rfl rfl) h0
  obtain ⟨A, l, c, rfl, hr, _, hc, hd⟩ := open_recs (hval 1 34 v1 rfl rfl) h1
  obtain ⟨a, rfl, rfl, rfl, wa⟩ := open_int Tryz.underlying3 (hval 2 3 v2 rfl rfl) h2
  have hm : l.length ≤ 1048576 := by
    rcases hd with ⟨_, rfl⟩ | ⟨el, sp, rfl, he⟩
    · simp
    · rw [← he]; exact slice_len (sp := sp) hk (List.mem_append_left _ (List.mem_cons_of_mem _ (List.mem_cons_self)))
  have lt0 : ∀ x ∈ p0, x.block < W.heap.size := by obtain ⟨m, hm⟩ := h0; exact DataW.trod_lt m _ _ _ hm
  have lt1 : ∀ x ∈ p1, x.block < W.heap.size := by obtain ⟨m, hm⟩ := h1; exact DataW.trod_lt m _ _ _ hm
  have ha := i64_wf wa
  clear hA0 hval0 hk
  refine (storn_any (allOf W) pl A l c a W (sat_all W) (RdIn.all hr) hc (by omega) ha.1 ha.2).mono fun e W' ⟨he, hs, hz⟩ => ?_
  have bel : Below W.heap.size W W' := hz.to_below hs.one
  subst he
  exact ⟨_, rfl, _, _, _, [], _, [], hW', trodAll_mk1 (shut_bool Tryz.underlying4 _), trodAll_mk3 (Below.trod row_laid (by kernel_rfl) (of_decide_eq_true (by kernel_rfl)) h0 bel lt0) (Below.trod row_laid (by kernel_rfl) (of_decide_eq_true (by kernel_rfl)) h1 bel lt1) (shut_int Tryz.underlying3 wa), rfl, bel.frame _, fun h => by cases h⟩
theorem over : Rows.salvageTornUptoRow.holds Tryz.pinned (Rows.OpenSpec.upto Rows.salvageTornSpec) :=
  OpenClaim.holds_of_cond 4 Tryz.f4 rfl rfl rfl rfl rfl rfl rfl ⟨rfl, rfl, rfl, rfl, rfl⟩ rfl rfl rfl rfl rfl (by kernel_rfl) Tryz.func4 (by kernel_rfl)
    (of_decide_eq_true (by kernel_rfl)) (by unfold Func.isWrapper; first | (rw [if_pos (by decide +kernel)]; kernel_rfl) | (rw [if_neg (by decide +kernel)]; exact ⟨rfl, rfl⟩))
    (fun os started H enc _ F => lifted os started H enc F)
end Go.Proofs.YtcmndglhileeoaaGreat.salvageTornRow
namespace Go.Proofs.YtcmndglhileeoaaGreat
theorem salvageTorn_holds : Rows.SalvageTornUptoSaid := salvageTornRow.over
#print axioms salvageTorn_holds
end Go.Proofs.YtcmndglhileeoaaGreat
