/- The walks of bytes.Equal, bytes.HasPrefix, slices.Grow, slices.Concat. -/
import Derived.Test.YtcmndglhileeoaaGreatQBytesToTapeA
import Derived.Test.YtcmndglhileeoaaGreatQGet2
import Derived.Lib.AppendZerosOnto
set_option linter.unusedSimpArgs false
set_option linter.unusedVariables false
namespace Go.Proofs.YtcmndglhileeoaaGreat
open Go.RowKit
open Rv (HP Sat Same pt allOf sat_all RdIn row own)

theorem conv_any (w : World) (A : Option Addr) (c : Nat) (l : List UInt8) (h : RdB w A l) : (convert 22 9 (.slice A l.length c)).run Tryz.prog w = .ok (.string ⟨l.toArray⟩) w := by
  cases A with
  | some ad => exact conv_str w ad c l h
  | none =>
    obtain rfl : l = [] := by
      cases l with
      | nil => rfl
      | cons x l => obtain ⟨ad, e, _⟩ := h 0 x rfl; cases e
    exact run_convert_bytes_nil (P := Tryz.prog) (w := w) 22 5 Tryz.underlying22 Tryz.underlying5 _ _ _ Tryz.underlying9

set_option maxHeartbeats 1000000 in
set_option maxRecDepth 100000 in
theorem equal_any (w : World) (A B : Option Addr) (xs ys : List UInt8) (c d : Nat) (hx : RdB w A xs) (hy : RdB w B ys) :
    Calls Tryz.prog 96 #[.slice A xs.length c, .slice B ys.length d] w fun e w' => e = .returned (.bool (xs == ys)) ∧ w = w' := by
  have h1 := conv_any w A c xs hx
  have h2 := conv_any w B d ys hy
  clear hx hy
  go_enter Tryz.func96, Tryz.ntmps96
  go_wp2_with fail
  go_ret
  exact ⟨rfl, rfl⟩

theorem prefix_iff (xs ys : List UInt8) : ys.isPrefixOf xs = (decide (ys.length ≤ xs.length) && (xs.take ys.length == ys)) := by
  rw [Bool.eq_iff_iff, List.isPrefixOf_iff_prefix, Bool.and_eq_true, decide_eq_true_eq, beq_iff_eq]
  constructor
  · intro h
    exact ⟨h.length_le, (List.prefix_iff_eq_take.1 h).symm⟩
  · rintro ⟨h1, h2⟩
    rw [← h2]
    exact List.take_prefix _ _

set_option maxHeartbeats 1000000 in
set_option maxRecDepth 100000 in
theorem hasp_any (w : World) (A B : Option Addr) (xs ys : List UInt8) (c d : Nat) (hx : RdB w A xs) (hy : RdB w B ys) (hc : xs.length ≤ c) (hl : xs.length ≤ 140737488355328) :
    Calls Tryz.prog 51 #[.slice A xs.length c, .slice B ys.length d] w fun e w' => e = .returned (.bool (ys.isPrefixOf xs)) ∧ w = w' := by
  rw [prefix_iff]
  have HX := Lib.hid hx
  have HY := Lib.hid hy
  clear hx hy
  by_cases h : ys.length ≤ xs.length
  · have e1 : decide ((ys.length : Int) ≤ xs.length) = true := by simp; omega
    have e2 : decide (ys.length ≤ xs.length) = true := by simp; omega
    rw [e2]
    have hlt : (xs.take ys.length).length = ys.length := by rw [List.length_take]; omega
    cases A with
    | none =>
      obtain rfl : xs = [] := by
        cases xs with
        | nil => rfl
        | cons x l => obtain ⟨ad, e, _⟩ := HX.out 0 x rfl; cases e
      obtain rfl : ys = [] := List.length_eq_zero_iff.1 (by simpa using h)
      have HE := Lib.hid (equal_any w none B [] [] c d HX.out HY.out)
      simp only [List.length_nil] at HE ⊢
      clear hlt e1 e2
      go_enter Tryz.func51, Tryz.ntmps51
      go_wp2_with fail
      refine HE.out.mono ?_
      rintro e w' ⟨rfl, rfl⟩
      go_wp2_with fail
      go_ret
      exact ⟨rfl, rfl⟩
    | some ad =>
      have he := equal_any w (some ad) B (xs.take ys.length) ys c d (HX.out.take _) HY.out
      rw [hlt] at he
      have HE := Lib.hid he
      clear he
      go_enter Tryz.func51, Tryz.ntmps51
      go_wp2_with fail
      refine HE.out.mono ?_
      rintro e w' ⟨rfl, rfl⟩
      go_wp2_with fail
      go_ret
      exact ⟨rfl, rfl⟩
  · have e1 : decide ((ys.length : Int) ≤ xs.length) = false := by simp; omega
    have e2 : decide (ys.length ≤ xs.length) = false := by simp; omega
    rw [e2]
    go_enter Tryz.func51, Tryz.ntmps51
    go_wp2_with fail
    go_ret
    exact ⟨rfl, rfl⟩

section
variable {P : Program} {ops : Array Oper} {rest : List Oper} {o : Oper} {a : Act} {Q : Exit → Act → World → Prop}
/-- append, of whose run all is known. -/
theorem app_run {W : World} (hgd : o.guard = none) (s x : Operand) (t u : TypeId) (ho : o.op = .call { callee := .builtin .append, args := #[s, x], argTypes := #[t, u] }) (v1 v2 v : Value) (h1 : a.eval s = v1) (h2 : a.eval x = v2) (w1 : World)
    (hr : ∀ ty, (Builtin.append_ #[t, u] ty #[v1, v2]).run P W = .ok v w1) (h : wpList P ops Q rest (a.put o.dst v) w1) : wpList P ops Q (o :: rest) a W := by
  refine wpList_plain hgd fun K hK => ?_
  unfold Oper.wp execOp
  simp only [ho, resolve, invoke, builtin, Sem.run_bind, Sem.run_pure, Result.andThen_ok, List.map_toArray, List.map_cons, List.map_nil, h1, h2, hr]
  exact hK _ _ h
end
set_option maxHeartbeats 1000000 in
set_option maxRecDepth 100000 in
theorem grow_any (w : World) (n : Nat) (hn : n ≤ 1099511627776) :
    Calls Tryz.prog 93 #[.slice none 0 0, .int .i64 n] w fun e w' => ∃ A c, e = .returned (.slice A 0 c) ∧ OwnB w' w.heap.size (.slice A 0 c) [] ∧ Below w.heap.size w w' := by
  by_cases h0 : n = 0
  · subst h0
    go_enter Tryz.func93, Tryz.ntmps93
    go_wp2_with fail
    go_ret
    exact ⟨_, _, rfl, OwnB.nil _ _, Below.refl _ _⟩
  · have e1 : decide ((0 : Int) < n) = true := by simp; omega
    obtain ⟨i0, hi, hz0, hz1, hz2⟩ := info_parts' infoB
    have hg := fun ty => Lib.run_append_grow_zeros (P := Tryz.prog) w 22 3 ty 5 i0 (.int .u8 0) .i64 .i64 Tryz.underlying22 Tryz.underlying3 hi hz0 none 0 0 [] (run_firstCells_none w.drew i0.size 0 0 0) n (by omega) (by omega) (by omega) (by omega) (by rw [hz2]; omega) (by rw [hz2]; exact growslice_fits (by omega) (by omega))
    rw [Nat.zero_add] at hg
    have hge := grownCap_ge w n 0 5
    have hcm := grownCap_le_maxLen w n 0 5 (by simp only [maxLen]; omega)
    have HG := Lib.hid hg
    clear hg
    go_enter Tryz.func93, Tryz.ntmps93
    go_wp2_with (at_builtin; refine app_run rfl (.tmp 20) (.tmp 21) 22 3 rfl (.slice none 0 0) (.int .i64 n) _ (by rfl) (by rfl) _ HG.out ?_)
    go_ret
    refine ⟨_, _, rfl, ⟨by simp [u8s], .inr ⟨w.heap.size, _, _, rfl, Nat.le_refl _, heap_alloc_new w.drew _, Nat.zero_le _, hcm, ?_, by simp [u8s]⟩⟩, ((Below.refl _ w).drew).alloc (Nat.le_refl _) _⟩
    have hz : (Value.int IntKind.u8 0).cells.size = 1 := rfl
    simp only [Array.size_append, List.size_toArray, size_zeroCells, hz, List.length_nil, List.length_singleton]
    omega

/-- Parts: what each is, and where it stands. -/
abbrev PartL := List (Option Addr × Nat × List UInt8)
def partV (q : Option Addr × Nat × List UInt8) : Value := .slice q.1 q.2.2.length q.2.1
def flatP (l : PartL) : List UInt8 := (l.map (·.2.2)).flatten
theorem flatP_succ {l : PartL} {k : Nat} {q} (h : l[k]? = some q) : flatP (l.take (k + 1)) = flatP (l.take k) ++ q.2.2 := by
  obtain ⟨hk, he⟩ := List.getElem?_eq_some_iff.1 h
  unfold flatP
  rw [List.take_succ_eq_append_getElem hk, he]
  simp
theorem flatP_le (l : PartL) (k : Nat) : (flatP (l.take k)).length ≤ (flatP l).length := by
  have : flatP l = flatP (l.take k) ++ flatP (l.drop k) := by
    unfold flatP
    rw [← List.flatten_append, ← List.map_append, List.take_append_drop]
  rw [this, List.length_append]
  omega

set_option maxHeartbeats 2000000 in
set_option maxRecDepth 100000 in
theorem concat_any (w : World) (ad : Addr) (n cap : Nat) (l : PartL) (hln : l.length = n) (hr : RdV w (some ad) (l.map partV)) (hp : ∀ q ∈ l, RdB w q.1 q.2.2 ∧ (q.1 = none → q.2.1 = 0)) (hl : (flatP l).length ≤ 1099511627776) (hn : n ≤ 1000) :
    Calls Tryz.prog 47 #[.slice (some ad) n cap] w fun e w' => ∃ A c, e = .returned (.slice A (flatP l).length c) ∧ OwnB w' w.heap.size (.slice A (flatP l).length c) (flatP l) ∧ Below w.heap.size w w' := by
  have HR := Lib.hid hr
  have HP := Lib.hid hp
  have HLN := Lib.hid hln
  clear hr hp hln
  go_enter Tryz.func47, Tryz.ntmps47
  go_wp2_with fail
  go_loopw [3, 11] (fun s i wr => ∃ k : Nat, k ≤ n ∧ i = .int .i64 k ∧ s = .int .i64 (flatP (l.take k)).length ∧ w = wr) (fun _ i _ => n - (intOf i).toNat)
  case atStart => exact ⟨0, by omega, rfl, rfl, rfl⟩
  case round =>
    obtain ⟨k, hk, rfl, rfl, rfl⟩ := hrel
    have hle := flatP_le l k
    by_cases hlt : k < n
    · obtain ⟨q, hq⟩ := some_at (xs := l) (i := k) (by have := HLN.out; omega)
      obtain ⟨ad', e', hc⟩ := HR.out k (partV q) (by rw [List.getElem?_map, hq]; rfl)
      cases e'
      have hs := flatP_succ hq
      have hle2 := flatP_le l (k + 1)
      rw [hs, List.length_append] at hle2
      unfold partV at hc
      have HS := Lib.hid hs
      clear hs hq
      go_wp2_with fail
      go_roundw
      case rel => exact ⟨k + 1, by omega, by go_num, by rw [HS.out, List.length_append]; go_num, trivial⟩
      case measure => simp [intOf]; omega
    · obtain rfl : k = n := by omega
      have ht : l.take k = l := List.take_of_length_le (by have := HLN.out; omega)
      rw [ht] at hle ⊢
      clear ht
      go_wp2_with fail
      refine (grow_any _ (flatP l).length hl).mono ?_
      rintro e w1 ⟨A, c, rfl, o1, b1⟩
      have O1 := Lib.hid o1
      have B1 := Lib.hid b1
      clear o1 b1 hle hk
      go_wp2_with fail
      go_loopw [6, 27] (fun s i wr2 => ∃ j : Nat, j ≤ k ∧ i = .int .i64 j ∧ ∃ A' c', s = .slice A' (flatP (l.take j)).length c' ∧ OwnB wr2 w.heap.size s (flatP (l.take j)) ∧ Below w.heap.size w wr2) (fun _ i _ => k - (intOf i).toNat)
      case atStart => exact ⟨0, by omega, rfl, A, c, rfl, O1.out, B1.out⟩
      case round =>
        obtain ⟨j, hj, rfl, A', c', rfl, o2, b2⟩ := hrel
        have O2 := Lib.hid o2
        have B2 := Lib.hid b2
        clear o2 b2 O1 B1
        by_cases hlt : j < k
        · obtain ⟨q, hq⟩ := some_at (xs := l) (i := j) (by have := HLN.out; omega)
          obtain ⟨ad', e', hc⟩ := (HR.out.below B2.out) j (partV q) (by rw [List.getElem?_map, hq]; rfl)
          cases e'
          obtain ⟨q1, q2⟩ := HP.out q (List.mem_of_getElem? hq)
          have Q1 := Lib.hid (q1.below B2.out)
          have Q2 := Lib.hid q2
          have hs := flatP_succ hq
          have hle := flatP_le l (j + 1)
          rw [hs, List.length_append] at hle
          unfold partV at hc
          have HS := Lib.hid hs
          have HB := Lib.hid B2.out.size
          clear hs hq q1 q2
          go_wp2_with (at_builtin; go_loud (refine appb_src (w0 := w) w.heap.size rfl (.tmp 31) (.tmp 32) 22 rfl Tryz.underlying22 (by rfl) (.slice A' (flatP (l.take j)).length c') (flatP (l.take j)) q.2.2 q.1 q.2.1 (by rfl) (by rfl) O2.out Q1.out B2.out HB.out (by omega) Q2.out ?_); intro v3 w3 h3 h4 _ _; rw [← HS.out] at h3; have O3 := Lib.hid h3; have B3 := Lib.hid h4; obtain ⟨A3, c3, rfl, -, -, -⟩ := h3.shape; clear h3 h4)
          go_roundw
          case rel => exact ⟨j + 1, by omega, by go_num, A3, c3, rfl, O3.out, B3.out⟩
          case measure => simp [intOf]; omega
        · obtain rfl : j = k := by omega
          have ht : l.take j = l := List.take_of_length_le (by have := HLN.out; omega)
          rw [ht] at O2 ⊢
          clear ht
          go_wp2_with fail
          go_ret
          exact ⟨_, _, rfl, O2.out, B2.out⟩
end Go.Proofs.YtcmndglhileeoaaGreat
