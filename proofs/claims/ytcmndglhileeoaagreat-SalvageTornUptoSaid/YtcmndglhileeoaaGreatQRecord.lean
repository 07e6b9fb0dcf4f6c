/- Walks of package record: the small ones, Right, number. -/
import Derived.Test.YtcmndglhileeoaaGreatQDClone
import Derived.Test.YtcmndglhileeoaaGreatQBits
set_option linter.unusedSimpArgs false
set_option linter.unusedVariables false
namespace Go.Proofs.YtcmndglhileeoaaGreat
open Go.RowKit

theorem mayTick_any (n : Int) (b : Bool) (hb : Rv.inB n 0 1099511627776 = b) (w : World) : Calls Tryz.prog 81 #[.int .i64 n] w fun e w' => e = .returned (.bool b) ∧ w = w' := by
  subst hb
  by_cases h0 : 0 ≤ n
  · have d0 : decide (0 ≤ n) = true := by simpa using h0
    by_cases h1 : n ≤ 1099511627776
    · have hb : Hid (Rv.inB n 0 1099511627776 = true) := Lib.hid (by unfold Rv.inB; rw [decide_eq_true h0, decide_eq_true h1]; rfl)
      have d1 : decide (n ≤ 1099511627776) = true := by simpa using h1
      rw [hb.out]
      go_enter Tryz.func81, Tryz.ntmps81
      go_wp2
      go_ret
      exact ⟨rfl, rfl⟩
    · have hb : Hid (Rv.inB n 0 1099511627776 = false) := Lib.hid (by unfold Rv.inB; rw [decide_eq_true h0, decide_eq_false h1]; rfl)
      have d1 : decide (n ≤ 1099511627776) = false := by simp; omega
      rw [hb.out]
      go_enter Tryz.func81, Tryz.ntmps81
      go_wp2
      go_ret
      exact ⟨rfl, rfl⟩
  · have hb : Hid (Rv.inB n 0 1099511627776 = false) := Lib.hid (by unfold Rv.inB; rw [decide_eq_false h0]; rfl)
    have d0 : decide (0 ≤ n) = false := by simp; omega
    rw [hb.out]
    go_enter Tryz.func81, Tryz.ntmps81
    go_wp2
    go_ret
    exact ⟨rfl, rfl⟩

theorem mayKey_any (n : Int) (b : Bool) (hb : Rv.inB n 1 64 = b) (w : World) : Calls Tryz.prog 82 #[.int .i64 n] w fun e w' => e = .returned (.bool b) ∧ w = w' := by
  subst hb
  by_cases h0 : 1 ≤ n
  · have d0 : decide (1 ≤ n) = true := by simpa using h0
    by_cases h1 : n ≤ 64
    · have hb : Hid (Rv.inB n 1 64 = true) := Lib.hid (by unfold Rv.inB; rw [decide_eq_true h0, decide_eq_true h1]; rfl)
      have d1 : decide (n ≤ 64) = true := by simpa using h1
      rw [hb.out]
      go_enter Tryz.func82, Tryz.ntmps82
      go_wp2
      go_ret
      exact ⟨rfl, rfl⟩
    · have hb : Hid (Rv.inB n 1 64 = false) := Lib.hid (by unfold Rv.inB; rw [decide_eq_true h0, decide_eq_false h1]; rfl)
      have d1 : decide (n ≤ 64) = false := by simp; omega
      rw [hb.out]
      go_enter Tryz.func82, Tryz.ntmps82
      go_wp2
      go_ret
      exact ⟨rfl, rfl⟩
  · have hb : Hid (Rv.inB n 1 64 = false) := Lib.hid (by unfold Rv.inB; rw [decide_eq_false h0]; rfl)
    have d0 : decide (1 ≤ n) = false := by simp; omega
    rw [hb.out]
    go_enter Tryz.func82, Tryz.ntmps82
    go_wp2
    go_ret
    exact ⟨rfl, rfl⟩

theorem mayCost_any (n : Int) (b : Bool) (hb : Rv.inB n 1 1048576 = b) (w : World) : Calls Tryz.prog 83 #[.int .i64 n] w fun e w' => e = .returned (.bool b) ∧ w = w' := by
  subst hb
  by_cases h0 : 1 ≤ n
  · have d0 : decide (1 ≤ n) = true := by simpa using h0
    by_cases h1 : n ≤ 1048576
    · have hb : Hid (Rv.inB n 1 1048576 = true) := Lib.hid (by unfold Rv.inB; rw [decide_eq_true h0, decide_eq_true h1]; rfl)
      have d1 : decide (n ≤ 1048576) = true := by simpa using h1
      rw [hb.out]
      go_enter Tryz.func83, Tryz.ntmps83
      go_wp2
      go_ret
      exact ⟨rfl, rfl⟩
    · have hb : Hid (Rv.inB n 1 1048576 = false) := Lib.hid (by unfold Rv.inB; rw [decide_eq_true h0, decide_eq_false h1]; rfl)
      have d1 : decide (n ≤ 1048576) = false := by simp; omega
      rw [hb.out]
      go_enter Tryz.func83, Tryz.ntmps83
      go_wp2
      go_ret
      exact ⟨rfl, rfl⟩
  · have hb : Hid (Rv.inB n 1 1048576 = false) := Lib.hid (by unfold Rv.inB; rw [decide_eq_false h0]; rfl)
    have d0 : decide (1 ≤ n) = false := by simp; omega
    rw [hb.out]
    go_enter Tryz.func83, Tryz.ntmps83
    go_wp2
    go_ret
    exact ⟨rfl, rfl⟩

theorem mayVerdict_any (n : Int) (b : Bool) (hb : Rv.inB n 0 2 = b) (w : World) : Calls Tryz.prog 84 #[.int .i64 n] w fun e w' => e = .returned (.bool b) ∧ w = w' := by
  subst hb
  by_cases h0 : 0 ≤ n
  · have d0 : decide (0 ≤ n) = true := by simpa using h0
    by_cases h1 : n ≤ 2
    · have hb : Hid (Rv.inB n 0 2 = true) := Lib.hid (by unfold Rv.inB; rw [decide_eq_true h0, decide_eq_true h1]; rfl)
      have d1 : decide (n ≤ 2) = true := by simpa using h1
      rw [hb.out]
      go_enter Tryz.func84, Tryz.ntmps84
      go_wp2
      go_ret
      exact ⟨rfl, rfl⟩
    · have hb : Hid (Rv.inB n 0 2 = false) := Lib.hid (by unfold Rv.inB; rw [decide_eq_true h0, decide_eq_false h1]; rfl)
      have d1 : decide (n ≤ 2) = false := by simp; omega
      rw [hb.out]
      go_enter Tryz.func84, Tryz.ntmps84
      go_wp2
      go_ret
      exact ⟨rfl, rfl⟩
  · have hb : Hid (Rv.inB n 0 2 = false) := Lib.hid (by unfold Rv.inB; rw [decide_eq_false h0]; rfl)
    have d0 : decide (0 ≤ n) = false := by simp; omega
    rw [hb.out]
    go_enter Tryz.func84, Tryz.ntmps84
    go_wp2
    go_ret
    exact ⟨rfl, rfl⟩

abbrev recV (r : Rv.Rec) : Value := .agg #[.int .i64 r.tick, .string r.key, .int .i64 r.cost, .int .i64 r.verdict]

theorem keyOk_inB (k : ByteArray) : Rv.inB (k.size : Int) 1 64 = Rv.keyOk k := by
  unfold Rv.inB Rv.keyOk
  congr 1
  · simp; omega
  · simp; omega

set_option maxHeartbeats 1000000 in
theorem rright_any (r : Rv.Rec) (w : World) : Calls Tryz.prog 39 #[.agg #[.int .i64 r.tick, .string r.key, .int .i64 r.cost, .int .i64 r.verdict]] w fun e w' => e = .returned (.int .i64 r.right) ∧ Below w.heap.size w w' := by
  obtain ⟨tick, key, cost, verdict⟩ := r
  have HB : ∀ o, Below w.heap.size w (w.alloc o) := fun o => (Below.refl _ _).alloc (Nat.le_refl _) o
  have HB' := Lib.hid HB
  clear HB
  cases h1 : Rv.tickOk tick with
  | false =>
    have Hr : Hid (Rv.Rec.right ⟨tick, key, cost, verdict⟩ = 60) := Lib.hid (by unfold Rv.Rec.right; simp [h1])
    have H1 : Hid (Rv.inB tick 0 1099511627776 = false) := Lib.hid h1
    clear h1
    go_enter Tryz.func39, Tryz.ntmps39
    go_wp2_with (go_at_call 81; refine (mayTick_any _ _ H1.out _).mono ?_; rintro e w' ⟨rfl, rfl⟩)
    go_ret
    exact ⟨by rw [Hr.out]; rfl, HB'.out _⟩
  | true =>
    have H1 : Hid (Rv.inB tick 0 1099511627776 = true) := Lib.hid h1
    cases h2 : Rv.keyOk key with
    | false =>
      have Hr : Hid (Rv.Rec.right ⟨tick, key, cost, verdict⟩ = 61) := Lib.hid (by unfold Rv.Rec.right; simp [h1, h2])
      have H2 : Hid (Rv.inB (key.size : Int) 1 64 = false) := Lib.hid ((keyOk_inB key).trans h2)
      clear h1 h2
      go_enter Tryz.func39, Tryz.ntmps39
      go_wp2_with (first | (go_at_call 81; refine (mayTick_any _ _ H1.out _).mono ?_; rintro e w' ⟨rfl, rfl⟩) | (go_at_call 82; refine (mayKey_any _ _ H2.out _).mono ?_; rintro e w' ⟨rfl, rfl⟩))
      go_ret
      exact ⟨by rw [Hr.out]; rfl, HB'.out _⟩
    | true =>
      have H2 : Hid (Rv.inB (key.size : Int) 1 64 = true) := Lib.hid ((keyOk_inB key).trans h2)
      cases h3 : Rv.costOk cost with
      | false =>
        have Hr : Hid (Rv.Rec.right ⟨tick, key, cost, verdict⟩ = 62) := Lib.hid (by unfold Rv.Rec.right; simp [h1, h2, h3])
        have H3 : Hid (Rv.inB cost 1 1048576 = false) := Lib.hid h3
        clear h1 h2 h3
        go_enter Tryz.func39, Tryz.ntmps39
        go_wp2_with (first | (go_at_call 81; refine (mayTick_any _ _ H1.out _).mono ?_; rintro e w' ⟨rfl, rfl⟩) | (go_at_call 82; refine (mayKey_any _ _ H2.out _).mono ?_; rintro e w' ⟨rfl, rfl⟩) | (go_at_call 83; refine (mayCost_any _ _ H3.out _).mono ?_; rintro e w' ⟨rfl, rfl⟩))
        go_ret
        exact ⟨by rw [Hr.out]; rfl, HB'.out _⟩
      | true =>
        have H3 : Hid (Rv.inB cost 1 1048576 = true) := Lib.hid h3
        obtain ⟨b, h4⟩ : ∃ b, b = Rv.verdictOk verdict := ⟨_, rfl⟩
        have Hr : Hid (Rv.Rec.right ⟨tick, key, cost, verdict⟩ = if b then 0 else 63) := Lib.hid (by unfold Rv.Rec.right; simp [h1, h2, h3, ← h4]; cases b <;> rfl)
        have H4 : Hid (Rv.inB verdict 0 2 = b) := Lib.hid h4.symm
        clear h1 h2 h3 h4
        cases b <;> (
          go_enter Tryz.func39, Tryz.ntmps39
          go_wp2_with (first | (go_at_call 81; refine (mayTick_any _ _ H1.out _).mono ?_; rintro e w' ⟨rfl, rfl⟩) | (go_at_call 82; refine (mayKey_any _ _ H2.out _).mono ?_; rintro e w' ⟨rfl, rfl⟩) | (go_at_call 83; refine (mayCost_any _ _ H3.out _).mono ?_; rintro e w' ⟨rfl, rfl⟩) | (go_at_call 84; refine (mayVerdict_any _ _ H4.out _).mono ?_; rintro e w' ⟨rfl, rfl⟩))
          go_ret
          exact ⟨by rw [Hr.out]; rfl, HB'.out _⟩)

/-- record.number: a number behind bytes of one's own. -/
def putRes (w : World) (v : Value) (xs ys : List UInt8) (e : Ending) (w' : World) : Prop :=
  ∃ B C, e = .returned (.slice B (xs.length + ys.length) C) ∧ OwnB w' 0 (.slice B (xs.length + ys.length) C) (xs ++ ys) ∧ Kept (fun k => v.ownBlock = some k) w w' ∧ (∀ k, (Value.slice B (xs.length + ys.length) C).ownBlock = some k → v.ownBlock = some k ∨ w.heap.size ≤ k)

set_option maxHeartbeats 1000000 in
theorem rnumber_any (v : Value) (xs : List UInt8) (n : Int) (w : World) (ho : OwnB w 0 v xs) (hl : xs.length ≤ 4194304) :
    Calls Tryz.prog 40 #[v, .int .i64 n] w (putRes w v xs (Rv.numB n)) := by
  have hl2 : (Rv.numB n).length ≤ 9 := Rv.numB_len n
  have Ho := Lib.hid ho
  clear ho
  go_enter Tryz.func40, Tryz.ntmps40
  go_wp2_with fail
  refine (number_any n _).mono ?_
  rintro e w1 ⟨v1, rfl, o1, b1⟩
  generalize (if Rv.mayN n = true then (0 : Int) else 1) = er
  obtain ⟨A, c, rfl, hc1, hc2, hr⟩ := o1.shape
  have Hnil := Lib.hid o1.nilcap
  have Hr := Lib.hid hr
  have B1 := Lib.hid b1
  clear o1 b1 hr hc1 hc2
  go_wp2_with (at_builtin; refine app_src_at rfl (.tmp 12) (.tmp 13) 22 5 (.int .u8 0) 1 rfl Tryz.underlying22 infoB rfl (by omega) v (u8s xs) (u8s (Rv.numB n)) A c (by rfl) (by rw [u8s_length]; rfl) (u8s_one _) (Ho.out.below B1.out).toV Hr.out.toV (by rw [u8s_length, u8s_length]; omega) Hnil.out (xs.length + (Rv.numB n).length) (by rw [u8s_length, u8s_length]) ?_; intro B2 C2 w2 o2 k2 l2; have O2 := Lib.hid o2; have K2 := Lib.hid k2; have L2 := Lib.hid l2; clear o2 k2 l2)
  go_ret
  refine ⟨_, _, rfl, ?_, (Kept.of_below B1.out).trans K2.out (fun _ _ h => h), fun k hk => (L2.out k hk).imp id (fun h => by have := B1.out.size; omega)⟩
  have := O2.out
  rw [← u8s_append] at this
  exact this.toB
end Go.Proofs.YtcmndglhileeoaaGreat
