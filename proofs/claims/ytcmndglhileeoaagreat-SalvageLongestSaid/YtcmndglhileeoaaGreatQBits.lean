/- The walks of package bits. No conditions but that a slice is read. -/
import Derived.Test.YtcmndglhileeoaaGreatQBase
import Derived.Test.YtcmndglhileeoaaGreatQPlain
import Derived.KernelRfl
namespace Go.Proofs.YtcmndglhileeoaaGreat
open Go.RowKit

theorem or_digit (m k cv : Nat) (hk : k ≤ 8) (hm : m < 128 ^ k) :
    bits BinOp.or IntKind.u64 (m : Int) (IntKind.u64.wrap ((cv : Int) % 128 * 2 ^ (7 * k))) = ((m + cv % 128 * 128 ^ k : Nat) : Int) ∧ m + cv % 128 * 128 ^ k < 9223372036854775808 := by
  have e7 : (2 : Nat) ^ (7 * k) = 128 ^ k := by rw [Nat.pow_mul]
  have h8 : 128 ^ k ≤ 128 ^ 8 := Nat.pow_le_pow_right (by omega) hk
  have h88 : (128 : Nat) ^ 8 = 72057594037927936 := by decide
  have h1 : cv % 128 * 128 ^ k ≤ 127 * 128 ^ k := Nat.mul_le_mul_right _ (by omega)
  have e : ((cv : Int) % 128 * 2 ^ (7 * k)) = ((cv % 128 * 128 ^ k : Nat) : Int) := by
    rw [← e7]; push_cast; rfl
  have hor := Nat.shiftLeft_add_eq_or_of_lt (b := m) (i := 7 * k) (by rw [e7]; exact hm) (cv % 128)
  rw [Nat.shiftLeft_eq, e7] at hor
  rw [e]
  generalize cv % 128 * 128 ^ k = q at *
  have hw : IntKind.u64.wrap (q : Int) = (q : Int) := by
    simp [IntKind.wrap, IntKind.bits, IntKind.signed]
    omega
  rw [hw, bits_or_u64_nat _ _ (by omega) (by omega)]
  exact ⟨by congr 1; rw [Nat.or_comm, ← hor]; omega, by omega⟩
def readRes (at_ : Nat) : Rv.RB → Ending
  | .ok n len => .returned (.tuple #[.int .i64 (n : Int), .int .i64 ((at_ + len : Nat) : Int), .int .i64 0])
  | .bad er => .returned (.tuple #[.int .i64 0, .int .i64 0, .int .i64 er])

theorem read_ok3 (at_ n k : Nat) {x : Int} (h : x = n) : Ending.returned (.tuple #[.int .i64 x, .int .i64 ((at_ : Int) + ((k : Int) + 1)), .int .i64 0]) = readRes at_ (.ok n (k + 1)) := by
  subst h; unfold readRes; congr 4
set_option maxHeartbeats 400000 in
set_option maxRecDepth 100000 in
theorem read_any (A : Option Addr) (xs : List UInt8) (c at_ : Nat) (w : World) (hr : RdB w A xs) (hl : xs.length ≤ 140737488355328) (ha : at_ ≤ xs.length) :
    Calls Tryz.prog 52 #[.slice A xs.length c, .int .i64 (at_ : Int)] w fun e w' => e = readRes at_ (Rv.rdB (xs.drop at_)) ∧ w = w' := by
  have g1 : decide ((at_ : Int) < 0) = false := by simp
  have g2 : decide (xs.length < at_) = false := by simp; omega
  go_enter Tryz.func52, Tryz.ntmps52
  go_wp2
  go_step3
  go_wp2
  go_step3
  go_wp2
  go_loop [7, 8, 9] (fun n i _ => ∃ (m k : Nat), k ≤ 8 ∧ at_ + k ≤ xs.length ∧ m < 128 ^ k ∧ n = .int .u64 (m : Int) ∧ i = .int .i64 (k : Int) ∧ Hid (Rv.rdGo k m (xs.drop (at_ + k)) = Rv.rdB (xs.drop at_))) (fun _ i _ => xs.length - (intOf i).toNat)
  case atStart => exact ⟨0, 0, by omega, by omega, by simp, rfl, rfl, Lib.hid rfl⟩
  case round =>
    obtain ⟨m, k, h8, hk, hm, rfl, rfl, H⟩ := hrel
    by_cases hend : at_ + k = xs.length
    · have g3 : decide (at_ + k = xs.length) = true := by simpa using hend
      have g4 : ((at_ : Int) + (k : Int) == (xs.length : Int)) = true := by rw [beq_iff_eq]; omega
      have Hfin : Hid (Rv.rdB (xs.drop at_) = .bad 10) := Lib.hid (by rw [← H.out, List.drop_of_length_le (by omega)]; rfl)
      clear hend H
      go_wp2
      go_ret3
      exact ⟨by rw [Hfin.out]; rfl, rfl⟩
    · obtain ⟨cb, hcb⟩ := some_at (show at_ + k < xs.length by omega)
      obtain ⟨ad, rfl, hcell⟩ := hr _ _ hcb
      have g4 : ((at_ : Int) + (k : Int) == (xs.length : Int)) = false := by rw [beq_eq_false_iff_ne]; omega
      have g5 : (at_ : Int) + (k : Int) < (xs.length : Int) := by omega
      have hlt : cb.toNat < 256 := UInt8.toNat_lt _
      have Hcons : Hid (Rv.rdGo k m (cb :: xs.drop (at_ + k + 1)) = Rv.rdB (xs.drop at_)) := Lib.hid (by rw [← H.out, drop_cons_of hcb])
      clear hend H hcb
      have hst : Rv.rdGo k m (cb :: xs.drop (at_ + k + 1)) = (if (cb.toNat = 0 ∧ 0 < k) ∨ (k = 8 ∧ (128 ≤ cb.toNat ∨ 4611686018427387903 < m + cb.toNat % 128 * 128 ^ k)) then .bad 11
        else if cb.toNat < 128 then .ok (m + cb.toNat % 128 * 128 ^ k) (k + 1) else Rv.rdGo (k + 1) (m + cb.toNat % 128 * 128 ^ k) (xs.drop (at_ + k + 1))) := rfl
      have hn1 : cb.toNat < 128 → k < 8 → m + cb.toNat % 128 * 128 ^ k < 128 ^ (k + 1) := fun _ _ => by
        have := Nat.mul_le_mul_right (128 ^ k) (show cb.toNat % 128 ≤ 127 by omega)
        rw [Nat.pow_succ]; omega
      have hn2 : k < 8 → m + cb.toNat % 128 * 128 ^ k < 128 ^ (k + 1) := fun _ => by
        have := Nat.mul_le_mul_right (128 ^ k) (show cb.toNat % 128 ≤ 127 by omega)
        rw [Nat.pow_succ]; omega
      obtain ⟨hor, hn0⟩ := or_digit m k cb.toNat h8 hm
      rw [Hcons.out] at hst
      clear Hcons hm
      generalize m + cb.toNat % 128 * 128 ^ k = n' at *
      generalize cb.toNat = cv at *
      by_cases c1 : cv = 0 ∧ 0 < k
      · have Hfin : Hid (Rv.rdB (xs.drop at_) = .bad 11) := Lib.hid (by rw [hst, if_pos (.inl c1)])
        obtain ⟨rfl, hk0⟩ := c1
        clear hst hor hn1 hn2
        go_wp2
        go_ret3
        exact ⟨by rw [Hfin.out]; rfl, rfl⟩
      by_cases c2 : k = 8 ∧ (128 ≤ cv ∨ 4611686018427387903 < n')
      · have Hfin : Hid (Rv.rdB (xs.drop at_) = .bad 11) := Lib.hid (by rw [hst, if_pos (.inr c2)])
        obtain ⟨hk8, h2⟩ := c2
        have hk8' : 8 ≤ k := by omega
        clear hst hn1 hn2 hk8
        have hne : ¬ cv = 0 := by omega
        rcases Nat.lt_or_ge cv 128 with h3 | h3
        · have h4 : 4611686018427387903 < (n' : Int) := by omega
          clear h2 c1
          go_wp2
          go_ret3
          exact ⟨by rw [Hfin.out]; rfl, rfl⟩
        · clear h2 c1
          go_wp2
          go_ret3
          exact ⟨by rw [Hfin.out]; rfl, rfl⟩
      rw [if_neg (by omega)] at hst
      by_cases c3 : cv < 128
      · have Hfin : Hid (Rv.rdB (xs.drop at_) = .ok n' (k + 1)) := Lib.hid (by rw [hst, if_pos c3])
        rcases Nat.lt_or_ge k 8 with h8' | h8'
        · by_cases hz : cv = 0
          · have hz' : cv ≤ 0 := by omega
            have hk0 : k ≤ 0 := by omega
            clear hst hn1 hn2 c1 c2 hz
            go_wp2
            go_ret3
            exact ⟨by rw [Hfin.out]; exact read_ok3 _ _ _ rfl, rfl⟩
          · clear hst hn1 hn2 c1 c2
            go_wp2
            go_ret3
            exact ⟨by rw [Hfin.out]; exact read_ok3 _ _ _ rfl, rfl⟩
        · have hz : ¬ cv = 0 := by omega
          have hnm : (n' : Int) ≤ 4611686018427387903 := by omega
          clear hst hn1 hn2 c1 c2
          go_wp2
          go_ret3
          exact ⟨by rw [Hfin.out, show k + 1 = 9 by omega]; rfl, rfl⟩
      · have hn3 := hn2 (by omega)
        have Hnext : Hid (Rv.rdGo (k + 1) n' (xs.drop (at_ + k + 1)) = Rv.rdB (xs.drop at_)) := Lib.hid (by rw [hst, if_neg c3])
        have hz : ¬ cv = 0 := by omega
        have h8' : k < 8 := by omega
        have c3' : 128 ≤ cv := by omega
        clear hst hn1 hn2 c1 c2 c3
        go_wp2
        go_round
        case rel => exact ⟨n', k + 1, by omega, by omega, hn3, rfl, by go_num, Hnext⟩
        case measure => simp [intOf]; omega


theorem may_yes (n : Int) (w : World) (h0 : 0 ≤ n) (h1 : n ≤ 4611686018427387903) : Calls Tryz.prog 113 #[.int .i64 n] w fun e w' => e = .returned (.bool true) ∧ w = w' := by
  go_enter Tryz.func113, Tryz.ntmps113
  go_wp2
  go_ret
  exact ⟨rfl, rfl⟩
theorem may_no (n : Int) (w : World) (h : n < 0 ∨ 4611686018427387903 < n) : Calls Tryz.prog 113 #[.int .i64 n] w fun e w' => e = .returned (.bool false) ∧ w = w' := by
  rcases h with h | h
  · have hd : decide (0 ≤ n) = false := by simp; omega
    go_enter Tryz.func113, Tryz.ntmps113
    go_wp2
    go_ret
    exact ⟨rfl, rfl⟩
  · have h0 : 0 ≤ n := by omega
    have hd : decide (n ≤ 4611686018427387903) = false := by simp; omega
    go_enter Tryz.func113, Tryz.ntmps113
    go_wp2
    go_ret
    exact ⟨rfl, rfl⟩

theorem infoB : (Tryz.prog.info? 5).map (fun i => (i.zero, i.size, i.bytes)) = some (some (.int .u8 0), 1, 1) := by kernel_rfl
def numRes (n : Int) (w : World) (e : Ending) (w' : World) : Prop :=
  ∃ v, e = .returned (.tuple #[v, .int .i64 (if Rv.mayN n then 0 else 1)]) ∧ OwnB w' w.heap.size v (Rv.numB n) ∧ Below w.heap.size w w'

set_option maxHeartbeats 400000 in
set_option maxRecDepth 100000 in
theorem number_any (n : Int) (w : World) : Calls Tryz.prog 71 #[.int .i64 n] w (numRes n w) := by
  by_cases hm : n < 0 ∨ 4611686018427387903 < n
  · have Hfin : Hid (Rv.mayN n = false ∧ Rv.numB n = []) := Lib.hid ⟨mayN_no hm, numB_no hm⟩
    go_enter Tryz.func71, Tryz.ntmps71
    go_wp2_with (go_at_call 113; refine (may_no _ _ hm).mono ?_; rintro e w' ⟨rfl, rfl⟩)
    go_ret2
    exact ⟨_, by rw [Hfin.out.1]; rfl, by rw [Hfin.out.2]; exact OwnB.nil _ _, Below.refl _ _⟩
  · obtain ⟨k, rfl⟩ := Int.eq_ofNat_of_zero_le (show 0 ≤ n by omega)
    have h1 : (k : Int) ≤ 4611686018427387903 := by omega
    have Hfin : Hid (Rv.mayN k = true ∧ Rv.numB k = Rv.numN k) := Lib.hid ⟨mayN_yes (by omega) h1, numB_yes (by omega)⟩
    have h0 : 0 ≤ (k : Int) := by omega
    clear hm
    go_enter Tryz.func71, Tryz.ntmps71
    go_wp2_with (first
      | (go_at_call 113; refine (may_yes _ _ h0 h1).mono ?_; rintro e w' ⟨rfl, rfl⟩)
      | (at_make; refine makeb_cap (w0 := w) w.heap.size rfl _ _ 22 rfl Tryz.underlying22 infoB _ 9 rfl rfl rfl (by omega) (Below.refl _ _) (Nat.le_refl _) ?_; intro v1 w1 HO1 HB1 hg1))
    go_loopw [4, 0] (fun v n wr => ∃ (m : Nat) (ys : List UInt8), n = .int .i64 (m : Int) ∧ (m : Int) ≤ 4611686018427387903 ∧ OwnB wr w.heap.size v ys ∧ Below w.heap.size w wr ∧ Hid (ys ++ Rv.numN m = Rv.numN k)) (fun _ n _ => (intOf n).toNat)
    case atStart => exact ⟨k, [], rfl, h1, HO1, HB1, Lib.hid rfl⟩
    case round =>
      clear HO1 HB1 hg1
      obtain ⟨m, ys, rfl, hm1, HO, HB, HE⟩ := hrel
      have hlen : ys.length ≤ 9 := by
        have h2 := congrArg List.length HE.out
        have h3 := Rv.numN_len 8 k (by have : (128 : Nat) ^ (8 + 1) = 9223372036854775808 := by decide
                                       omega)
        simp at h2
        omega
      have hsz := HB.size
      by_cases hlt : m < 128
      · have hc : (UInt8.ofNat m).toNat = m := by simp; omega
        have HE' : Hid (ys ++ [UInt8.ofNat m] = Rv.numN k) := Lib.hid (by rw [← HE.out, Rv.numN_small hlt])
        clear HE
        go_wp2_with (first
          | (at_builtin; refine appb_one (w0 := w) w.heap.size rfl _ _ 22 rfl Tryz.underlying22 infoB _ ys _ (UInt8.ofNat m) (by omega) (by rfl) (by rfl) HO HB hsz (by omega) ?_; intro v1 w1 HO1 HB1 hg1))
        go_ret2
        exact ⟨_, by rw [Hfin.out.1]; rfl, by rw [Hfin.out.2, ← HE'.out]; exact HO1, HB1⟩
      · have hge : 128 ≤ m := by omega
        have hm2 : (m : Int) / 128 = ((m / 128 : Nat) : Int) := by omega
        have hc : (UInt8.ofNat (m % 128 + 128)).toNat = m % 128 + 128 := by simp; omega
        have HE' : Hid ((ys ++ [UInt8.ofNat (m % 128 + 128)]) ++ Rv.numN (m / 128) = Rv.numN k) := Lib.hid (by rw [← HE.out, Rv.numN_great hge]; simp)
        clear HE hlt
        have Hm2 := Lib.hid hm2
        have hor : bits BinOp.or IntKind.u8 ((m : Int) % 128) 128 = (m : Int) % 128 + 128 := u8_or128_right _ (by omega) (by omega)
        clear hm2
        go_wp2_with (first
          | (at_builtin; refine appb_one (w0 := w) w.heap.size rfl _ _ 22 rfl Tryz.underlying22 infoB _ ys _ (UInt8.ofNat (m % 128 + 128)) (by omega) (by rfl) (by rfl) HO HB hsz (by omega) ?_; intro v1 w1 HO1 HB1 hg1))
        go_roundw
        case rel => exact ⟨m / 128, ys ++ [UInt8.ofNat (m % 128 + 128)], by rw [Hm2.out], by omega, HO1, HB1, HE'⟩
        case measure => simp [intOf]; omega

theorem number_yes (n : Int) (w : World) (h0 : 0 ≤ n) (h1 : n ≤ 4611686018427387903) :
    Calls Tryz.prog 71 #[.int .i64 n] w fun e w' => ∃ v, e = .returned (.tuple #[v, .int .i64 0]) ∧ OwnB w' w.heap.size v (Rv.numB n) ∧ Below w.heap.size w w' :=
  (number_any n w).mono fun e w' ⟨v, he, hO, hB⟩ => ⟨v, by rw [he, mayN_yes h0 h1]; rfl, hO, hB⟩

theorem zig_any (n : Int) (w : World) (h0 : -2305843009213693952 ≤ n) (h1 : n ≤ 2305843009213693951) :
    Calls Tryz.prog 41 #[.int .i64 n] w fun e w' => e = .returned (.tuple #[.int .i64 (Rv.zig n).1, .int .i64 0]) ∧ w = w' := by
  by_cases hn : n < 0
  · have Hz : Hid ((Rv.zig n).1 = -2 * n - 1) := Lib.hid (by unfold Rv.zig; rw [if_neg (by omega), if_pos hn])
    have d1 : decide (n < -2305843009213693952) = false := by simp; omega
    have d2 : decide (2305843009213693951 < n) = false := by simp; omega
    go_enter Tryz.func41, Tryz.ntmps41
    go_wp2
    go_ret2
    exact ⟨by rw [Hz.out]; rfl, rfl⟩
  · have Hz : Hid ((Rv.zig n).1 = 2 * n) := Lib.hid (by unfold Rv.zig; rw [if_neg (by omega), if_neg hn])
    have d1 : decide (n < -2305843009213693952) = false := by simp; omega
    have d2 : decide (2305843009213693951 < n) = false := by simp; omega
    have d3 : 0 ≤ n := by omega
    clear hn
    go_enter Tryz.func41, Tryz.ntmps41
    go_wp2
    go_ret2
    exact ⟨by rw [Hz.out]; rfl, rfl⟩

theorem zag_any (n : Nat) (w : World) (h1 : n ≤ 4611686018427387903) :
    Calls Tryz.prog 94 #[.int .i64 (n : Int)] w fun e w' => e = .returned (.tuple #[.int .i64 (Rv.zag n).1, .int .i64 0]) ∧ w = w' := by
  have h0 : 0 ≤ (n : Int) := by omega
  have h2 : (n : Int) ≤ 4611686018427387903 := by omega
  have hm := mayN_yes h0 h2
  by_cases hn : (n : Int) % 2 = 1
  · have Hz : Hid ((Rv.zag n).1 = -((n : Int) / 2) - 1) := Lib.hid (by unfold Rv.zag; rw [if_neg (by rw [hm]; simp), if_pos hn])
    clear hm
    go_enter Tryz.func94, Tryz.ntmps94
    go_wp2_with (go_at_call 113; refine (may_yes _ _ h0 h2).mono ?_; rintro e w' ⟨rfl, rfl⟩)
    go_ret2
    exact ⟨by rw [Hz.out]; rfl, rfl⟩
  · have Hz : Hid ((Rv.zag n).1 = ((n : Int) / 2)) := Lib.hid (by unfold Rv.zag; rw [if_neg (by rw [hm]; simp), if_neg hn])
    clear hm
    go_enter Tryz.func94, Tryz.ntmps94
    go_wp2_with (go_at_call 113; refine (may_yes _ _ h0 h2).mono ?_; rintro e w' ⟨rfl, rfl⟩)
    go_ret2
    exact ⟨by rw [Hz.out]; rfl, rfl⟩

end Go.Proofs.YtcmndglhileeoaaGreat
