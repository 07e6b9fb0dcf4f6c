/- A part of the proof (RowMore): its texts in a row: Float, Seal, Chain, Header, Bucket, Window, IndexFunc, Window2. Each text's own remark stands at its head. -/
import Derived.Test.YtcmndglhileeoaaGreatMo3
import GoSem.Core.Float
import Derived.Laws.ComplexArith
import Derived.Deep.RegionWith
import Derived.Deep.RegionHeld3
import Derived.Lib.SlBytesConst
import Derived.Deep.QuietTactic
import Derived.BigQuiet
import Derived.LoopTactic
/- Whole numbers below 2^53 in floats: sums, differences, products and the way back are exact. Plain arithmetic; no program. -/
namespace Rv
open Go Ieee

def sg (s : Bool) (m : Nat) : Int := if s then -(m : Int) else (m : Int)
theorem sg_abs (s : Bool) (m : Nat) : (sg s m).natAbs = m := by cases s <;> simp [sg]

@[irreducible] def KK : Nat := 2200
theorem KK_eq : KK = 2200 := by unfold KK; rfl

theorem log2_mul_pow (m k : Nat) (hm : m ≠ 0) : (m * 2 ^ k).log2 = m.log2 + k := by
  have h0 : m * 2 ^ k ≠ 0 := Nat.ne_of_gt (Nat.mul_pos (Nat.pos_of_ne_zero hm) (Nat.two_pow_pos k))
  rw [Nat.log2_eq_iff h0]
  constructor
  · rw [Nat.pow_add]; exact Nat.mul_le_mul_right _ (Nat.log2_self_le hm)
  · rw [show m.log2 + k + 1 = (m.log2 + 1) + k by omega, Nat.pow_add]
    exact Nat.mul_lt_mul_of_pos_right Nat.lt_log2_self (Nat.two_pow_pos k)

/-- A datum's value is a whole number. -/
def Val (lo : Nat) (d : Datum) (n : Int) : Prop := ∃ s m e, d = .number s m e ∧ -(lo : Int) ≤ e ∧ lo ≤ KK ∧ sg s m * 2 ^ (e + KK).toNat = n * 2 ^ KK ∧ (n = 0 → s = false)

abbrev fl (n : Int) : Nat := floatOfInt .f64 n
theorem fl_eq (n : Int) : fl n = Ieee.double.nearest (n < 0) n.natAbs 0 := rfl

theorem pow_pos' (k : Nat) : 0 < (2 : Nat) ^ k := Nat.two_pow_pos k

theorem Val.mag {s : Bool} {m : Nat} {e : Int} {n : Int} (h : sg s m * 2 ^ (e + KK).toNat = n * 2 ^ KK) : m * 2 ^ (e + KK).toNat = n.natAbs * 2 ^ KK := by
  have := congrArg Int.natAbs h
  rw [Int.natAbs_mul, Int.natAbs_mul, sg_abs, Int.natAbs_pow, Int.natAbs_pow] at this
  exact this

theorem Val.sign {s : Bool} {m : Nat} {e : Int} {n : Int} (h : sg s m * 2 ^ (e + KK).toNat = n * 2 ^ KK) (h0 : n = 0 → s = false) : s = decide (n < 0) := by
  have p1 : (0 : Int) < 2 ^ (e + KK).toNat := Int.pow_pos (by decide)
  have p2 : (0 : Int) < 2 ^ KK := Int.pow_pos (by decide)
  rcases Int.lt_trichotomy n 0 with hn | hn | hn
  · have : n * 2 ^ KK < 0 := Int.mul_neg_of_neg_of_pos hn p2
    cases s with
    | true => simp [hn]
    | false =>
      have h2 : 0 ≤ sg false m * 2 ^ (e + KK).toNat := Int.mul_nonneg (by simp [sg]) (Int.le_of_lt p1)
      omega
  · rw [h0 hn]; simp [hn]
  · have : 0 < n * 2 ^ KK := Int.mul_pos hn p2
    cases s with
    | false => symm; simp; omega
    | true =>
      have h2 : sg true m * 2 ^ (e + KK).toNat ≤ 0 := Int.mul_nonpos_of_nonpos_of_nonneg (by simp [sg]) (Int.le_of_lt p1)
      omega

/-- The rung of a whole number: t its last digit's place. -/
theorem log2_val {m N : Nat} {e : Int} (he : -KK ≤ e) (hN : 0 < N) (h : m * 2 ^ (e + KK).toNat = N * 2 ^ KK) : 0 < m ∧ e + m.log2 = N.log2 := by
  have hm : 0 < m := by
    rcases Nat.eq_zero_or_pos m with h0 | h0
    · subst h0
      have := Nat.mul_pos hN (pow_pos' KK)
      simp only [Nat.zero_mul] at h
      omega
    · exact h0
  refine ⟨hm, ?_⟩
  have h1 : (m * 2 ^ (e + KK).toNat).log2 = m.log2 + (e + KK).toNat := by
    exact log2_mul_pow _ _ (by omega)
  have h2 : (N * 2 ^ KK).log2 = N.log2 + KK := by
    exact log2_mul_pow _ _ (by omega)
  rw [h, h2] at h1
  omega

theorem cut_exact (way : Toward) (neg : Bool) (q drop : Nat) : way.cut neg (q * 2 ^ drop) drop = q := by
  unfold Toward.cut
  have hgap : (1 <<< min drop ((q * 2 ^ drop).log2 + 2)) ∣ q * 2 ^ drop ∧ q * 2 ^ drop / (1 <<< min drop ((q * 2 ^ drop).log2 + 2)) = q ∧ 0 < 1 <<< min drop ((q * 2 ^ drop).log2 + 2) := by
    rcases Nat.eq_zero_or_pos q with h0 | h0
    · subst h0
      refine ⟨by simp, by simp, ?_⟩
      rw [Nat.shiftLeft_eq, Nat.one_mul]; exact pow_pos' _
    · have hl : (q * 2 ^ drop).log2 = q.log2 + drop := log2_mul_pow _ _ (by omega)
      have hm : min drop ((q * 2 ^ drop).log2 + 2) = drop := by omega
      rw [hm, Nat.shiftLeft_eq, Nat.one_mul]
      exact ⟨Nat.dvd_mul_left _ _, Nat.mul_div_cancel _ (pow_pos' _), pow_pos' _⟩
  obtain ⟨h1, h2, h3⟩ := hgap
  have h4 := Nat.mod_eq_zero_of_dvd h1
  simp only [h2, h4]
  have : (1 <<< min drop ((q * 2 ^ drop).log2 + 2)) ≠ 0 := by omega
  cases way <;> simp [this]

theorem nearest_val {s : Bool} {m N : Nat} {e : Int} (he : -KK ≤ e) (hN : 0 < N) (hb : N < 2 ^ 53) (h : m * 2 ^ (e + KK).toNat = N * 2 ^ KK) :
    Ieee.double.nearest s m e = Ieee.double.word s ((N.log2 + 1022) * 2 ^ 52 + N * 2 ^ (52 - N.log2)) := by
  have hK := KK_eq
  obtain ⟨hm, hl⟩ := log2_val he hN h
  have hL : N.log2 ≤ 52 := by
    have := (Nat.log2_lt (by omega)).2 hb
    omega
  unfold Format.nearest
  rw [if_neg (by omega)]
  have hlp : Ieee.double.leastPlace = -1074 := by decide
  have hfb : Ieee.double.fractionBits = 52 := rfl
  simp only [hlp, hfb, hl]
  have hlast : max ((N.log2 : Int) - (52 : Nat)) (-1074) = (N.log2 : Int) - 52 := by omega
  rw [hlast]
  have hk : Toward.even.cut s (m <<< (e - ((N.log2 : Int) - 52)).toNat) (((N.log2 : Int) - 52) - e).toNat = N * 2 ^ (52 - N.log2) := by
    rcases Int.le_total ((N.log2 : Int) - 52) e with hle | hle
    · have e1 : (((N.log2 : Int) - 52) - e).toNat = 0 := by omega
      rw [e1, Nat.shiftLeft_eq]
      have := cut_exact Toward.even s (m * 2 ^ (e - ((N.log2 : Int) - 52)).toNat) 0
      rw [Nat.pow_zero, Nat.mul_one] at this
      rw [this]
      have e2 : (e + KK).toNat = (e - ((N.log2 : Int) - 52)).toNat + (N.log2 + (KK - 52)) := by omega
      have e3 : KK = (52 - N.log2) + (N.log2 + (KK - 52)) := by omega
      rw [e2] at h
      conv at h => rhs; rw [e3]
      generalize N.log2 + (KK - 52) = J at *
      rw [Nat.pow_add, Nat.pow_add, ← Nat.mul_assoc, ← Nat.mul_assoc] at h
      exact Nat.eq_of_mul_eq_mul_right (pow_pos' _) h
    · have e1 : (e - ((N.log2 : Int) - 52)).toNat = 0 := by omega
      rw [e1, Nat.shiftLeft_zero]
      have e2 : (52 - N.log2) + ((((N.log2 : Int) - 52) - e).toNat + (e + KK).toNat) = KK := by omega
      have e3 : m = (N * 2 ^ (52 - N.log2)) * 2 ^ (((N.log2 : Int) - 52) - e).toNat := by
        refine Nat.eq_of_mul_eq_mul_right (pow_pos' (e + KK).toNat) ?_
        rw [h, Nat.mul_assoc, Nat.mul_assoc, ← Nat.pow_add, ← Nat.pow_add, e2]
      rw [e3]
      exact cut_exact _ _ _ _
  rw [hk]
  have hbin : Ieee.double.binade = 2 ^ 52 := rfl
  have hinf : Ieee.double.infRung = 2047 * 2 ^ 52 := rfl
  rw [hbin, hinf]
  congr 1
  have e4 : ((N.log2 : Int) - 52 - -1074).toNat = N.log2 + 1022 := by omega
  rw [e4]
  have h5 : N * 2 ^ (52 - N.log2) ≤ 2 ^ 53 := by
    have h6 : N < 2 ^ (N.log2 + 1) := Nat.lt_log2_self
    have h7 : 2 ^ 53 = 2 ^ (N.log2 + 1) * 2 ^ (52 - N.log2) := by rw [← Nat.pow_add]; congr 1; omega
    rw [h7]
    exact Nat.mul_le_mul_right _ (by omega)
  have h8 : (N.log2 + 1022) * 2 ^ 52 ≤ 1074 * 2 ^ 52 := Nat.mul_le_mul_right _ (by omega)
  refine Nat.min_eq_left ?_
  have h9 : (2 : Nat) ^ 53 = 2 * 2 ^ 52 := by decide
  generalize (2 : Nat) ^ 53 = B3 at *
  generalize (2 : Nat) ^ 52 = B at *
  generalize (N.log2 + 1022) * B = R at *
  omega

theorem nearest_zero (s : Bool) (e : Int) : Ieee.double.nearest s 0 e = Ieee.double.word s 0 := by unfold Format.nearest; rw [if_pos rfl]

/-- Whatever datum stands for the number: its word is the number's. -/
theorem write_val {lo : Nat} {d : Datum} {n : Int} (h : Val lo d n) (hb : n.natAbs < 2 ^ 53) : Ieee.double.write d = fl n := by
  obtain ⟨s, m, e, rfl, he, hlo, hv, h0⟩ := h
  have hs := Val.sign hv h0
  have hm := Val.mag hv
  rw [show Ieee.double.write (.number s m e) = Ieee.double.nearest s m e from rfl, fl_eq]
  have hK := KK_eq
  rcases Nat.eq_zero_or_pos n.natAbs with hz | hz
  · have : m = 0 := by
      rw [hz, Nat.zero_mul] at hm
      rcases Nat.mul_eq_zero.1 hm with h1 | h1
      · exact h1
      · have := pow_pos' (e + KK).toNat; omega
    rw [this, nearest_zero, hz, nearest_zero, hs]
  · rw [nearest_val (by omega) hz hb hm, nearest_val (m := n.natAbs) (e := 0) (by omega) hz hb (by simp), hs]

theorem read_val {n : Int} (hb : n.natAbs < 2 ^ 53) : Val 1100 (Ieee.double.read (fl n)) n := by
  have hK := KK_eq
  rcases Nat.eq_zero_or_pos n.natAbs with hz | hz
  · have : n = 0 := by omega
    subst this
    have : Ieee.double.read (fl 0) = .number false 0 (-1074) := by decide
    rw [this]
    exact ⟨_, _, _, rfl, by omega, by omega, by simp [sg], fun _ => rfl⟩
  · have hL : n.natAbs.log2 ≤ 52 := by
      have := (Nat.log2_lt (by omega)).2 hb
      omega
    have hlo : 2 ^ 52 ≤ n.natAbs * 2 ^ (52 - n.natAbs.log2) := by
      have h6 : 2 ^ n.natAbs.log2 ≤ n.natAbs := Nat.log2_self_le (by omega)
      have h7 : 2 ^ 52 = 2 ^ n.natAbs.log2 * 2 ^ (52 - n.natAbs.log2) := by rw [← Nat.pow_add]; congr 1; omega
      rw [h7]
      exact Nat.mul_le_mul_right _ h6
    have hhi : n.natAbs * 2 ^ (52 - n.natAbs.log2) < 2 * 2 ^ 52 := by
      have h6 : n.natAbs < 2 ^ (n.natAbs.log2 + 1) := Nat.lt_log2_self
      have h7 : 2 * 2 ^ 52 = 2 ^ (n.natAbs.log2 + 1) * 2 ^ (52 - n.natAbs.log2) := by rw [← Nat.pow_add, ← Nat.pow_succ']; congr 1; omega
      rw [h7]
      exact Nat.mul_lt_mul_of_pos_right h6 (pow_pos' _)
    have hfl : fl n = Ieee.double.word (decide (n < 0)) ((n.natAbs.log2 + 1022) * 2 ^ 52 + n.natAbs * 2 ^ (52 - n.natAbs.log2)) := by
      rw [fl_eq, nearest_val (m := n.natAbs) (e := 0) (by omega) hz hb (by simp)]
    have hval : (n.natAbs * 2 ^ (52 - n.natAbs.log2)) * 2 ^ (((n.natAbs.log2 : Int) - 52) + KK).toNat = n.natAbs * 2 ^ KK := by
      rw [Nat.mul_assoc, ← Nat.pow_add]; congr 2; omega
    generalize hq : n.natAbs * 2 ^ (52 - n.natAbs.log2) = q at *
    generalize n.natAbs.log2 = t at *
    have hr : Ieee.double.read (fl n) = .number (decide (n < 0)) q ((t : Int) - 52) := by
      rw [hfl]
      have hsw : Ieee.double.signWeight = 2048 * 2 ^ 52 := rfl
      have hbin : Ieee.double.binade = 2 ^ 52 := rfl
      have hinf : Ieee.double.infRung = 2047 * 2 ^ 52 := rfl
      have hlp : Ieee.double.leastPlace = -1074 := by decide
      have hR1 : (t + 1022) * 2 ^ 52 ≤ 1074 * 2 ^ 52 := Nat.mul_le_mul_right _ (Nat.add_le_add_right hL 1022)
      have hR0 : 1022 * 2 ^ 52 ≤ (t + 1022) * 2 ^ 52 := Nat.mul_le_mul_right _ (Nat.le_add_left 1022 t)
      have hR2 : (t + 1023) * 2 ^ 52 = (t + 1022) * 2 ^ 52 + 2 ^ 52 := by rw [show t + 1023 = (t + 1022) + 1 by omega, Nat.add_mul (t + 1022), Nat.one_mul]
      have hBp := pow_pos' 52
      unfold Format.read Format.word
      simp only [hsw, hbin, hinf, hlp]
      clear hfl hval hsw hbin hinf hb
      generalize (2 : Nat) ^ 52 = B at *
      have e2 : ((t + 1022) * B + q) % B = q - B := by
        have e1 : (t + 1022) * B + q = (q - B) + (t + 1023) * B := by
          rw [hR2]
          generalize (t + 1022) * B = R at *
          omega
        rw [e1, Nat.add_mul_mod_self_right]; exact Nat.mod_eq_of_lt (by omega)
      have e3 : ((t + 1022) * B + q) / B = t + 1023 := by
        have e1 : (t + 1022) * B + q = (q - B) + (t + 1023) * B := by
          rw [hR2]
          generalize (t + 1022) * B = R at *
          omega
        rw [e1, Nat.add_mul_div_right _ _ hBp, Nat.div_eq_of_lt (by omega)]; omega
      clear hR2
      generalize (t + 1022) * B = R at *
      have hw1 : (if decide (n < 0) = true then 2048 * B + (R + q) else R + q) / (2048 * B) % 2 = (decide (n < 0)).toNat := by
        by_cases hn : n < 0
        · rw [if_pos (by simp [hn]), Nat.add_div_left _ (by omega), Nat.div_eq_of_lt (by omega)]; simp [hn]
        · rw [if_neg (by simp [hn]), Nat.div_eq_of_lt (by omega)]; simp [hn]
      have hw2 : (if decide (n < 0) = true then 2048 * B + (R + q) else R + q) % (2048 * B) = R + q := by
        by_cases hn : n < 0
        · rw [if_pos (by simp [hn]), Nat.add_mod_left, Nat.mod_eq_of_lt (by omega)]
        · rw [if_neg (by simp [hn]), Nat.mod_eq_of_lt (by omega)]
      rw [hw1, hw2]
      rw [if_neg (by omega)]
      refine Eq.trans (if_pos (by omega)) ?_
      have e5 : B + (R + q) % B = q := by omega
      have e6 : (-1074 : Int) + (((R + q) / B - 1 : Nat) : Int) = (t : Int) - 52 := by omega
      have e7 : ((decide (n < 0)).toNat == 1) = decide (n < 0) := by cases decide (n < 0) <;> rfl
      simp only [e5, e6, e7]
    rw [hr]
    clear hr hfl hlo hhi hb hq
    refine ⟨_, _, _, rfl, by omega, by omega, ?_, fun h => by omega⟩
    have hc : ((q * 2 ^ (((t : Int) - 52) + KK).toNat : Nat) : Int) = ((n.natAbs * 2 ^ KK : Nat) : Int) := congrArg _ hval
    rw [Int.natCast_mul, Int.natCast_mul, Int.natCast_pow, Int.natCast_pow] at hc
    by_cases hn : n < 0
    · have : (n.natAbs : Int) = -n := by omega
      rw [this] at hc
      simp only [hn, decide_true, sg, if_true]
      rw [Int.neg_mul]
      have h2 : ((2 : Nat) : Int) = 2 := rfl
      rw [h2] at hc
      rw [hc]
      rw [Int.neg_mul]
      omega
    · have : (n.natAbs : Int) = n := by omega
      rw [this] at hc
      simp only [hn, decide_false, sg]
      exact hc


theorem signed_eq (s : Bool) (m k : Nat) : Ieee.signed s m k = sg s m * 2 ^ k := by
  unfold Ieee.signed sg
  rw [Nat.shiftLeft_eq]
  cases s
  · simp
  · simp [Int.neg_mul]

/-- Moved to a lower place it is the same number. -/
theorem sg_base {s : Bool} {m : Nat} {i base : Int} {n : Int} (hb : base ≤ i) (h0 : -KK ≤ base) (h : sg s m * 2 ^ (i + KK).toNat = n * 2 ^ KK) :
    Ieee.signed s m (i - base).toNat * 2 ^ (base + KK).toNat = n * 2 ^ KK := by
  rw [signed_eq, Int.mul_assoc, ← Int.pow_add, ← h]
  congr 2
  omega

theorem natAbs_sg (x : Int) : sg (decide (x < 0)) x.natAbs = x := by
  unfold sg
  by_cases h : x < 0
  · simp [h]; omega
  · simp [h]; omega

theorem mul_pow_zero {x n : Int} {k : Nat} (h : x * 2 ^ k = n * 2 ^ KK) : x = 0 ↔ n = 0 := by
  have p1 : (2 : Int) ^ k ≠ 0 := Int.ne_of_gt (Int.pow_pos (by decide))
  have p2 : (2 : Int) ^ KK ≠ 0 := Int.ne_of_gt (Int.pow_pos (by decide))
  constructor
  · rintro rfl
    rw [Int.zero_mul] at h
    exact (Int.mul_eq_zero.1 h.symm).resolve_right p2
  · rintro rfl
    rw [Int.zero_mul] at h
    exact (Int.mul_eq_zero.1 h).resolve_right p1

theorem Val.sum {lo : Nat} {d d' : Datum} {a b : Int} (h1 : Val lo d a) (h2 : Val lo d' b) : ∃ r, d.sum d' = some r ∧ Val lo r (a + b) := by
  obtain ⟨s, m, i, rfl, hi, hlo, hv, h0⟩ := h1
  obtain ⟨t, n, j, rfl, hj, _, hv', h0'⟩ := h2
  have hs := Val.sign hv h0
  have ht := Val.sign hv' h0'
  have e1 := sg_base (base := min i j) (by omega) (by omega) hv
  have e2 := sg_base (base := min i j) (by omega) (by omega) hv'
  refine ⟨_, rfl, ?_⟩
  generalize hx : Ieee.signed s m (i - min i j).toNat = x at *
  generalize hy : Ieee.signed t n (j - min i j).toNat = y at *
  have e3 : (x + y) * 2 ^ (min i j + KK).toNat = (a + b) * 2 ^ KK := by rw [Int.add_mul, Int.add_mul, e1, e2]
  have hz := mul_pow_zero e3
  by_cases hxy : x + y = 0
  · rw [if_pos hxy]
    refine ⟨_, _, _, rfl, by omega, hlo, ?_, fun hab => ?_⟩
    · rw [hxy] at e3 ⊢
      simp only [Int.natAbs_zero]
      rw [← e3]
      cases (s && t) <;> simp [sg]
    · rw [hs, ht]
      by_cases ha : a < 0
      · have : ¬ b < 0 := by omega
        simp [this]
      · simp [ha]
  · rw [if_neg hxy]
    refine ⟨_, _, _, rfl, by omega, hlo, ?_, fun hab => absurd (hz.2 hab) hxy⟩
    rw [natAbs_sg]
    exact e3

theorem Val.sub {lo : Nat} {d d' : Datum} {a b : Int} (h1 : Val lo d a) (h2 : Val lo d' b) : ∃ r, d.sum d'.opposite = some r ∧ Val lo r (a - b) := by
  obtain ⟨s, m, i, rfl, hi, hlo, hv, h0⟩ := h1
  obtain ⟨t, n, j, rfl, hj, _, hv', h0'⟩ := h2
  have hs := Val.sign hv h0
  have ht := Val.sign hv' h0'
  have hv2 : sg (!t) n * 2 ^ (j + KK).toNat = (-b) * 2 ^ KK := by
    have : sg (!t) n = -sg t n := by cases t <;> simp [sg]
    rw [this, Int.neg_mul, hv', Int.neg_mul]
  have e1 := sg_base (base := min i j) (by omega) (by omega) hv
  have e2 := sg_base (base := min i j) (by omega) (by omega) hv2
  refine ⟨_, rfl, ?_⟩
  generalize hx : Ieee.signed s m (i - min i j).toNat = x at *
  generalize hy : Ieee.signed (!t) n (j - min i j).toNat = y at *
  have e3 : (x + y) * 2 ^ (min i j + KK).toNat = (a - b) * 2 ^ KK := by rw [Int.add_mul, e1, e2, Int.sub_mul, Int.neg_mul]; rfl
  have hz := mul_pow_zero e3
  by_cases hxy : x + y = 0
  · rw [if_pos hxy]
    refine ⟨_, _, _, rfl, by omega, hlo, ?_, fun hab => ?_⟩
    · rw [hxy] at e3 ⊢
      simp only [Int.natAbs_zero]
      rw [← e3]
      cases (s && !t) <;> simp [sg]
    · rw [hs, ht]
      have : a = b := by omega
      subst this
      cases decide (a < 0) <;> rfl
  · rw [if_neg hxy]
    refine ⟨_, _, _, rfl, by omega, hlo, ?_, fun hab => absurd (hz.2 hab) hxy⟩
    rw [natAbs_sg]
    exact e3

theorem Val.mul {d d' : Datum} {a b : Int} (h1 : Val 1100 d a) (h2 : Val 1100 d' b) (ha : 0 ≤ a) (hb : 0 ≤ b) : ∃ r, d.product d' = some r ∧ Val 2200 r (a * b) := by
  obtain ⟨s, m, i, rfl, hi, hlo, hv, h0⟩ := h1
  obtain ⟨t, n, j, rfl, hj, _, hv', h0'⟩ := h2
  have hK := KK_eq
  have hs := Val.sign hv h0
  have ht := Val.sign hv' h0'
  have hs' : s = false := by rw [hs]; simp; omega
  have ht' : t = false := by rw [ht]; simp; omega
  clear hs ht
  subst hs'
  subst ht'
  refine ⟨_, rfl, false, m * n, i + j, rfl, by omega, by omega, ?_, fun _ => rfl⟩
  simp only [sg] at *
  simp only [Bool.false_eq_true, if_false] at *
  have p : (2 : Int) ^ KK ≠ 0 := Int.ne_of_gt (Int.pow_pos (by decide))
  refine Int.eq_of_mul_eq_mul_right p ?_
  have e1 : (i + j + KK).toNat + KK = (i + KK).toNat + (j + KK).toNat := by omega
  rw [Int.mul_assoc, ← Int.pow_add, e1, Int.pow_add, Int.natCast_mul]
  have e2 : (m : Int) * n * (2 ^ (i + KK).toNat * 2 ^ (j + KK).toNat) = (m * 2 ^ (i + KK).toNat) * (n * 2 ^ (j + KK).toNat) := by
    simp only [Int.mul_assoc, Int.mul_left_comm]
  rw [e2, hv, hv']
  simp only [Int.mul_assoc, Int.mul_left_comm]

theorem Val.int {lo : Nat} {d : Datum} {n : Int} (h : Val lo d n) : d.toInt .zero = some n := by
  obtain ⟨s, m, e, rfl, he, hlo, hv, h0⟩ := h
  have hm := Val.mag hv
  have hs := Val.sign hv h0
  unfold Datum.toInt Datum.integral
  simp only
  congr 1
  have hq : Toward.zero.cut s (m <<< e.toNat) (-e).toNat = n.natAbs := by
    rcases Int.le_total 0 e with h1 | h1
    · have e1 : (-e).toNat = 0 := by omega
      rw [e1, Nat.shiftLeft_eq]
      have := cut_exact Toward.zero s (m * 2 ^ e.toNat) 0
      rw [Nat.pow_zero, Nat.mul_one] at this
      rw [this]
      refine Nat.eq_of_mul_eq_mul_right (pow_pos' KK) ?_
      rw [← hm, Nat.mul_assoc, ← Nat.pow_add]
      congr 2
      omega
    · have e1 : e.toNat = 0 := by omega
      rw [e1, Nat.shiftLeft_zero]
      have e2 : m = n.natAbs * 2 ^ (-e).toNat := by
        refine Nat.eq_of_mul_eq_mul_right (pow_pos' (e + KK).toNat) ?_
        rw [hm, Nat.mul_assoc, ← Nat.pow_add]
        congr 2
        omega
      rw [e2]
      exact cut_exact _ _ _ _
  rw [hq, signed_eq, hs, natAbs_sg]
  simp

theorem fl_add {a b : Int} (ha : a.natAbs < 2 ^ 53) (hb : b.natAbs < 2 ^ 53) (hab : (a + b).natAbs < 2 ^ 53) : floatBits .add .f64 (fl a) (fl b) = some (fl (a + b)) := by
  obtain ⟨r, h1, h2⟩ := Val.sum (read_val ha) (read_val hb)
  show ((Ieee.double.read (fl a)).sum (Ieee.double.read (fl b))).map Ieee.double.write = _
  rw [h1, Option.map_some, write_val h2 hab]
theorem fl_sub {a b : Int} (ha : a.natAbs < 2 ^ 53) (hb : b.natAbs < 2 ^ 53) (hab : (a - b).natAbs < 2 ^ 53) : floatBits .sub .f64 (fl a) (fl b) = some (fl (a - b)) := by
  obtain ⟨r, h1, h2⟩ := Val.sub (read_val ha) (read_val hb)
  show ((Ieee.double.read (fl a)).sum (Ieee.double.read (fl b)).opposite).map Ieee.double.write = _
  rw [h1, Option.map_some, write_val h2 hab]
theorem fl_mul {a b : Int} (ha0 : 0 ≤ a) (hb0 : 0 ≤ b) (ha : a.natAbs < 2 ^ 53) (hb : b.natAbs < 2 ^ 53) (hab : (a * b).natAbs < 2 ^ 53) : floatBits .mul .f64 (fl a) (fl b) = some (fl (a * b)) := by
  obtain ⟨r, h1, h2⟩ := Val.mul (read_val ha) (read_val hb) ha0 hb0
  show ((Ieee.double.read (fl a)).product (Ieee.double.read (fl b))).map Ieee.double.write = _
  rw [h1, Option.map_some, write_val h2 hab]
theorem fl_int {n : Int} (hn : n.natAbs < 2 ^ 53) : floatToIntVal .f64 (fl n) .i64 = some n := by
  unfold floatToIntVal
  rw [show FloatKind.f64.decode (fl n) = Ieee.double.read (fl n) from rfl, Val.int (read_val hn)]
  simp only
  rw [if_pos]
  have h1 : IntKind.i64.min = -9223372036854775808 := by decide
  have h2 : IntKind.i64.max = 9223372036854775807 := by decide
  rw [h1, h2]
  have : (2 : Nat) ^ 53 = 9007199254740992 := by decide
  rw [this] at hn
  omega


theorem b53 : (2 : Nat) ^ 53 = 9007199254740992 := by decide
theorem w_re : 4679482798749253632 = fl 69069 := by decide +kernel
theorem w_im : 4689970232712757248 = fl 362437 := by decide +kernel
theorem one_fl : 4607182418800017408 = fl 1 := by decide +kernel
theorem zero_fl : 0 = fl 0 := by decide +kernel

theorem mul_w {a b : Int} (ha0 : 0 ≤ a) (ha : a < 16777199) (hb0 : 0 ≤ b) (hb : b < 16777199) :
    cMulBits (fl a) (fl b) 4679482798749253632 4689970232712757248 = some (fl (a * 69069 - b * 362437), fl (a * 362437 + b * 69069)) := by
  rw [w_re, w_im]
  unfold cMulBits
  have h := b53
  rw [fl_mul (a := a) (b := 69069) (by omega) (by omega) (by omega) (by omega) (by omega),
    fl_mul (a := b) (b := 362437) (by omega) (by omega) (by omega) (by omega) (by omega),
    fl_mul (a := a) (b := 362437) (by omega) (by omega) (by omega) (by omega) (by omega),
    fl_mul (a := b) (b := 69069) (by omega) (by omega) (by omega) (by omega) (by omega)]
  simp only [Option.bind_some]
  rw [fl_sub (by omega) (by omega) (by omega), fl_add (by omega) (by omega) (by omega)]
  simp only [Option.bind_some]

theorem add_byte {a b c : Int} (ha : a.natAbs < 4503599627370496) (hb : b.natAbs < 4503599627370496) (hc0 : 0 ≤ c) (hc : c < 256) :
    cSumBits .add .f64 (fl a) (fl b) (fl (c + 1)) 0 = some (fl (a + (c + 1)), fl b) := by
  have h := b53
  conv => lhs; rw [zero_fl]
  unfold cSumBits
  rw [fl_add (by omega) (by omega) (by omega), fl_add (by omega) (by omega) (by omega)]
  simp only [Option.bind_some, Int.add_zero]

theorem add_one {c : Int} (hc0 : 0 ≤ c) (hc : c < 256) : floatBits .add .f64 (fl c) 4607182418800017408 = some (fl (c + 1)) := by
  have h := b53
  rw [one_fl, fl_add (by omega) (by omega) (by omega)]

end Rv

/- The walks of package seal. No conditions but on the ranges of numbers, and that a slice is read. -/
namespace Go.Proofs.YtcmndglhileeoaaGreat
open Go.RowKit

abbrev sealV (s : Rv.Seal) : Value := .agg #[.int .i64 s.re, .int .i64 s.im]

theorem number_seal (a b : Int) (w : World) :
    Calls Tryz.prog 75 #[.agg #[.int .i64 a, .int .i64 b]] w fun e w' => e = .returned (.complex .f64 (Rv.fl a) (Rv.fl b)) ∧ Below w.heap.size w w' := by
  go_enter Tryz.func75, Tryz.ntmps75
  go_wp2
  go_ret
  exact ⟨rfl, (Below.refl _ _).alloc (Nat.le_refl _) _⟩

theorem tmod_neg (n : Int) (h : n < 0) : n.tmod 16777199 = -((-n) % 16777199) := by
  rw [← Int.neg_neg n, Int.neg_tmod, Int.tmod_eq_emod_of_nonneg (by omega)]; omega

theorem part_any (n : Int) (w : World) (h : n.natAbs < 2 ^ 53) :
    Calls Tryz.prog 114 #[.float .f64 (Rv.fl n)] w fun e w' => e = .returned (.int .i64 (n % 16777199)) ∧ w = w' := by
  have hc : ∀ w, (convert 162 3 (.float .f64 (Rv.fl n))).run Tryz.prog w = .ok (.int .i64 n) w := fun w =>
    run_convert_float_int w _ _ _ _ _ _ (by rw [Tryz.underlying162]; rfl) Tryz.underlying3 (Rv.fl_int h)
  have h' : n.natAbs < 9007199254740992 := by have : (2 : Nat) ^ 53 = 9007199254740992 := by decide
                                              rw [this] at h; exact h
  have b1 : -9007199254740992 < n := by omega
  have b2 : n < 9007199254740992 := by omega
  clear h h'
  by_cases h0 : 0 ≤ n
  · have hm : Hid ((n % 16777199 + 16777199) % 16777199 = n % 16777199) := Lib.hid (by omega)
    go_enter Tryz.func114, Tryz.ntmps114
    go_wp2
    go_ret
    exact ⟨ret_int hm.out, rfl⟩
  · have ht := tmod_neg n (by omega)
    have hm : Hid ((-((-n) % 16777199) + 16777199) % 16777199 = n % 16777199) := Lib.hid (by omega)
    have h1 : n < 0 := by omega
    clear h0
    go_enter Tryz.func114, Tryz.ntmps114
    go_wp2
    go_ret
    exact ⟨ret_int hm.out, rfl⟩

theorem seal_seal (a b : Int) (w : World) (ha : a.natAbs < 2 ^ 53) (hb : b.natAbs < 2 ^ 53) :
    Calls Tryz.prog 76 #[.complex .f64 (Rv.fl a) (Rv.fl b)] w fun e w' => e = .returned (sealV ⟨a % 16777199, b % 16777199⟩) ∧ Below w.heap.size w w' := by
  have Ha := Lib.hid ha
  have Hb := Lib.hid hb
  clear ha hb
  go_enter Tryz.func76, Tryz.ntmps76
  go_wp2_with fail
  refine (part_any a _ Ha.out).mono ?_
  rintro e w' ⟨rfl, rfl⟩
  go_wp2_with fail
  refine (part_any b _ Hb.out).mono ?_
  rintro e w' ⟨rfl, rfl⟩
  go_wp2_with fail
  exact bodyPost_ret (v := .agg #[.int .i64 (a % 16777199), .int .i64 (b % 16777199)]) (by simp [results, Tryz.results76, go_sem]) rfl ⟨rfl, (Below.refl _ _).alloc (Nat.le_refl _) _⟩

theorem start_any (w : World) : Calls Tryz.prog 56 #[] w fun e w' => e = .returned (sealV Rv.Seal.start) ∧ Below w.heap.size w w' := by
  have h1 : 4607182418800017408 = Rv.fl 1 := by decide +kernel
  have h2 : 4611686018427387904 = Rv.fl 2 := by decide +kernel
  have H := Lib.hid (seal_seal 1 2)
  have H1 := Lib.hid h1
  have H2 := Lib.hid h2
  clear h1 h2
  go_enter Tryz.func56, Tryz.ntmps56
  go_wp2_with fail
  rw [H1.out, H2.out]
  refine (H.out _ (by decide) (by decide)).mono ?_
  rintro e w1 ⟨rfl, hb⟩
  obtain ⟨hc, hf⟩ := bcell hb
  have hz : w.heap.size + 1 ≤ w1.heap.size := by have := hb.size; simp at this; omega
  go_wp2_with fail
  exact bodyPost_ret (v := .agg #[.int .i64 1, .int .i64 2]) (by simp [results, Tryz.results56, go_sem, hc]) rfl ⟨rfl, 
    (((((Below.refl _ _).alloc (Nat.le_refl _) _).trans (hb.mono (by simp))).setCell (by simp) _).setCell (by simp) _)⟩

theorem w_any (w : World) : Calls Tryz.prog 77 #[] w fun e w' => e = .returned (.complex .f64 4679482798749253632 4689970232712757248) ∧ w = w' := by
  go_enter Tryz.func77, Tryz.ntmps77
  go_wp2
  go_ret
  exact ⟨rfl, rfl⟩

theorem right_yes (s : Rv.Seal) (w : World) (h0 : 0 ≤ s.re) (h1 : s.re < 16777199) (h2 : 0 ≤ s.im) (h3 : s.im < 16777199) :
    Calls Tryz.prog 74 #[.agg #[.int .i64 s.re, .int .i64 s.im]] w fun e w' => e = .returned (.bool true) ∧ Below w.heap.size w w' := by
  obtain ⟨a, b⟩ := s
  simp only at h0 h1 h2 h3
  go_enter Tryz.func74, Tryz.ntmps74
  go_wp2
  go_ret
  exact ⟨rfl, (Below.refl _ _).alloc (Nat.le_refl _) _⟩
theorem right_no (s : Rv.Seal) (w : World) (h : s.right = false) :
    Calls Tryz.prog 74 #[.agg #[.int .i64 s.re, .int .i64 s.im]] w fun e w' => e = .returned (.bool false) ∧ Below w.heap.size w w' := by
  obtain ⟨a, b⟩ := s
  by_cases h0 : 0 ≤ a
  · by_cases h1 : a < 16777199
    · by_cases h2 : 0 ≤ b
      · have h3 : ¬ b < 16777199 := by
          intro h3
          unfold Rv.Seal.right at h
          simp only [decide_eq_true h0, decide_eq_true h1, decide_eq_true h2, decide_eq_true h3] at h
          cases h
        have d3 : decide (b < 16777199) = false := decide_eq_false h3
        clear h h3
        go_enter Tryz.func74, Tryz.ntmps74
        go_wp2
        go_ret
        exact ⟨rfl, (Below.refl _ _).alloc (Nat.le_refl _) _⟩
      · have d3 : decide (0 ≤ b) = false := decide_eq_false h2
        clear h h2
        go_enter Tryz.func74, Tryz.ntmps74
        go_wp2
        go_ret
        exact ⟨rfl, (Below.refl _ _).alloc (Nat.le_refl _) _⟩
    · have d3 : decide (a < 16777199) = false := decide_eq_false h1
      clear h h1
      go_enter Tryz.func74, Tryz.ntmps74
      go_wp2
      go_ret
      exact ⟨rfl, (Below.refl _ _).alloc (Nat.le_refl _) _⟩
  · have d3 : decide (0 ≤ a) = false := decide_eq_false h0
    clear h h0
    go_enter Tryz.func74, Tryz.ntmps74
    go_wp2
    go_ret
    exact ⟨rfl, (Below.refl _ _).alloc (Nat.le_refl _) _⟩

theorem right_parts {s : Rv.Seal} (h : s.right = true) : 0 ≤ s.re ∧ s.re < 16777199 ∧ 0 ≤ s.im ∧ s.im < 16777199 := by
  unfold Rv.Seal.right at h
  simp only [Bool.and_eq_true, decide_eq_true_eq] at h
  exact ⟨h.1.1.1, h.1.1.2, h.1.2, h.2⟩
theorem right_of {s : Rv.Seal} (h : 0 ≤ s.re ∧ s.re < 16777199 ∧ 0 ≤ s.im ∧ s.im < 16777199) : s.right = true := by
  unfold Rv.Seal.right
  simp only [Bool.and_eq_true, decide_eq_true_eq]
  exact ⟨⟨⟨h.1, h.2.1⟩, h.2.2.1⟩, h.2.2.2⟩
theorem step_right (s : Rv.Seal) (c : UInt8) : (s.step c).right = true := right_of (by unfold Rv.Seal.step; simp only; omega)
theorem adds_right {s : Rv.Seal} (h : s.right = true) (xs : List UInt8) : (s.adds xs).right = true := by
  unfold Rv.Seal.adds
  induction xs generalizing s with
  | nil => exact h
  | cons c r ih => exact ih (step_right s c)

set_option maxHeartbeats 1000000 in
theorem add_any (s : Rv.Seal) (A : Option Addr) (xs : List UInt8) (c : Nat) (w : World) (hr : RdB w A xs) (hl : xs.length ≤ 140737488355328) (hs : s.right = true) :
    Calls Tryz.prog 37 #[.agg #[.int .i64 s.re, .int .i64 s.im], .slice A xs.length c] w fun e w' =>
      e = .returned (.tuple #[.agg #[.int .i64 (s.adds xs).re, .int .i64 (s.adds xs).im], .int .i64 0]) ∧ Below w.heap.size w w' := by
  obtain ⟨h0, h1, h2, h3⟩ := right_parts hs
  have Hs := Lib.hid hs
  have Hr := Lib.hid hr
  clear hs hr
  go_enter Tryz.func37, Tryz.ntmps37
  go_wp2_with fail
  refine (right_yes _ _ h0 h1 h2 h3).mono ?_
  rintro e w1 ⟨rfl, hb1⟩
  obtain ⟨hc1, hf1⟩ := bcell hb1
  have hz1 : w.heap.size + 2 ≤ w1.heap.size := by have := hb1.size; simp at this; omega
  go_wp2_with fail
  refine (number_seal _ _ _).mono ?_
  rintro e w2 ⟨rfl, hb2⟩
  go_wp2_with fail
  have HB : Below w.heap.size w w2 := by
    refine below_then (below_then (((Below.refl _ _).alloc (Nat.le_refl _) _).alloc (by simp) _) (by simp; omega) hb1) (by omega) hb2
  have hz2 : w.heap.size + 2 ≤ w2.heap.size := by have := hb2.size; omega
  have hcell : w2.cell? ⟨w.heap.size + 1, 0, none⟩ = some (.int .i64 0) ∧ w2.cell? ⟨w.heap.size + 1, 1, none⟩ = some (.int .i64 0) ∧
      w2.frozen? ⟨w.heap.size + 1, 0, none⟩ = false ∧ w2.frozen? ⟨w.heap.size + 1, 1, none⟩ = false := by
    obtain ⟨hc2, hf2⟩ := bcell hb2
    rw [hc2 _ _ (by omega), hc2 _ _ (by omega), hf2 _ _ (by omega), hf2 _ _ (by omega), hc1 _ _ (by simp), hc1 _ _ (by simp), hf1 _ _ (by simp), hf1 _ _ (by simp)]
    refine ⟨?_, ?_, ?_, ?_⟩ <;> go_simp
  have HC := Lib.hid hcell
  clear hcell hc1 hf1 hb1 hb2 hz1 h0 h1 h2 h3
  go_loopw [6, 17] (fun z i wr => ∃ (k : Nat) (t : Rv.Seal), k ≤ xs.length ∧ i = .int .i64 (k : Int) ∧ z = .complex .f64 (Rv.fl t.re) (Rv.fl t.im) ∧ Hid (t = s.adds (xs.take k)) ∧ Hid (t.right = true) ∧ Below (w.heap.size + 2) w2 wr) (fun _ i _ => xs.length - (intOf i).toNat)
  case atStart => exact ⟨0, s, by omega, rfl, rfl, Lib.hid rfl, Hs, Below.refl _ _⟩
  case round =>
    obtain ⟨k, t, hk, rfl, rfl, HT, HR, HBr⟩ := hrel
    obtain ⟨t0, t1, t2, t3⟩ := right_parts HR.out
    have hzr := HBr.size
    have hbw : Below w.heap.size w wr := HB.trans (HBr.mono (by omega))
    by_cases hlt : k < xs.length
    · obtain ⟨cb, hcb⟩ := some_at hlt
      obtain ⟨ad, rfl, hcell⟩ := (Hr.out.below hbw) _ _ hcb
      have hcl : (cb.toNat : Int) < 256 := by have := UInt8.toNat_lt cb; omega
      have HT' : Hid (t.step cb = s.adds (xs.take (k + 1))) := Lib.hid (by
        rw [List.take_succ_eq_append_getElem hlt, (List.getElem?_eq_some_iff.1 hcb).2]
        unfold Rv.Seal.adds
        rw [List.foldl_append, HT.out]
        rfl)
      have e1 : ∀ W, (binOp .mul 158 (.complex .f64 (Rv.fl t.re) (Rv.fl t.im)) (.complex .f64 4679482798749253632 4689970232712757248)).run Tryz.prog W = .ok (.complex .f64 (Rv.fl (t.re * 69069 - t.im * 362437)) (Rv.fl (t.re * 362437 + t.im * 69069))) W :=
        fun W => run_complex_mul W _ _ _ _ _ _ _ (Rv.mul_w t0 t1 t2 t3)
      have e2 : ∀ W, (binOp .add 162 (.float .f64 (Rv.fl (cb.toNat : Int))) (.float .f64 4607182418800017408)).run Tryz.prog W = .ok (.float .f64 (Rv.fl ((cb.toNat : Int) + 1))) W :=
        fun W => run_float_arith W _ _ _ _ _ _ (Rv.add_one (by omega) hcl)
      have e3 : ∀ W, (binOp .add 158 (.complex .f64 (Rv.fl (t.re * 69069 - t.im * 362437)) (Rv.fl (t.re * 362437 + t.im * 69069))) (.complex .f64 (Rv.fl ((cb.toNat : Int) + 1)) 0)).run Tryz.prog W = .ok (.complex .f64 (Rv.fl (t.re * 69069 - t.im * 362437 + ((cb.toNat : Int) + 1))) (Rv.fl (t.re * 362437 + t.im * 69069))) W :=
        fun W => run_complex_sum W _ (.inl rfl) _ _ _ _ _ _ _ _ (Rv.add_byte (by omega) (by omega) (by omega) hcl)
      have H5 : Hid ((t.re * 69069 - t.im * 362437 + ((cb.toNat : Int) + 1)).natAbs < 2 ^ 53 ∧ (t.re * 362437 + t.im * 69069).natAbs < 2 ^ 53) := Lib.hid (by rw [Rv.b53]; omega)
      clear hcb HT HR
      go_wp2_with fail
      refine (w_any _).mono ?_
      rintro e w' ⟨rfl, rfl⟩
      go_wp2_with fail
      refine (seal_seal _ _ _ H5.out.1 H5.out.2).mono ?_
      rintro e w3 ⟨rfl, hb3⟩
      go_wp2_with fail
      refine (number_seal _ _ _).mono ?_
      rintro e w4 ⟨rfl, hb4⟩
      go_wp2_with fail
      go_roundw
      case rel => exact ⟨k + 1, t.step cb, by omega, by go_num, rfl, HT', Lib.hid (step_right _ _), below_then (below_then HBr (by omega) hb3) (by have := hb3.size; omega) hb4⟩
      case measure => simp [intOf]; omega
    · have hke : k = xs.length := by omega
      have Hfin : Hid (s.adds xs = t) := Lib.hid (by rw [HT.out, hke, List.take_length])
      have H5 : Hid (t.re.natAbs < 2 ^ 53 ∧ t.im.natAbs < 2 ^ 53) := Lib.hid (by rw [Rv.b53]; omega)
      have E1 : Hid (t.re % 16777199 = t.re ∧ t.im % 16777199 = t.im) := Lib.hid (by omega)
      have hge : xs.length ≤ k := by omega
      obtain ⟨hcr, hfr⟩ := HC.out |> fun h => (⟨⟨(HBr.cell (p := ⟨w.heap.size + 1, 0, none⟩) (by simp)).trans h.1, (HBr.cell (p := ⟨w.heap.size + 1, 1, none⟩) (by simp)).trans h.2.1⟩,
        ⟨(HBr.frozen (p := ⟨w.heap.size + 1, 0, none⟩) (by simp)).trans h.2.2.1, (HBr.frozen (p := ⟨w.heap.size + 1, 1, none⟩) (by simp)).trans h.2.2.2⟩⟩ :
        (wr.cell? ⟨w.heap.size + 1, 0, none⟩ = some (.int .i64 0) ∧ wr.cell? ⟨w.heap.size + 1, 1, none⟩ = some (.int .i64 0)) ∧ (wr.frozen? ⟨w.heap.size + 1, 0, none⟩ = false ∧ wr.frozen? ⟨w.heap.size + 1, 1, none⟩ = false))
      clear hlt hke HT HR
      go_wp2_with fail
      refine (seal_seal _ _ _ H5.out.1 H5.out.2).mono ?_
      rintro e w3 ⟨rfl, hb3⟩
      obtain ⟨hc3, hf3⟩ := bcell hb3
      have hz3 : w.heap.size + 1 < wr.heap.size := by omega
      go_wp2_with fail
      rw [Hfin.out]
      exact bodyPost_ret (v := .tuple #[.agg #[.int .i64 t.re, .int .i64 t.im], .int .i64 0]) (by simp [results, Tryz.results37, go_sem, hc3, hcr, hz3, E1.out.1, E1.out.2]) rfl ⟨rfl,
        (((below_then hbw hbw.size hb3).setCell (by simp) _).setCell (by simp) _)⟩

theorem bytes_u8s {s : Rv.Seal} (h0 : 0 ≤ s.re) (h1 : s.re < 16777199) (h2 : 0 ≤ s.im) (h3 : s.im < 16777199) :
    [Value.int .u8 (s.re % 256), .int .u8 (s.re / 256 % 256), .int .u8 (s.re / 65536), .int .u8 (s.im % 256), .int .u8 (s.im / 256 % 256), .int .u8 (s.im / 65536)] = u8s s.bytes := by
  have key : ∀ n : Int, 0 ≤ n → n < 256 → ((UInt8.ofNat n.toNat).toNat : Int) = n := fun n a b => by simp; omega
  unfold Rv.Seal.bytes
  rw [if_pos (right_of ⟨h0, h1, h2, h3⟩)]
  simp only [Rv.b3, u8s, List.map_cons, List.map_nil, List.cons_append, List.nil_append]
  rw [key _ (by omega) (by omega), key _ (by omega) (by omega), key _ (by omega) (by omega), key _ (by omega) (by omega), key _ (by omega) (by omega), key _ (by omega) (by omega)]
  rw [show s.re / 65536 % 256 = s.re / 65536 by omega, show s.im / 65536 % 256 = s.im / 65536 by omega]

theorem bytes_any (s : Rv.Seal) (w : World) (hs : s.right = true) :
    Calls Tryz.prog 72 #[.agg #[.int .i64 s.re, .int .i64 s.im]] w fun e w' => ∃ v, e = .returned (.tuple #[v, .int .i64 0]) ∧ OwnB w' w.heap.size v s.bytes ∧ Below w.heap.size w w' := by
  obtain ⟨h0, h1, h2, h3⟩ := right_parts hs
  have Hs := Lib.hid hs
  clear hs
  go_enter Tryz.func72, Tryz.ntmps72
  go_wp2_with fail
  refine (right_yes _ _ h0 h1 h2 h3).mono ?_
  rintro e w1 ⟨rfl, hb1⟩
  obtain ⟨hc1, hf1⟩ := bcell hb1
  have hz1 : w.heap.size + 1 ≤ w1.heap.size := by have := hb1.size; simp at this; omega
  go_wp2_with fail
  go_ret2
  have HO : OwnV (w1.alloc (.cells #[.int .u8 (s.re % 256), .int .u8 (s.re / 256 % 256), .int .u8 (s.re / 65536), .int .u8 (s.im % 256), .int .u8 (s.im / 256 % 256), .int .u8 (s.im / 65536)] 5)) w.heap.size 5
      (.slice (some ⟨w1.heap.size, 0, none⟩) 6 6) (u8s s.bytes) := own_lit (bytes_u8s h0 h1 h2 h3) (by rw [← bytes_u8s h0 h1 h2 h3]; rfl) (by omega) (by omega)
  exact ⟨_, rfl, HO.toB, below_trans ((Below.refl _ _).alloc (Nat.le_refl _) _) (hb1.alloc hb1.size _)⟩

theorem read_parts {xs : List UInt8} {i : Nat} (h : i + 6 ≤ xs.length) : ∃ a b c d e f r, xs.drop i = a :: b :: c :: d :: e :: f :: r ∧ xs[i]? = some a ∧ xs[i + 1]? = some b ∧ xs[i + 2]? = some c ∧ xs[i + 3]? = some d ∧ xs[i + 4]? = some e ∧ xs[i + 5]? = some f := by
  obtain ⟨a, ha⟩ := some_at (show i < xs.length by omega)
  obtain ⟨b, hb⟩ := some_at (show i + 1 < xs.length by omega)
  obtain ⟨c, hc⟩ := some_at (show i + 2 < xs.length by omega)
  obtain ⟨d, hd⟩ := some_at (show i + 3 < xs.length by omega)
  obtain ⟨e, he⟩ := some_at (show i + 4 < xs.length by omega)
  obtain ⟨f, hf⟩ := some_at (show i + 5 < xs.length by omega)
  exact ⟨a, b, c, d, e, f, xs.drop (i + 5 + 1), by rw [drop_cons_of ha, drop_cons_of hb, drop_cons_of hc, drop_cons_of hd, drop_cons_of he, drop_cons_of hf], ha, hb, hc, hd, he, hf⟩

theorem or_i64_nat (a b : Nat) (ha : a < 4294967296) (hb : b < 4294967296) : bits .or .i64 (a : Int) (b : Int) = ((a ||| b : Nat) : Int) := by
  have hx : a ||| b < 2 ^ 32 := Nat.or_lt_two_pow (by omega) (by omega)
  have h1 : (BitVec.ofInt 64 (a : Int)).toNat = a := by
    rw [BitVec.ofInt_natCast, BitVec.toNat_ofNat]; exact Nat.mod_eq_of_lt (by omega)
  have h2 : (BitVec.ofInt 64 (b : Int)).toNat = b := by
    rw [BitVec.ofInt_natCast, BitVec.toNat_ofNat]; exact Nat.mod_eq_of_lt (by omega)
  show IntKind.i64.wrap ((BitVec.ofInt 64 (a : Int) ||| BitVec.ofInt 64 (b : Int)).toNat : Int) = _
  rw [BitVec.toNat_or, h1, h2]
  simp [IntKind.wrap, IntKind.bits, IntKind.signed]
  omega

theorem or3 (a b c : UInt8) : bits BinOp.or IntKind.i64 (bits BinOp.or IntKind.i64 (wrap64 (a.toNat : Int)) (wrap64 (wrap64 (b.toNat : Int) * 256))) (wrap64 (wrap64 (c.toNat : Int) * 65536)) = Rv.n3 a b c := by
  have ha := a.toNat_lt
  have hb := b.toNat_lt
  have hc := c.toNat_lt
  have e1 : wrap64 (a.toNat : Int) = (a.toNat : Int) := by unfold wrap64; omega
  have e2 : wrap64 (wrap64 (b.toNat : Int) * 256) = ((b.toNat * 256 : Nat) : Int) := by unfold wrap64; omega
  have e3 : wrap64 (wrap64 (c.toNat : Int) * 65536) = ((c.toNat * 65536 : Nat) : Int) := by unfold wrap64; omega
  have o1 : a.toNat ||| b.toNat * 256 = a.toNat + b.toNat * 256 := by
    have := Nat.shiftLeft_add_eq_or_of_lt (b := a.toNat) (i := 8) (by omega) b.toNat
    rw [Nat.shiftLeft_eq] at this
    rw [Nat.or_comm, ← this]; omega
  have o2 : (a.toNat + b.toNat * 256) ||| c.toNat * 65536 = a.toNat + b.toNat * 256 + c.toNat * 65536 := by
    have := Nat.shiftLeft_add_eq_or_of_lt (b := a.toNat + b.toNat * 256) (i := 16) (by omega) c.toNat
    rw [Nat.shiftLeft_eq] at this
    rw [Nat.or_comm, ← this]; omega
  rw [e1, e2, e3, or_i64_nat _ _ (by omega) (by omega), o1, or_i64_nat _ _ (by omega) (by omega), o2]
  unfold Rv.n3
  omega

theorem sread_short {l : List UInt8} (h : l.length < 6) : Rv.Seal.read l = .error 10 := by
  rcases l with _ | ⟨a, l⟩
  · rfl
  rcases l with _ | ⟨b, l⟩
  · rfl
  rcases l with _ | ⟨c, l⟩
  · rfl
  rcases l with _ | ⟨d, l⟩
  · rfl
  rcases l with _ | ⟨e, l⟩
  · rfl
  rcases l with _ | ⟨f, l⟩
  · rfl
  simp only [List.length_cons] at h
  omega

def sealRes (at_ : Nat) : Except Int Rv.Seal → Ending
  | .ok s => .returned (.tuple #[.agg #[.int .i64 s.re, .int .i64 s.im], .int .i64 ((at_ : Int) + 6), .int .i64 0])
  | .error e => .returned (.tuple #[.agg #[.int .i64 0, .int .i64 0], .int .i64 0, .int .i64 e])

set_option maxHeartbeats 2000000 in
set_option maxRecDepth 100000 in
theorem sread_any (A : Option Addr) (xs : List UInt8) (c at_ : Nat) (w : World) (hr : RdB w A xs) (hl : xs.length ≤ 140737488355328) (hc : xs.length ≤ c) (ha : at_ ≤ xs.length) :
    Calls Tryz.prog 55 #[.slice A xs.length c, .int .i64 (at_ : Int)] w fun e w' => e = sealRes at_ (Rv.Seal.read (xs.drop at_)) ∧ Below w.heap.size w w' := by
  have g1 : decide ((at_ : Int) < 0) = false := by simp
  have g2 : decide (xs.length < at_) = false := by simp; omega
  by_cases h6 : at_ + 6 ≤ xs.length
  · obtain ⟨b0, b1, b2, b3, b4, b5, r, hd, h0, h1, h2, h3, h4, h5⟩ := read_parts h6
    obtain ⟨ad, rfl, k0⟩ := hr _ _ h0
    obtain ⟨_, e1, k1⟩ := hr _ _ h1
    cases e1
    obtain ⟨_, e1, k2⟩ := hr _ _ h2
    cases e1
    obtain ⟨_, e1, k3⟩ := hr _ _ h3
    cases e1
    obtain ⟨_, e1, k4⟩ := hr _ _ h4
    cases e1
    obtain ⟨_, e1, k5⟩ := hr _ _ h5
    cases e1
    rw [← add_add] at k1 k2 k3 k4 k5
    replace k1 : w.cell? ⟨(ad.add at_).block, (ad.add at_).off + 1, none⟩ = some (.int .u8 (b1.toNat : Int)) := k1
    replace k2 : w.cell? ⟨(ad.add at_).block, (ad.add at_).off + 2, none⟩ = some (.int .u8 (b2.toNat : Int)) := k2
    replace k3 : w.cell? ⟨(ad.add at_).block, (ad.add at_).off + 3, none⟩ = some (.int .u8 (b3.toNat : Int)) := k3
    replace k4 : w.cell? ⟨(ad.add at_).block, (ad.add at_).off + 4, none⟩ = some (.int .u8 (b4.toNat : Int)) := k4
    replace k5 : w.cell? ⟨(ad.add at_).block, (ad.add at_).off + 5, none⟩ = some (.int .u8 (b5.toNat : Int)) := k5
    have Hd := Lib.hid hd
    clear hd hr h0 h1 h2 h3 h4 h5
    have hat : ¬ c = at_ := by omega
    have hln : at_ + 6 - at_ = 6 := by omega
    have g3 : decide ((xs.length : Int) - (at_ : Int) < 6) = false := by simp; omega
    go_enter Tryz.func55, Tryz.ntmps55
    go_wp2_with fail
    go_region_held3 (fun w' => w'.cell? (ad.add at_) = some (.int .u8 (b0.toNat : Int)) ∧ w'.cell? ⟨(ad.add at_).block, (ad.add at_).off + 1, none⟩ = some (.int .u8 (b1.toNat : Int)) ∧ w'.cell? ⟨(ad.add at_).block, (ad.add at_).off + 2, none⟩ = some (.int .u8 (b2.toNat : Int)) ∧
      w'.cell? ⟨(ad.add at_).block, (ad.add at_).off + 3, none⟩ = some (.int .u8 (b3.toNat : Int)) ∧ w'.cell? ⟨(ad.add at_).block, (ad.add at_).off + 4, none⟩ = some (.int .u8 (b4.toNat : Int)) ∧ w'.cell? ⟨(ad.add at_).block, (ad.add at_).off + 5, none⟩ = some (.int .u8 (b5.toNat : Int)))
      (first | go_keep) (first | fail)
    have q1 := or3 b0 b1 b2
    have q2 := or3 b3 b4 b5
    obtain ⟨v1, hv1⟩ : ∃ v, Rv.n3 b0 b1 b2 = v := ⟨_, rfl⟩
    obtain ⟨v2, hv2⟩ : ∃ v, Rv.n3 b3 b4 b5 = v := ⟨_, rfl⟩
    rw [hv1] at q1
    rw [hv2] at q2
    have Hs : Hid (Rv.Seal.read (xs.drop at_) = if (Rv.Seal.mk v1 v2).right then .ok ⟨v1, v2⟩ else .error 20) := Lib.hid (by rw [Hd.out, Rv.Seal.read, hv1, hv2])
    clear hv1 hv2 hat hln
    go_wp2_with fail
    by_cases hR : (Rv.Seal.mk v1 v2).right = true
    · obtain ⟨r0, r1, r2, r3⟩ := right_parts hR
      refine (right_yes ⟨v1, v2⟩ _ r0 r1 r2 r3).mono ?_
      rintro e w1 ⟨rfl, hb1⟩
      have c0 : w1.cell? ⟨w.heap.size, 0, none⟩ = some (.int .i64 0) := cell_below hb1 (by go_simp)
      have c1 : w1.cell? ⟨w.heap.size, 1, none⟩ = some (.int .i64 0) := cell_below hb1 (by go_simp)
      have c2 : w1.cell? ⟨w.heap.size + 1, 0, none⟩ = some (.int .i64 v1) := cell_below hb1 (by go_simp)
      have c3 : w1.cell? ⟨w.heap.size + 1, 1, none⟩ = some (.int .i64 v2) := cell_below hb1 (by go_simp)
      have f0 : w1.frozen? ⟨w.heap.size, 0, none⟩ = false := (hb1.frozen (by simp; omega)).trans (by go_simp)
      have f1 : w1.frozen? ⟨w.heap.size, 1, none⟩ = false := (hb1.frozen (by simp; omega)).trans (by go_simp)
      have hz1 : w.heap.size + 2 ≤ w1.heap.size := by have := hb1.size; simp at this; omega
      go_wp2_with fail
      rw [Hs.out, if_pos hR]
      exact bodyPost_ret (v := .tuple #[.agg #[.int .i64 v1, .int .i64 v2], .int .i64 ((at_ : Int) + 6), .int .i64 0]) (by simp [results, Tryz.results55, go_sem, c0, c1]) rfl ⟨rfl,
        ((((((Below.refl _ _).alloc (Nat.le_refl _) _).alloc (by simp) _).drew.trans (hb1.mono (by simp; omega))).setCell (by simp) _).setCell (by simp) _)⟩
    · have hR' : (Rv.Seal.mk v1 v2).right = false := by simpa using hR
      refine (right_no ⟨v1, v2⟩ _ hR').mono ?_
      rintro e w1 ⟨rfl, hb1⟩
      have c0 : w1.cell? ⟨w.heap.size, 0, none⟩ = some (.int .i64 0) := cell_below hb1 (by go_simp)
      have c1 : w1.cell? ⟨w.heap.size, 1, none⟩ = some (.int .i64 0) := cell_below hb1 (by go_simp)
      have c2 : w1.cell? ⟨w.heap.size + 1, 0, none⟩ = some (.int .i64 v1) := cell_below hb1 (by go_simp)
      have c3 : w1.cell? ⟨w.heap.size + 1, 1, none⟩ = some (.int .i64 v2) := cell_below hb1 (by go_simp)
      have f0 : w1.frozen? ⟨w.heap.size, 0, none⟩ = false := (hb1.frozen (by simp; omega)).trans (by go_simp)
      have f1 : w1.frozen? ⟨w.heap.size, 1, none⟩ = false := (hb1.frozen (by simp; omega)).trans (by go_simp)
      have hz1 : w.heap.size + 2 ≤ w1.heap.size := by have := hb1.size; simp at this; omega
      go_wp2_with fail
      rw [Hs.out, if_neg hR]
      exact bodyPost_ret (v := .tuple #[.agg #[.int .i64 0, .int .i64 0], .int .i64 0, .int .i64 20]) (by simp [results, Tryz.results55, go_sem, c0, c1]) rfl ⟨rfl,
        ((((((Below.refl _ _).alloc (Nat.le_refl _) _).alloc (by simp) _).drew.trans (hb1.mono (by simp; omega))).setCell (by simp) _).setCell (by simp) _)⟩
  · have g3 : decide ((xs.length : Int) - (at_ : Int) < 6) = true := by simp; omega
    have Hs : Hid (Rv.Seal.read (xs.drop at_) = .error 10) := Lib.hid (sread_short (by simp; omega))
    clear h6
    go_enter Tryz.func55, Tryz.ntmps55
    go_wp2_with fail
    rw [Hs.out]
    exact bodyPost_ret (v := .tuple #[.agg #[.int .i64 0, .int .i64 0], .int .i64 0, .int .i64 10]) (by simp [results, Tryz.results55, go_sem]) rfl ⟨rfl, (Below.refl _ _).alloc (Nat.le_refl _) _⟩
end Go.Proofs.YtcmndglhileeoaaGreat

/- The walks of package chain. Conditions: the link may be; the segment is no longer than a tape. -/
namespace Go.Proofs.YtcmndglhileeoaaGreat
open Go.RowKit

abbrev linkV (l : Rv.Link) : Value := .agg #[.int .i64 l.number, .int .i64 l.bytes, .int .i64 l.sl.re, .int .i64 l.sl.im]

set_option maxHeartbeats 400000 in
theorem first_any (w : World) : Calls Tryz.prog 34 #[] w fun e w' => e = .returned (.agg #[.int .i64 0, .int .i64 0, .int .i64 1, .int .i64 2]) ∧ Below w.heap.size w w' := by
  go_enter Tryz.func34, Tryz.ntmps34
  go_wp2_with fail
  refine (start_any _).mono ?_
  rintro e w1 ⟨rfl, hb⟩
  obtain ⟨hc, hf, hlz, hnz, hmz, hz⟩ := bcell2 hb (w.heap.size + 1) (by simp)
  go_wp2_with fail
  exact bodyPost_ret (v := .agg #[.int .i64 0, .int .i64 0, .int .i64 1, .int .i64 2]) (by simp [results, Tryz.results34, go_sem, hc, Rv.Seal.start]) rfl ⟨rfl,
    (((((((Below.refl _ _).alloc (Nat.le_refl _) _).trans (hb.mono (by simp))).setCell (by simp) _).setCell (by simp) _).setCell (by simp) _).setCell (by simp) _)⟩

theorem may_parts {l : Rv.Link} (h : l.may = true) : 0 ≤ l.number ∧ l.number ≤ 10000 ∧ 0 ≤ l.bytes ∧ l.bytes ≤ 4194304 ∧ l.sl.right = true := by
  unfold Rv.Link.may at h
  simp only [Bool.and_eq_true, decide_eq_true_eq] at h
  exact ⟨h.1.1.1.1, h.1.1.1.2, h.1.1.2, h.1.2, h.2⟩

set_option maxHeartbeats 400000 in
theorem lmay_yes (l : Rv.Link) (w : World) (h : l.may = true) :
    Calls Tryz.prog 92 #[.agg #[.int .i64 l.number, .int .i64 l.bytes, .int .i64 l.sl.re, .int .i64 l.sl.im]] w fun e w' => e = .returned (.bool true) ∧ Below w.heap.size w w' := by
  obtain ⟨h0, h1, h2, h3, h4⟩ := may_parts h
  obtain ⟨g0, g1, g2, g3⟩ := right_parts h4
  obtain ⟨n, b, ⟨x, y⟩⟩ := l
  simp only at h0 h1 h2 h3 g0 g1 g2 g3
  clear h h4
  go_enter Tryz.func92, Tryz.ntmps92
  go_wp2_with fail
  refine (right_yes ⟨x, y⟩ _ g0 g1 g2 g3).mono ?_
  rintro e w1 ⟨rfl, hb⟩
  go_wp2_with fail
  go_ret
  exact ⟨rfl, (((Below.refl _ _).alloc (Nat.le_refl _) _).trans (hb.mono (by simp)))⟩

set_option maxHeartbeats 1000000 in
set_option maxRecDepth 100000 in
theorem next_any (l : Rv.Link) (A : Option Addr) (xs : List UInt8) (c : Nat) (w : World) (hr : RdB w A xs) (hl : xs.length ≤ 4194304) (h : l.may = true) :
    Calls Tryz.prog 46 #[.agg #[.int .i64 l.number, .int .i64 l.bytes, .int .i64 l.sl.re, .int .i64 l.sl.im], .slice A xs.length c] w fun e w' =>
      e = .returned (.tuple #[linkV (l.next xs).1, .int .i64 (l.next xs).2]) ∧ Below w.heap.size w w' := by
  obtain ⟨h0, h1, h2, h3, h4⟩ := may_parts h
  have hd : decide ((4194304 : Int) < (xs.length : Int)) = false := by simp; omega
  have H := Lib.hid h
  have Hr := Lib.hid hr
  have H4 := Lib.hid h4
  clear h hr h4
  by_cases hn : l.number = 10000
  · have Hnx : Hid (l.next xs = (⟨0, 0, ⟨0, 0⟩⟩, 3)) := Lib.hid (by unfold Rv.Link.next; rw [if_neg (by rw [H.out]; simp), if_neg (by omega), if_pos hn]; rfl)
    have hn' : (l.number == 10000) = true := by rw [beq_iff_eq]; exact hn
    clear hn
    go_enter Tryz.func46, Tryz.ntmps46
    go_wp2_with fail
    refine (lmay_yes l _ H.out).mono ?_
    rintro e w1 ⟨rfl, hb1⟩
    obtain ⟨hc1, hf1, hlz1, hnz1, hmz1, hz1⟩ := bcell2 hb1 (w.heap.size + 2) (by simp)
    go_wp2_with fail
    rw [Hnx.out]
    exact bodyPost_ret (v := .tuple #[.agg #[.int .i64 0, .int .i64 0, .int .i64 0, .int .i64 0], .int .i64 3]) (by simp [results, Tryz.results46, go_sem, hc1]) rfl ⟨rfl,
      (((((((((Below.refl _ _).alloc (Nat.le_refl _) _).alloc (by simp) _).trans (hb1.mono (by simp; omega))).setCell (by simp) _).setCell (by simp) _).setCell (by simp) _).setCell (by simp) _))⟩
  · have Hnx : Hid (l.next xs = (⟨l.number + 1, xs.length, l.sl.adds xs⟩, 0)) := Lib.hid (by unfold Rv.Link.next; rw [if_neg (by rw [H.out]; simp), if_neg (by omega), if_neg hn])
    have h1' : l.number ≤ 9999 := by omega
    have hn' : (l.number == 10000) = false := by rw [beq_eq_false_iff_ne]; exact hn
    go_enter Tryz.func46, Tryz.ntmps46
    go_wp2_with fail
    refine (lmay_yes l _ H.out).mono ?_
    rintro e w1 ⟨rfl, hb1⟩
    obtain ⟨hc1, hf1, hlz1, hnz1, hmz1, hz1⟩ := bcell2 hb1 (w.heap.size + 2) (by simp)
    have HB1 : Below w.heap.size w w1 := (((Below.refl _ _).alloc (Nat.le_refl _) _).alloc (by simp) _).trans (hb1.mono (by simp; omega))
    go_wp2_with fail
    refine (add_any l.sl A xs c _ (Hr.out.below HB1) (by omega) H4.out).mono ?_
    rintro e w2 ⟨rfl, hb2⟩
    obtain ⟨hc2, hf2, hlz2, hnz2, hmz2, hz2⟩ := bcell2 hb2 (w.heap.size + 2) hz1
    have HB2 := below_trans HB1 hb2
    go_wp2_with fail
    rw [Hnx.out]
    exact bodyPost_ret (v := .tuple #[.agg #[.int .i64 (l.number + 1), .int .i64 xs.length, .int .i64 (l.sl.adds xs).re, .int .i64 (l.sl.adds xs).im], .int .i64 0]) (by simp [results, Tryz.results46, go_sem, hc2, hc1, hlz2]) rfl ⟨rfl,
      by repeat (first | exact HB2 | refine Below.setCell ?_ (by simp) _ | refine Below.alloc ?_ (by simp; omega) _)⟩

set_option maxHeartbeats 1000000 in
set_option maxRecDepth 100000 in
theorem lbytes_any (l : Rv.Link) (w : World) (h : l.may = true) :
    Calls Tryz.prog 48 #[.agg #[.int .i64 l.number, .int .i64 l.bytes, .int .i64 l.sl.re, .int .i64 l.sl.im]] w fun e w' =>
      ∃ v, e = .returned (.tuple #[v, .int .i64 0]) ∧ OwnB w' w.heap.size v l.enc ∧ Below w.heap.size w w' := by
  obtain ⟨h0, h1, h2, h3, h4⟩ := may_parts h
  have H := Lib.hid h
  have H4 := Lib.hid h4
  have HE : Hid (l.enc = Rv.numB l.number ++ Rv.numB l.bytes ++ l.sl.bytes) := Lib.hid (by unfold Rv.Link.enc; rw [if_pos h])
  have HM : Hid (Rv.mayN l.number = true ∧ Rv.mayN l.bytes = true) := Lib.hid ⟨mayN_yes h0 (by omega), mayN_yes h2 (by omega)⟩
  have hb1 := Rv.numB_len l.number
  have hb2 := Rv.numB_len l.bytes
  have hb3 := Rv.Seal.bytes_len l.sl
  clear h h4
  go_enter Tryz.func48, Tryz.ntmps48
  go_wp2_with fail
  refine (lmay_yes l _ H.out).mono ?_
  rintro e w1 ⟨rfl, hb1⟩
  obtain ⟨hc1, hf1, hlz1, hnz1, hmz1, hz1⟩ := bcell2 hb1 (w.heap.size + 1) (by simp)
  have HB1 : Below w.heap.size w w1 := ((Below.refl _ _).alloc (Nat.le_refl _) _).trans (hb1.mono (by simp))
  go_wp2_with fail
  refine (number_yes _ _ h0 (by omega)).mono ?_
  rintro e w2 ⟨v2, rfl, HO2, hb2⟩
  obtain ⟨hc2, hf2, hlz2, hnz2, hmz2, hz2⟩ := bcell2 hb2 (w.heap.size + 1) hz1
  have HB2 := below_trans HB1 hb2
  go_wp2_with fail
  refine (number_yes _ _ h2 (by omega)).mono ?_
  rintro e w3 ⟨v3, rfl, HO3, hb3⟩
  obtain ⟨hc3, hf3, hlz3, hnz3, hmz3, hz3⟩ := bcell2 hb3 (w.heap.size + 1) hz2
  have HB3 := below_trans HB2 hb3
  go_wp2_with fail
  refine (bytes_any l.sl _ H4.out).mono ?_
  rintro e w4 ⟨v4, rfl, HO4, hb4⟩
  have HB4 := below_trans HB3 hb4
  have HOa : OwnB w4 w.heap.size v2 (Rv.numB l.number) := (((HO2.below hb3).below hb4).mono HB1.size)
  have HOb := HO3.below hb4
  have hlt2 := HO2.lt
  have hs3 := hb3.size
  obtain ⟨A3, c3, rfl, hlc3, hm3, HR3⟩ := HOb.shape
  obtain ⟨A4, c4, rfl, hlc4, hm4, HR4⟩ := HO4.shape
  have hnc3 := HOb.nilcap
  have hnc4 := HO4.nilcap
  have HNC3 := Lib.hid hnc3
  have HNC4 := Lib.hid hnc4
  clear hnc3 hnc4
  go_wp2_with (first
    | (at_builtin; refine appb_src (w0 := w) w.heap.size rfl _ _ 22 rfl Tryz.underlying22 infoB _ (Rv.numB l.number) (Rv.numB l.bytes) A3 c3 (by rfl) (by rfl) HOa HR3 HB4 HB4.size (by omega) HNC3.out ?_; intro v5 w5 HO5 HB5 hg5 _; have HR4' := (HO4.grown hg5 (fun k hk => by have := hlt2 k hk; omega)); have HR5 := HR4'.shape; clear HR4)
    | (at_builtin; refine appb_src (w0 := w) w.heap.size rfl _ _ 22 rfl Tryz.underlying22 infoB _ (Rv.numB l.number ++ Rv.numB l.bytes) l.sl.bytes A4 c4 (by rfl) (by rfl) HO5 (by obtain ⟨A', c', he, _, _, h⟩ := HR5; cases he; exact h) HB5 HB5.size (by simp; omega) HNC4.out ?_; intro v6 w6 HO6 HB6 hg6 _))
  go_ret2
  exact ⟨_, rfl, by rw [HE.out]; exact HO6, HB6⟩
end Go.Proofs.YtcmndglhileeoaaGreat

/- The walks of package policy: Header. -/
set_option linter.unusedSimpArgs false
set_option linter.unusedVariables false
namespace Go.Proofs.YtcmndglhileeoaaGreat
open Go.RowKit
open Rv (HP Sat Same pt allOf sat_all RdIn row own)

theorem info_pol : (Tryz.prog.info? 33).map (·.size) = some 10 := by kernel_rfl

set_option maxHeartbeats 1000000 in
set_option maxRecDepth 100000 in
theorem header_bad (p : Rv.Pol) (w : World) (h : p.ok = false) :
    Calls Tryz.prog 33 #[.agg (polCells p)] w fun e w' => e = .returned (.tuple #[.slice none 0 0, .int .i64 40]) ∧ Below w.heap.size w w' := by
  have HB := Lib.hid (fun o => (Below.refl w.heap.size w).alloc (Nat.le_refl _) o)
  have HR := Lib.hid (right_40 h)
  clear h
  go_enter Tryz.func33, Tryz.ntmps33
  go_wp2_with (refine wpList_load_row (o := ⟨some 16, _, _, _, _, _⟩) rfl 33 (.tmp 1) rfl w.heap.size (by rfl) 33 (polCells p) (0, 0) _ (heap_alloc_new w _) Tryz.underlying33 (by rfl) info_pol ?_)
  refine (pright_any p _).mono ?_
  rintro e w1 ⟨rfl, b1⟩
  rw [HR.out]
  have B1 := Lib.hid (below_then (HB.out _) (by simp) b1)
  clear b1
  go_wp2_with fail
  go_ret2
  exact ⟨rfl, B1.out⟩
theorem kind_ok {p : Rv.Pol} (h : p.ok = true) : p.kind = 1 ∨ p.kind = 2 := by
  unfold Rv.Pol.ok at h
  by_cases h1 : p.kind = 1
  · exact .inl h1
  · by_cases h2 : p.kind = 2
    · exact .inr h2
    · rw [decide_eq_false h1, decide_eq_false h2] at h; simp at h
/-- The header's bytes behind k fields. -/
def hdrK (p : Rv.Pol) (k : Nat) : List UInt8 := [82, 69, 69, 76] ++ ((p.fields.take k).map fun f => Rv.numB f.1).flatten
theorem hdr_succ {p : Rv.Pol} (h : p.kind = 1 ∨ p.kind = 2) {k off : Nat} {lo hi : Int} (ht : (tabOf p.kind)[k]? = some (off, lo, hi)) : hdrK p (k + 1) = hdrK p k ++ Rv.numB (fld p off) := by
  unfold hdrK
  have : p.fields[k]? = some (fld p off, lo, hi) := by rw [fields_map p h, List.getElem?_map, ht]; rfl
  obtain ⟨hk, he⟩ := List.getElem?_eq_some_iff.1 this
  rw [List.take_succ_eq_append_getElem hk, he]
  simp
theorem hdr_len (p : Rv.Pol) (k : Nat) : (hdrK p k).length ≤ 4 + 9 * k := by
  unfold hdrK
  have : ∀ (l : List (Int × Int × Int)), ((l.map fun f => Rv.numB f.1).flatten).length ≤ 9 * l.length := by
    intro l
    induction l with
    | nil => simp
    | cons a r ih =>
      simp only [List.map_cons, List.flatten_cons, List.length_append, List.length_cons]
      have := Rv.numB_len a.1
      omega
  have h1 := this (p.fields.take k)
  have h2 : (p.fields.take k).length ≤ k := List.length_take_le _ _
  simp only [List.length_append, List.length_cons, List.length_nil]
  omega
theorem hdr_all (p : Rv.Pol) (h : p.kind = 1 ∨ p.kind = 2) : hdrK p 8 = p.body := by
  unfold hdrK Rv.Pol.body
  rw [List.take_of_length_le (by rw [fields_map p h, List.length_map, tab_len]; omega)]

theorem fld_bounds {p : Rv.Pol} (h : p.ok = true) {k off : Nat} {lo hi : Int} (ht : (tabOf p.kind)[k]? = some (off, lo, hi)) : 0 ≤ fld p off ∧ fld p off ≤ 1048576 := by
  have h1 : (p.fields.all fun f => Rv.inB f.1 f.2.1 f.2.2) = true := by
    unfold Rv.Pol.ok at h
    exact (Bool.and_eq_true_iff.1 h).2
  have h2 := (all_iff p (kind_ok h)).1 h1 k (by have := (List.getElem?_eq_some_iff.1 ht).1; rw [tab_len] at this; exact this) off lo hi ht
  have h3 : 0 ≤ lo ∧ hi ≤ 1048576 := by
    have h4 := List.mem_of_getElem? ht
    unfold tabOf at h4
    split at h4 <;> simp [tab1, tab2] at h4 <;> omega
  omega
theorem numB_pos {n : Int} (h0 : 0 ≤ n) (h1 : n ≤ 4611686018427387903) : 0 < (Rv.numB n).length := by
  unfold Rv.numB
  rw [mayN_yes h0 h1, if_pos rfl]
  rw [Rv.numN]
  split <;> simp
/-- What stands in the loop of Header. -/
def HdrMid (R : HP) (w wr : World) (p : Rv.Pol) (v : Value) (xs : List UInt8) : Prop := AppOk wr (pt w.heap.size (.cells (polCells p) 33) * R) v xs ∧ Same w wr
theorem HdrMid.begin {R : HP} {w w1 : World} {p : Rv.Pol} (h : Sat w1 (pt w.heap.size (.cells (polCells p) 33) * R)) (hs : Same w w1) :
    HdrMid R w (w1.alloc (.cells #[.int .u8 82, .int .u8 69, .int .u8 69, .int .u8 76] 5 (4, 5))) p (.slice (some ⟨w1.heap.size, 0, none⟩) 4 4) (hdrK p 0) := by
  refine ⟨.inr ⟨(h.alloc _).right, _, rfl, fun j c hj => ⟨_, rfl, ?_⟩⟩, Same.then hs (Same.of (Kept.alloc (Kept.refl (fun _ => False) _) _))⟩
  rw [add_zero_off, cells_of (heap_alloc_new w1 _)]
  have hl : j < 4 := (List.getElem?_eq_some_iff.1 hj).1
  have : j = 0 ∨ j = 1 ∨ j = 2 ∨ j = 3 := by omega
  rcases this with rfl | rfl | rfl | rfl <;> (cases hj; rfl)
def HeaderOk (R : HP) (w : World) (p : Rv.Pol) (e : Ending) (w' : World) : Prop :=
  ∃ B C, e = .returned (.tuple #[.slice B p.header.length C, .int .i64 0]) ∧ Sat w' (bytesP (.slice B p.header.length C) p.header * R) ∧ Same w w'

set_option maxHeartbeats 4000000 in
set_option maxRecDepth 100000 in
theorem header_ok (R : HP) (p : Rv.Pol) (w : World) (hR : Sat w R) (h : p.ok = true) : Calls Tryz.prog 33 #[.agg (polCells p)] w (HeaderOk R w p) := by
  have S0 := Lib.hid (hR.alloc (.cells (polCells p) 33))
  have HK := Lib.hid (kind_ok h)
  have Hok := Lib.hid h
  have HR := Lib.hid (right_0 h)
  clear h hR
  go_enter Tryz.func33, Tryz.ntmps33
  go_wp2_with (refine wpList_load_row (o := ⟨some 16, _, _, _, _, _⟩) rfl 33 (.tmp 1) rfl w.heap.size (by rfl) 33 (polCells p) (0, 0) _ (heap_alloc_new w _) Tryz.underlying33 (by rfl) info_pol ?_)
  refine (pright_any p _).mono ?_
  rintro e w1 ⟨rfl, b1⟩
  rw [HR.out]
  have M1 : Hid (Sat w1 (pt w.heap.size (.cells (polCells p) 33) * R) ∧ Same w w1) := Lib.hid ⟨S0.out.below b1, Same.then (Same.of (Kept.alloc (Kept.refl (fun _ => False) _) _)) (Rv.Same.below b1)⟩
  clear b1 S0
  have kc := fun (w : World) (C : Array Value) (n c : Nat) => Lib.run_convert_bytes_const (P := Tryz.prog) w 22 5 C n c Tryz.underlying22 Tryz.underlying5
  go_upto_region 5 with (fail)
  clear kc
  have M2 := Lib.hid (HdrMid.begin M1.out.1 M1.out.2)
  clear M1
  generalize w1.alloc (.cells #[.int .u8 82, .int .u8 69, .int .u8 69, .int .u8 76] 5 (4, 5)) = w2 at *
  generalize Value.slice (some ⟨w1.heap.size, 0, none⟩) 4 4 = v2 at *
  clear w1
  have hk0 : w2.cell? ⟨w.heap.size, 0, none⟩ = some (.int .i64 p.kind) := by rw [cells_of M2.out.1.base.heap]; rfl
  go_wp2_with fail
  refine (fields_tab w.heap.size _ p.kind HK.out hk0).mono ?_
  rintro e w3 ⟨F, HT, rfl, b1⟩
  clear hk0
  have HF := Lib.hid HT
  have hi : Hid ((Tryz.prog.info? 131).map (·.size) = some F.size) := Lib.hid (by rw [HT.size]; exact (zero_of_info zero131).2)
  have ho : Hid (zeros8.size = F.size) := Lib.hid (by rw [HT.size]; rfl)
  have h1c := Lib.hid HT.one
  clear HT
  have M3 : Hid (HdrMid R w w3 p v2 (hdrK p 0)) := Lib.hid ⟨M2.out.1.below b1, M2.out.2.then (Rv.Same.below b1)⟩
  clear b1 M2
  have hW : Hid (∀ (w9 : World), w9 = (w3.alloc (.cells zeros8 131)).setRow w3.heap.size F → HdrMid R w w9 p v2 (hdrK p 0) ∧ w9.heap[w3.heap.size]? = some (.cells F 131 (0, 0))) := Lib.hid (by
    rintro w9 rfl
    have b : Below w3.heap.size w3 ((w3.alloc (.cells zeros8 131)).setRow w3.heap.size F) := below_setRow ((Below.refl _ _).alloc (Nat.le_refl _) _) (Nat.le_refl _) F
    exact ⟨⟨M3.out.1.below b, M3.out.2.then (Rv.Same.below b)⟩, setRow_heap _ w3.heap.size _ F 131 (0, 0) (heap_alloc_new w3 _)⟩)
  go_upto_region 6 with (first
    | (refine wpList_alloc (o := ⟨some 6, .alloc _, _, _, _, _⟩) rfl 131 rfl (.agg zeros8) (zero_of_info zero131).1 ?_)
    | (refine wpList_store_row (o := ⟨none, .store _ _ _, _, _, _, _⟩) rfl 131 (.tmp 6) (.tmp 25) rfl w3.heap.size F (by rfl) (by rfl) 131 zeros8 (heap_alloc_new w3 _) hi.out ho.out h1c.out ?_; obtain ⟨w9, hw9⟩ : ∃ w9, w9 = (w3.alloc (.cells zeros8 131)).setRow w3.heap.size F := ⟨_, rfl⟩; have M9 := Lib.hid (hW.out w9 hw9); change wpList _ _ _ _ _ ((w3.alloc (.cells zeros8 131)).setRow w3.heap.size F); rw [← hw9]; clear hw9 hW M3; generalize w3.heap.size = gf at *; clear w3))
  have G9 := Lib.hid M9.out.2
  have M10 := Lib.hid M9.out.1
  clear M9 ho h1c
  go_wp2_with (refine wpList_load_row (o := ⟨some 27, _, _, _, _, _⟩) rfl 131 (.tmp 6) rfl gf (by rfl) 131 F (0, 0) _ G9.out Tryz.underlying131 (by rfl) hi.out ?_)
  clear G9 hi
  go_loopw [5, 28] (fun v i wr => ∃ k : Nat, k ≤ 8 ∧ i = .int .i64 k ∧ HdrMid R w wr p v (hdrK p k)) (fun _ i _ => 8 - (intOf i).toNat)
  case atStart => exact ⟨0, by omega, rfl, M10.out⟩
  case round =>
    obtain ⟨k, hk, rfl, hm⟩ := hrel
    have Hm := Lib.hid hm
    clear hm M10
    by_cases hlt : k < 8
    · obtain ⟨⟨off, lo, hi⟩, ht⟩ := some_at (xs := tabOf p.kind) (i := k) (by rw [tab_len]; exact hlt)
      have hidx := HF.out.at_ k off lo hi ht
      have Ht := Lib.hid ht
      have hoff := tab_off ht
      clear ht
      have hsz : w.heap.size < wr.heap.size := Hm.out.1.base.lt
      go_upto_region 9 with (fail)
      obtain ⟨hv0, hv1⟩ := fld_bounds Hok.out Ht.out
      obtain ⟨wb, hwb⟩ : ∃ wb, wb = wr.alloc (.cells #[fp w.heap.size off, .int .i64 lo, .int .i64 hi] 130) := ⟨_, rfl⟩
      have Hm2 : Hid (HdrMid R w wb p u5 (hdrK p k)) := Lib.hid (by rw [hwb]; exact ⟨Hm.out.1.below ((Below.refl _ _).alloc (Nat.le_refl _) _), Hm.out.2.then (Same.of (Kept.alloc (Kept.refl (fun _ => False) _) _))⟩)
      have hc2 : wb.cell? ⟨w.heap.size, off, none⟩ = some (.int .i64 (fld p off)) := by rw [cells_of Hm2.out.1.base.heap]; exact cell_fld p off hoff
      have hc3 : wb.cell? ⟨wr.heap.size, 0, none⟩ = some (.pointer (some ⟨w.heap.size, off, none⟩)) := by rw [hwb]; rw [cells_of (heap_alloc_new wr _)]; rfl
      change Code.wp _ _ _ _ (wr.alloc (.cells #[fp w.heap.size off, .int .i64 lo, .int .i64 hi] 130))
      rw [← hwb]
      clear hidx Hm hwb
      go_wp2_with fail
      refine (number_yes (fld p off) wb hv0 (by omega)).mono ?_
      rintro e w4 ⟨v4, rfl, o4, b4⟩
      have Hm4 : Hid (AppOk w4 (bytesP v4 (Rv.numB (fld p off)) * (pt w.heap.size (.cells (polCells p) 33) * R)) u5 (hdrK p k)) := Lib.hid (Hm2.out.1.add b4 (fun R' hR' => bytesP_new hR' o4 b4))
      have Hs4 : Hid (Same w w4) := Lib.hid (Hm2.out.2.then (Rv.Same.below b4))
      have Hr4 := Lib.hid o4.shape
      have Hl4 := Lib.hid (numB_pos hv0 (show fld p off ≤ 4611686018427387903 by omega))
      have hl5 := hdr_len p k
      have hl6 := Rv.numB_len (fld p off)
      obtain ⟨A4, c4, rfl, -, -, hr4⟩ := Hr4.out
      have HR4 := Lib.hid hr4
      clear Hm2 hc2 hc3 o4 b4 Hr4 hr4
      go_wp2_with (at_builtin; refine sapp_ok rfl (.tmp 39) (.tmp 40) 22 rfl Tryz.underlying22 infoB u5 (hdrK p k) (Rv.numB (fld p off)) A4 _ c4 (by rfl) (by rfl) rfl Hl4.out Hm4.out HR4.out (hdrK p (k + 1)).length (by rw [hdr_succ HK.out Ht.out, List.length_append]) (by rw [hdr_succ HK.out Ht.out, List.length_append]; omega) ?_; intro B5 c5 w5 h5 s5; rw [← hdr_succ HK.out Ht.out] at h5; have H5 := Lib.hid h5; have S5 := Lib.hid s5; clear h5 s5)
      go_roundw
      case rel => exact ⟨k + 1, by omega, by go_num, .inl (H5.out.perm (show bytesP _ _ * (bytesP (.slice A4 _ c4) _ * _) = bytesP (.slice A4 _ c4) _ * (bytesP _ _ * _) by ac_rfl)).right, Hs4.out.then S5.out⟩
      case measure => simp [intOf]; omega
    · obtain rfl : k = 8 := by omega
      have Hm1 : Hid (HdrMid R w wr p u5 p.body) := Lib.hid (by rw [← hdr_all p HK.out]; exact Hm.out)
      have hl8 : p.body.length ≤ 76 := by rw [← hdr_all p HK.out]; exact hdr_len p 8
      clear Hm hlt
      obtain ⟨A5, c5, rfl, -, -, -⟩ := Hm1.out.1.shape
      go_wp2_with fail
      refine (start_any wr).mono ?_
      rintro e w4 ⟨rfl, b4⟩
      have Hm4 : Hid (HdrMid R w w4 p (.slice A5 p.body.length c5) p.body) := Lib.hid ⟨Hm1.out.1.below b4, Hm1.out.2.then (Rv.Same.below b4)⟩
      clear Hm1 b4
      obtain ⟨A', c', he, -, hr4, -⟩ := Hm4.out.1.shape
      injection he with he1 he2 he3
      subst he1; subst he3
      have HR4 := Lib.hid hr4
      clear hr4 he2
      go_wp2_with fail
      refine (add_any Rv.Seal.start A5 p.body c5 w4 HR4.out (by omega) (by rfl)).mono ?_
      rintro e w5 ⟨rfl, b5⟩
      have Hm5 : Hid (HdrMid R w w5 p (.slice A5 p.body.length c5) p.body) := Lib.hid ⟨Hm4.out.1.below b5, Hm4.out.2.then (Rv.Same.below b5)⟩
      clear Hm4 b5 HR4
      obtain ⟨sl, hsl⟩ : ∃ s, s = Rv.Seal.start.adds p.body := ⟨_, rfl⟩
      rw [← hsl]
      have Hsr : Hid (sl.right = true) := Lib.hid (by rw [hsl]; exact adds_right (by rfl) _)
      have Hsl := Lib.hid hsl
      clear hsl
      have Hsb : Hid (0 < sl.bytes.length) := Lib.hid (by unfold Rv.Seal.bytes; rw [if_pos Hsr.out]; simp [Rv.b3])
      have hb6 := Rv.Seal.bytes_len sl
      go_wp2_with fail
      refine (bytes_any sl _ Hsr.out).mono ?_
      rintro e w6 ⟨v6, rfl, o6, b6⟩
      have Hh : Hid (p.header = p.body ++ sl.bytes) := Lib.hid (by unfold Rv.Pol.header; rw [if_pos Hok.out, Hsl.out])
      have b56 : Below w5.heap.size w5 w6 := below_then ((Below.refl _ _).alloc (Nat.le_refl _) _) (by simp) b6
      have o56 : OwnB w6 w5.heap.size v6 sl.bytes := o6.mono (by simp)
      have Hm6 : Hid (AppOk w6 (bytesP v6 sl.bytes * (pt w.heap.size (.cells (polCells p) 33) * R)) (.slice A5 p.body.length c5) p.body) := Lib.hid (Hm5.out.1.add b56 (fun R' hR' => bytesP_new hR' o56 b56))
      have Hs6 : Hid (Same w w6) := Lib.hid (Hm5.out.2.then (Rv.Same.below b56))
      obtain ⟨A6, c6, rfl, -, -, hr6⟩ := o56.shape
      have HR6 := Lib.hid hr6
      clear Hm5 o6 b6 b56 o56 hr6
      go_wp2_with (at_builtin; refine sapp_ok rfl (.tmp 54) (.tmp 55) 22 rfl Tryz.underlying22 infoB _ p.body sl.bytes A6 _ c6 (by rfl) (by rfl) rfl Hsb.out Hm6.out HR6.out p.header.length (by rw [Hh.out, List.length_append]) (by rw [Hh.out, List.length_append]; omega) ?_; intro B7 c7 w7 h7 s7; rw [← Hh.out] at h7; have H7 := Lib.hid h7; have S7 := Lib.hid s7; clear h7 s7)
      go_ret2
      exact ⟨B7, c7, rfl, H7.out.drop2.drop2, Hs6.out.then S7.out⟩
end Go.Proofs.YtcmndglhileeoaaGreat

/- The walks of package bucket: Decay, Take, of a policy that may be. -/
set_option linter.unusedSimpArgs false
set_option linter.unusedVariables false
namespace Go.Proofs.YtcmndglhileeoaaGreat
open Go.RowKit
open Rv (HP Sat Same pt allOf sat_all RdIn row own)

theorem clipfn_any (n most : Int) (g : Nat) (w : World) (h : w.cell? ⟨g, 0, none⟩ = some (.int .i64 most)) :
    Calls Tryz.prog 210 #[.int .i64 n, .pointer (some ⟨g, 0, none⟩)] w fun e w' => e = .returned (.int .i64 (Rv.clipN most n)) ∧ w = w' := by
  go_enter Tryz.func210, Tryz.ntmps210
  go_wp2
  all_goals
    go_ret
    exact ⟨ret_int (by unfold Rv.clipN; omega), rfl⟩

abbrev clipV (g : Nat) : Value := .func (.func 210) #[] #[.pointer (some ⟨g, 0, none⟩)]
theorem clip_any (most : Int) (w : World) :
    Calls Tryz.prog 208 #[.int .i64 most] w fun e w' => e = .returned (clipV w.heap.size) ∧ w' = w.alloc (.cells #[.int .i64 most] 3) := by
  go_enter Tryz.func208, Tryz.ntmps208
  go_wp2
  go_ret
  exact ⟨rfl, rfl⟩

theorem bmay_any (n : Int) (b : Bool) (hb : Rv.costOk n = b) (w : World) : Calls Tryz.prog 209 #[.int .i64 n] w fun e w' => e = .returned (.bool b) ∧ w = w' := by
  subst hb
  unfold Rv.costOk Rv.inB
  by_cases h0 : 1 ≤ n
  · have d0 : decide (1 ≤ n) = true := by simpa using h0
    by_cases h1 : n ≤ 1048576
    · have d1 : decide (n ≤ 1048576) = true := by simpa using h1
      rw [d0, d1]
      go_enter Tryz.func209, Tryz.ntmps209
      go_wp2
      go_ret
      exact ⟨rfl, rfl⟩
    · have d1 : decide (n ≤ 1048576) = false := by simpa using h1
      rw [d0, d1]
      go_enter Tryz.func209, Tryz.ntmps209
      go_wp2
      go_ret
      exact ⟨rfl, rfl⟩
  · have d0 : decide (1 ≤ n) = false := by simpa using h0
    rw [d0]
    go_enter Tryz.func209, Tryz.ntmps209
    go_wp2
    go_ret
    exact ⟨rfl, rfl⟩

set_option maxHeartbeats 1000000 in
set_option maxRecDepth 100000 in
theorem bmeans_yes (p : Rv.Pol) (w : World) (h : p.ok = true) (hk : p.kind = 1) :
    Calls Tryz.prog 207 #[.agg (polCells p)] w fun e w' => e = .returned (.bool true) ∧ Below w.heap.size w w' := by
  have HB := Lib.hid (fun o => (Below.refl w.heap.size w).alloc (Nat.le_refl _) o)
  have HR := Lib.hid (right_0 h)
  have hk1 : (p.kind == 1) = true := by rw [hk]; rfl
  clear h hk
  go_enter Tryz.func207, Tryz.ntmps207
  go_wp2_with ((with_reducible refine at_slot 7 ?_); refine wpList_load_row rfl 33 (.tmp 1) rfl w.heap.size (by rfl) 33 (polCells p) (0, 0) _ (heap_alloc_new w _) Tryz.underlying33 (by rfl) info_pol ?_)
  refine (pright_any p _).mono ?_
  rintro e w1 ⟨rfl, b1⟩
  rw [HR.out]
  have B1 := Lib.hid (below_then (HB.out _) (by simp) b1)
  clear b1
  go_wp2_with fail
  go_ret
  exact ⟨rfl, B1.out⟩

theorem clipN_bd (most n : Int) (h : 0 ≤ most) : 0 ≤ Rv.clipN most n ∧ Rv.clipN most n ≤ most := by unfold Rv.clipN; omega
theorem num_ok {p : Rv.Pol} (h : p.ok = true) (hk : p.kind = 1) : 1 ≤ p.num ∧ p.num ≤ 65536 ∧ 1 ≤ p.den ∧ p.den ≤ 65536 := by
  have h1 : (p.fields.all fun f => Rv.inB f.1 f.2.1 f.2.2) = true := by
    unfold Rv.Pol.ok at h
    exact (Bool.and_eq_true_iff.1 h).2
  have h0 := (all_iff p (kind_ok h)).1 h1
  have h2 := h0 2 (by omega) 2 1 65536 (by unfold tabOf; rw [if_pos hk]; rfl)
  have h3 := h0 3 (by omega) 3 1 65536 (by unfold tabOf; rw [if_pos hk]; rfl)
  exact ⟨h2.1, h2.2, h3.1, h3.2⟩
theorem mul_bd {a b A B : Int} (h0 : 0 ≤ a) (h1 : a ≤ A) (h2 : 0 ≤ b) (h3 : b ≤ B) : 0 ≤ a * b ∧ a * b ≤ A * B :=
  ⟨Int.mul_nonneg h0 h2, Int.mul_le_mul h1 h3 h2 (Int.le_trans h0 h1)⟩

set_option maxHeartbeats 2000000 in
set_option maxRecDepth 100000 in
theorem decay_any (p : Rv.Pol) (owed ticks : Int) (w : World) (h : p.ok = true) (hk : p.kind = 1) :
    Calls Tryz.prog 205 #[.agg (polCells p), .int .i64 owed, .int .i64 ticks] w fun e w' => e = .returned (.int .i64 (Rv.decay p owed ticks)) ∧ Below w.heap.size w w' := by
  have HB := Lib.hid (fun o => (Below.refl w.heap.size w).alloc (Nat.le_refl _) o)
  have Hok := Lib.hid h
  have Hk := Lib.hid hk
  obtain ⟨q1, q2, -, -⟩ := num_ok h hk
  obtain ⟨a, ha⟩ : ∃ a, Rv.clipN 4611686018427387903 owed = a := ⟨_, rfl⟩
  obtain ⟨t, ht⟩ : ∃ t, Rv.clipN 1099511627776 ticks = t := ⟨_, rfl⟩
  have hab := clipN_bd 4611686018427387903 owed (by omega)
  have htb := clipN_bd 1099511627776 ticks (by omega)
  rw [ha] at hab
  rw [ht] at htb
  obtain ⟨x, hx⟩ : ∃ x, x = t * p.num := ⟨_, rfl⟩
  have hxb := mul_bd htb.1 htb.2 (show 0 ≤ p.num by omega) q2
  rw [← hx] at hxb
  have hw1 : IntKind.i64.wrap (t * p.num) = x := by rw [hx]; exact IntWalk.i64_in _ (by rw [← hx]; omega)
  have hw2 : IntKind.i64.wrap (a - x) = a - x := IntWalk.i64_in _ (by omega)
  have HX : Hid (Rv.decay p owed ticks = Rv.clipN 4611686018427387903 (a - x)) := Lib.hid (by unfold Rv.decay Rv.maxNumber; rw [ha, ht, hx])
  have HA : Hid (∀ g w, w.cell? ⟨g, 0, none⟩ = some (.int .i64 4611686018427387903) → Calls Tryz.prog 210 #[.int .i64 owed, .pointer (some ⟨g, 0, none⟩)] w fun e w' => e = .returned (.int .i64 a) ∧ w = w') := Lib.hid (fun g w h => by rw [← ha]; exact clipfn_any owed _ g w h)
  have HT : Hid (∀ g w, w.cell? ⟨g, 0, none⟩ = some (.int .i64 1099511627776) → Calls Tryz.prog 210 #[.int .i64 ticks, .pointer (some ⟨g, 0, none⟩)] w fun e w' => e = .returned (.int .i64 t) ∧ w = w') := Lib.hid (fun g w h => by rw [← ht]; exact clipfn_any ticks _ g w h)
  clear h hk ha ht hx
  go_enter Tryz.func205, Tryz.ntmps205
  go_wp2_with ((with_reducible refine at_slot 9 ?_); refine wpList_load_row rfl 33 (.tmp 3) rfl w.heap.size (by rfl) 33 (polCells p) (0, 0) _ (heap_alloc_new w _) Tryz.underlying33 (by rfl) info_pol ?_)
  refine (bmeans_yes p _ Hok.out Hk.out).mono ?_
  rintro e w1 ⟨rfl, b1⟩
  have B1 := Lib.hid (below_then (HB.out _) (by simp) b1)
  have d2 : w1.cell? ⟨w.heap.size, 2, none⟩ = some (.int .i64 p.num) := by rw [cells_of ((b1.block w.heap.size (by simp)).trans (heap_alloc_new w _))]; rfl
  have hlt : w.heap.size < w1.heap.size := by have := b1.size; simp at this; omega
  clear b1
  go_wp2_with fail
  refine (clip_any _ w1).mono ?_
  rintro e w2 ⟨rfl, rfl⟩
  go_wp2_with fail
  refine (clip_any _ _).mono ?_
  rintro e w2 ⟨rfl, rfl⟩
  go_upto_region 4 with (fail)
  obtain ⟨w2, hw2⟩ : ∃ w2, w2 = (w1.alloc (.cells #[.int .i64 4611686018427387903] 3)).alloc (.cells #[.int .i64 1099511627776] 3) := ⟨_, rfl⟩
  have k1 : w2.cell? ⟨w1.heap.size, 0, none⟩ = some (.int .i64 4611686018427387903) := by rw [hw2]; go_simp
  have k2 : w2.cell? ⟨w1.heap.size + 1, 0, none⟩ = some (.int .i64 1099511627776) := by rw [hw2]; go_simp
  have k3 : w2.cell? ⟨w.heap.size, 2, none⟩ = some (.int .i64 p.num) := by rw [hw2, World.cell?_alloc_lt _ _ _ (by simp; omega), World.cell?_alloc_lt _ _ _ hlt]; exact d2
  have B2 : Hid (Below w.heap.size w w2) := Lib.hid (by rw [hw2]; exact (B1.out.alloc B1.out.size _).alloc (by have := B1.out.size; simp; omega) _)
  rw [← hw2]
  clear hw2 d2 hlt B1 HB
  generalize w1.heap.size + 1 = g2 at *
  generalize w1.heap.size = g1 at *
  clear w1
  go_region_held3 (fun w' => w'.cell? ⟨w.heap.size, 2, none⟩ = some (.int .i64 p.num)) (first | exact k3 | go_keep)
    (first
      | (go_at_call 210; refine (HA.out g1 w2.drew k1).mono ?_; rintro e w' ⟨rfl, rfl⟩)
      | (go_at_call 210; refine (HT.out g2 w2.drew k2).mono ?_; rintro e w' ⟨rfl, rfl⟩)
      | (go_at_call 210; refine (clipfn_any (a - x) _ g1 w2.drew k1).mono ?_; rintro e w' ⟨rfl, rfl⟩))
  all_goals
    go_wp2_with fail
    go_ret
    exact ⟨ret_int (by rw [HX.out]), B2.out.drew⟩

set_option maxHeartbeats 2000000 in
set_option maxRecDepth 100000 in
theorem btake_any (p : Rv.Pol) (owed cost : Int) (w : World) (h : p.ok = true) (hk : p.kind = 1) (hc : Rv.costOk cost = true) :
    Calls Tryz.prog 206 #[.agg (polCells p), .int .i64 owed, .int .i64 cost] w fun e w' => e = .returned (.int .i64 (Rv.takeB p owed cost)) ∧ Below w.heap.size w w' := by
  have HB := Lib.hid (fun o => (Below.refl w.heap.size w).alloc (Nat.le_refl _) o)
  have Hok := Lib.hid h
  have Hk := Lib.hid hk
  have Hc := Lib.hid hc
  obtain ⟨-, -, q1, q2⟩ := num_ok h hk
  have hcb : 1 ≤ cost ∧ cost ≤ 1048576 := by simpa [Rv.costOk, Rv.inB] using hc
  obtain ⟨a, ha⟩ : ∃ a, Rv.clipN 4611686018427387903 owed = a := ⟨_, rfl⟩
  have hab := clipN_bd 4611686018427387903 owed (by omega)
  rw [ha] at hab
  obtain ⟨x, hx⟩ : ∃ x, x = cost * p.den := ⟨_, rfl⟩
  have hxb := mul_bd (show 0 ≤ cost by omega) hcb.2 (show 0 ≤ p.den by omega) q2
  rw [← hx] at hxb
  have hw1 : IntKind.i64.wrap (cost * p.den) = x := by rw [hx]; exact IntWalk.i64_in _ (by rw [← hx]; omega)
  have hw2 : IntKind.i64.wrap (a + x) = a + x := IntWalk.i64_in _ (by omega)
  have HX : Hid (Rv.takeB p owed cost = Rv.clipN 4611686018427387903 (a + x)) := Lib.hid (by unfold Rv.takeB Rv.maxNumber; rw [ha, hx])
  have HA : Hid (∀ g w, w.cell? ⟨g, 0, none⟩ = some (.int .i64 4611686018427387903) → Calls Tryz.prog 210 #[.int .i64 owed, .pointer (some ⟨g, 0, none⟩)] w fun e w' => e = .returned (.int .i64 a) ∧ w = w') := Lib.hid (fun g w h => by rw [← ha]; exact clipfn_any owed _ g w h)
  clear h hk ha hx hc
  go_enter Tryz.func206, Tryz.ntmps206
  go_wp2_with fail
  refine (clip_any _ _).mono ?_
  rintro e w2 ⟨rfl, rfl⟩
  obtain ⟨w2, hw2⟩ : ∃ w2, w2 = (w.alloc (.cells (polCells p) 33)).alloc (.cells #[.int .i64 4611686018427387903] 3) := ⟨_, rfl⟩
  have hq : Hid (w2.heap[w.heap.size]? = some (.cells (polCells p) 33 (0, 0))) := Lib.hid (by rw [hw2, Below.heap_alloc _ _ _ (by simp)]; exact heap_alloc_new w _)
  have hq2 : Hid (w2.heap[w.heap.size + 1]? = some (.cells #[.int .i64 4611686018427387903] 3 (0, 0))) := Lib.hid (by
    rw [hw2]
    have := heap_alloc_new (w.alloc (.cells (polCells p) 33)) (.cells #[Value.int .i64 4611686018427387903] 3)
    rw [World.size_alloc] at this
    exact this)
  have B2 : Hid (Below w.heap.size w w2) := Lib.hid (by rw [hw2]; exact (HB.out _).alloc (by simp) _)
  rw [← hw2, World.size_alloc]
  clear hw2 HB
  go_wp2_with ((with_reducible refine at_slot 10 ?_); refine wpList_load_row rfl 33 (.tmp 3) rfl w.heap.size (by rfl) 33 (polCells p) (0, 0) _ hq.out Tryz.underlying33 (by rfl) info_pol ?_)
  refine (bmeans_yes p _ Hok.out Hk.out).mono ?_
  rintro e w3 ⟨rfl, b3⟩
  have k1 : w3.cell? ⟨w.heap.size + 1, 0, none⟩ = some (.int .i64 4611686018427387903) := by rw [cells_of ((b3.block _ (Array.getElem?_eq_some_iff.1 hq2.out).1).trans hq2.out)]; rfl
  have k3 : w3.cell? ⟨w.heap.size, 3, none⟩ = some (.int .i64 p.den) := by rw [cells_of ((b3.block _ (Array.getElem?_eq_some_iff.1 hq.out).1).trans hq.out)]; rfl
  have B3 := Lib.hid (below_then B2.out B2.out.size b3)
  clear b3 B2 hq hq2
  go_wp2_with fail
  refine (bmay_any cost true Hc.out w3).mono ?_
  rintro e w' ⟨rfl, rfl⟩
  go_upto_region 6 with (fail)
  go_region_held3 (fun w' => w'.cell? ⟨w.heap.size, 3, none⟩ = some (.int .i64 p.den)) (first | exact k3 | go_keep)
    (first
      | (go_at_call 210; refine (HA.out (w.heap.size + 1) w3.drew k1).mono ?_; rintro e w' ⟨rfl, rfl⟩)
      | (go_at_call 210; refine (clipfn_any (a + x) _ (w.heap.size + 1) w3.drew k1).mono ?_; rintro e w' ⟨rfl, rfl⟩))
  all_goals
    go_wp2_with fail
    go_ret
    exact ⟨ret_int (by rw [HX.out]), B3.out.drew⟩
end Go.Proofs.YtcmndglhileeoaaGreat

/- The walks of package window: Grid, Fresh, counts, of a policy that may be and a window as it should be. -/
set_option linter.unusedSimpArgs false
set_option linter.unusedVariables false
namespace Go.Proofs.YtcmndglhileeoaaGreat
open Go.RowKit
open Rv (HP Sat Same pt allOf sat_all RdIn row own)

abbrev intI (n : Int) : Value := .int .i64 n
theorem wclip_any (n : Int) (w : World) :
    Calls Tryz.prog 173 #[.int .i64 n] w fun e w' => e = .returned (.int .i64 (Rv.clipN 1099511627776 n)) ∧ w = w' := by
  go_enter Tryz.func173, Tryz.ntmps173
  go_wp2
  all_goals
    go_ret
    exact ⟨ret_int (by unfold Rv.clipN; omega), rfl⟩

theorem wmay_yes (n : Int) (hb : Rv.costOk n = true) (w : World) : Calls Tryz.prog 218 #[.int .i64 n] w fun e w' => e = .returned (.bool true) ∧ w = w' := by
  have h : 1 ≤ n ∧ n ≤ 1048576 := by simpa [Rv.costOk, Rv.inB] using hb
  have d0 : decide (1 ≤ n) = true := by simpa using h.1
  have d1 : decide (n ≤ 1048576) = true := by simpa using h.2
  clear hb h
  go_enter Tryz.func218, Tryz.ntmps218
  go_wp2
  go_ret
  exact ⟨rfl, rfl⟩

set_option maxHeartbeats 1000000 in
set_option maxRecDepth 100000 in
theorem wmeans_yes (p : Rv.Pol) (w : World) (h : p.ok = true) (hk : p.kind = 2) :
    Calls Tryz.prog 160 #[.agg (polCells p)] w fun e w' => e = .returned (.bool true) ∧ Below w.heap.size w w' := by
  have HB := Lib.hid (fun o => (Below.refl w.heap.size w).alloc (Nat.le_refl _) o)
  have HR := Lib.hid (right_0 h)
  have hk1 : (p.kind == 2) = true := by rw [hk]; rfl
  clear h hk
  go_enter Tryz.func160, Tryz.ntmps160
  go_wp2_with ((with_reducible refine at_slot 7 ?_); refine wpList_load_row rfl 33 (.tmp 1) rfl w.heap.size (by rfl) 33 (polCells p) (0, 0) _ (heap_alloc_new w _) Tryz.underlying33 (by rfl) info_pol ?_)
  refine (pright_any p _).mono ?_
  rintro e w1 ⟨rfl, b1⟩
  rw [HR.out]
  have B1 := Lib.hid (below_then (HB.out _) (by simp) b1)
  clear b1
  go_wp2_with fail
  go_ret
  exact ⟨rfl, B1.out⟩

theorem width_ok {p : Rv.Pol} (h : p.ok = true) (hk : p.kind = 2) : 1 ≤ p.width ∧ p.width ≤ 1048576 ∧ 1 ≤ p.count ∧ p.count ≤ 32 := by
  have h1 : (p.fields.all fun f => Rv.inB f.1 f.2.1 f.2.2) = true := by
    unfold Rv.Pol.ok at h
    exact (Bool.and_eq_true_iff.1 h).2
  have h0 := (all_iff p (kind_ok h)).1 h1
  have h2 := h0 2 (by omega) 4 1 1048576 (by unfold tabOf; rw [if_neg (by omega)]; rfl)
  have h3 := h0 3 (by omega) 5 1 32 (by unfold tabOf; rw [if_neg (by omega)]; rfl)
  exact ⟨h2.1, h2.2, h3.1, h3.2⟩

set_option maxHeartbeats 2000000 in
set_option maxRecDepth 100000 in
theorem grid_any (p : Rv.Pol) (tick : Int) (w : World) (h : p.ok = true) (hk : p.kind = 2) :
    Calls Tryz.prog 161 #[.agg (polCells p), .int .i64 tick] w fun e w' => e = .returned (.int .i64 (Rv.gridOf p tick)) ∧ Below w.heap.size w w' := by
  have HB := Lib.hid (fun o => (Below.refl w.heap.size w).alloc (Nat.le_refl _) o)
  have Hok := Lib.hid h
  have Hk := Lib.hid hk
  obtain ⟨q1, q2, -, -⟩ := width_ok h hk
  obtain ⟨t, ht⟩ : ∃ t, Rv.clipN 1099511627776 tick = t := ⟨_, rfl⟩
  have htb := clipN_bd 1099511627776 tick (by omega)
  rw [ht] at htb
  have HX : Hid (Rv.gridOf p tick = t / p.width) := Lib.hid (by unfold Rv.gridOf; rw [ht])
  have HT : Hid (∀ w, Calls Tryz.prog 173 #[.int .i64 tick] w fun e w' => e = .returned (.int .i64 t) ∧ w = w') := Lib.hid (fun w => by rw [← ht]; exact wclip_any tick w)
  have hz : ¬ p.width = 0 := by omega
  have hz2 : (p.width == 0) = false := beq_eq_false_iff_ne.2 hz
  clear h hk ht
  go_enter Tryz.func161, Tryz.ntmps161
  go_wp2_with ((with_reducible refine at_slot 5 ?_); refine wpList_load_row rfl 33 (.tmp 2) rfl w.heap.size (by rfl) 33 (polCells p) (0, 0) _ (heap_alloc_new w _) Tryz.underlying33 (by rfl) info_pol ?_)
  refine (wmeans_yes p _ Hok.out Hk.out).mono ?_
  rintro e w1 ⟨rfl, b1⟩
  have B1 := Lib.hid (below_then (HB.out _) (by simp) b1)
  have d2 : w1.cell? ⟨w.heap.size, 4, none⟩ = some (.int .i64 p.width) := by rw [cells_of ((b1.block w.heap.size (by simp)).trans (heap_alloc_new w _))]; rfl
  clear b1
  go_upto_region 3 with (fail)
  go_region_held3 (fun w' => w'.cell? ⟨w.heap.size, 4, none⟩ = some (.int .i64 p.width)) (first | exact d2 | go_keep)
    (first
      | (go_at_call 173; refine (HT.out w1.drew).mono ?_; rintro e w' ⟨rfl, rfl⟩))
  all_goals
    go_wp2_with fail
    go_ret
    exact ⟨ret_int (by
      have e1 : t.tdiv p.width = t / p.width := Int.tdiv_eq_ediv_of_nonneg htb.1
      have e2 : 0 ≤ t / p.width := Int.ediv_nonneg htb.1 (by omega)
      have e3 : t / p.width ≤ t := Int.ediv_le_self _ htb.1
      show IntKind.i64.wrap (t.tdiv p.width) = _
      rw [HX.out, e1]; exact IntWalk.i64_in _ (by omega)), B1.out.drew⟩

def intZeros (n : Nat) : Array Value := madeCells (Value.int .i64 0).cells n
theorem intZeros_list (n : Nat) : (intZeros n).toList = (List.replicate n (0 : Int)).map intI := by
  unfold intZeros madeCells
  have : ∀ k : Nat, (Value.int .i64 0).cells[k % (Value.int .i64 0).cells.size]! = Value.int .i64 0 := by
    intro k
    have h : (Value.int .i64 0).cells.size = 1 := rfl
    rw [h, Nat.mod_one]
    rfl
  simp only [this]
  apply List.ext_getElem?
  intro i
  simp only [Array.toList_map, Array.toList_range, List.getElem?_map, List.getElem?_range', List.getElem?_replicate]
  by_cases hi : i < n
  · simp [hi]
  · simp [hi]
theorem info_int : (Tryz.prog.info? 3).map (fun i => (i.zero, i.size, i.bytes)) = some (some (.int .i64 0), 1, 8) := by kernel_rfl
theorem make_ints (w : World) (n : Nat) (h : n ≤ 64) : (Instr.makeSlice 39 (.int .i64 (n : Int)) (.int .i64 (n : Int))).run Tryz.prog w = .ok (.slice (some ⟨w.heap.size, 0, none⟩) n n) (w.alloc (.cells (intZeros n) 3)) := by
  obtain ⟨i0, hi, hz0, hz1, hz2⟩ := info_parts' info_int
  have := run_makeSlice (P := Tryz.prog) (w := w) 39 3 i0 (.int .i64 0) Tryz.underlying39 hi hz0 .i64 .i64 (n : Int) (n : Int) (by omega) (by omega) (by rw [hz1]; omega) (by rw [hz2]; omega) (by omega)
  rw [this, hz1]
  simp [intZeros]

theorem pol_cells {w : World} {g : Nat} {p : Rv.Pol} {m : Nat × Nat} (q : w.heap[g]? = some (.cells (polCells p) 33 m)) : w.cell? ⟨g, 0, none⟩ = some (.int .i64 p.kind) ∧ w.cell? ⟨g, 1, none⟩ = some (.int .i64 p.cap) ∧ w.cell? ⟨g, 2, none⟩ = some (.int .i64 p.num) ∧ w.cell? ⟨g, 3, none⟩ = some (.int .i64 p.den) ∧ w.cell? ⟨g, 4, none⟩ = some (.int .i64 p.width) ∧ w.cell? ⟨g, 5, none⟩ = some (.int .i64 p.count) ∧ w.cell? ⟨g, 6, none⟩ = some (.int .i64 p.keys) ∧ w.cell? ⟨g, 7, none⟩ = some (.int .i64 p.slots) ∧ w.cell? ⟨g, 8, none⟩ = some (.int .i64 p.every) ∧ w.cell? ⟨g, 9, none⟩ = some (.int .i64 p.seg) := by
  refine ⟨?_, ?_, ?_, ?_, ?_, ?_, ?_, ?_, ?_, ?_⟩ <;> (rw [cells_of q]; rfl)
theorem sums_put {w : World} {g : Nat} {Q : HP} {a b x y : Value} {t : TypeId} (h : Sat w (pt g (.cells #[a, b] t) * Q)) : Sat ((w.setCell ⟨g, 0, none⟩ x).setCell ⟨g, 1, none⟩ y) (pt g (.cells #[x, y] t) * Q) := (h.setCell (i := 0) x).setCell (i := 1) y
theorem set_size (w : World) (a : Addr) (v : Value) : (w.setCell a v).heap.size = w.heap.size := by simp [World.setCell]
/-- A window's value. -/
abbrev sumsV (s : Rv.Sums) (B : Option Addr) (c : Nat) : Value := .agg #[.int .i64 s.grid, .slice B s.l.length c]
def intsP (v : Value) (l : List Int) : HP := row 3 v (l.map intI)

theorem ints_row {w : World} {g n : Nat} {R : HP} (h : Sat w (pt g (.cells (intZeros n) 3) * R)) (hn : n ≤ 64) : Sat w (intsP (.slice (some ⟨g, 0, none⟩) n n) (List.replicate n 0) * R) := by
  have := h.to_row (intZeros_list n) (by simp only [List.length_map, List.length_replicate, maxLen]; omega)
  simpa [intsP] using this
theorem info_sums : (Tryz.prog.info? 224).map (·.size) = some 2 := by kernel_rfl
theorem fresh_fin {w : World} {R : HP} {p : Rv.Pol} {tick : Int} {n : Nat} {g g4 : Nat} {Q : HP} (hn : (n : Int) = p.count) (hl : n ≤ 64) (h : Sat w (pt g (.cells (intZeros n) 3) * (pt g4 (.cells #[.int .i64 (Rv.gridOf p tick), .slice (some ⟨g, 0, none⟩) n n] 224) * (Q * R)))) :
    sumsV (Rv.freshW p tick) (some ⟨g, 0, none⟩) n = .agg #[.int .i64 (Rv.gridOf p tick), .slice (some ⟨g, 0, none⟩) n n] ∧
    Sat w (intsP (.slice (some ⟨g, 0, none⟩) (Rv.freshW p tick).l.length n) (Rv.freshW p tick).l * R) ∧ w.heap[g4]? = some (.cells #[.int .i64 (Rv.gridOf p tick), .slice (some ⟨g, 0, none⟩) n n] 224 (0, 0)) := by
  have e : Rv.freshW p tick = ⟨Rv.gridOf p tick, List.replicate n 0⟩ := by unfold Rv.freshW; rw [← hn]; rfl
  rw [e]
  simp only [List.length_replicate]
  exact ⟨by simp [sumsV], (ints_row h hl).drop2.drop2, h.right.heap⟩

set_option maxHeartbeats 2000000 in
set_option maxRecDepth 100000 in
theorem fresh_any (R : HP) (p : Rv.Pol) (tick : Int) (w : World) (hR : Sat w R) (h : p.ok = true) (hk : p.kind = 2) :
    Calls Tryz.prog 156 #[.agg (polCells p), .int .i64 tick] w fun e w' => ∃ B c, e = .returned (sumsV (Rv.freshW p tick) B c) ∧ Sat w' (intsP (.slice B (Rv.freshW p tick).l.length c) (Rv.freshW p tick).l * R) ∧ Same w w' := by
  have Hok := Lib.hid h
  have Hk := Lib.hid hk
  obtain ⟨-, -, q1, q2⟩ := width_ok h hk
  have S0 := Lib.hid ((hR.alloc (.cells (polCells p) 33)).alloc (.cells #[.int .i64 0, .slice none 0 0] 224))
  have Z0 : Hid (Same w ((w.alloc (.cells (polCells p) 33)).alloc (.cells #[.int .i64 0, .slice none 0 0] 224))) := Lib.hid (Same.of (((Kept.refl (fun _ => False) w).alloc _).alloc _))
  clear h hk hR
  go_enter Tryz.func156, Tryz.ntmps156
  go_upto_region 1 with (fail)
  obtain ⟨w0, hw0⟩ : ∃ w0, w0 = (w.alloc (.cells (polCells p) 33)).alloc (.cells #[.int .i64 0, .slice none 0 0] 224) := ⟨_, rfl⟩
  change Code.wp _ _ _ _ ((w.alloc (.cells (polCells p) 33)).alloc (.cells #[.int .i64 0, .slice none 0 0] 224))
  rw [← hw0] at S0 Z0 ⊢
  rw [World.size_alloc] at S0
  clear hw0
  have q0 := Lib.hid S0.out.right.heap
  go_wp2_with ((with_reducible refine at_slot 5 ?_); refine wpList_load_row rfl 33 (.tmp 2) rfl w.heap.size (by rfl) 33 (polCells p) (0, 0) _ q0.out Tryz.underlying33 (by rfl) info_pol ?_)
  refine (wmeans_yes p _ Hok.out Hk.out).mono ?_
  rintro e w1 ⟨rfl, b1⟩
  have S1 := Lib.hid (S0.out.below b1)
  have Z1 := Lib.hid (Z0.out.then (Rv.Same.below b1))
  clear b1 S0 Z0 q0
  generalize w.heap.size + 1 = g4 at *
  generalize w.heap.size = g2 at *
  go_upto_region 3 with (fail)
  obtain ⟨n, hn⟩ : ∃ n : Nat, (n : Int) = p.count := ⟨p.count.toNat, by omega⟩
  have Hn := Lib.hid hn
  have hmk := fun w => make_ints w n (by omega)
  rw [hn] at hmk
  clear hn
  have K0 := Lib.hid (pol_cells S1.out.right.heap)
  have S1a := Lib.hid ((S1.out.alloc (.cells (intZeros n) 3)).drew)
  have K0b := Lib.hid (pol_cells S1a.out.right.right.heap)
  go_region_held3 (fun w' => w'.cell? ⟨g2, 0, none⟩ = some (.int .i64 p.kind) ∧ w'.cell? ⟨g2, 1, none⟩ = some (.int .i64 p.cap) ∧ w'.cell? ⟨g2, 2, none⟩ = some (.int .i64 p.num) ∧ w'.cell? ⟨g2, 3, none⟩ = some (.int .i64 p.den) ∧ w'.cell? ⟨g2, 4, none⟩ = some (.int .i64 p.width) ∧ w'.cell? ⟨g2, 5, none⟩ = some (.int .i64 p.count) ∧ w'.cell? ⟨g2, 6, none⟩ = some (.int .i64 p.keys) ∧ w'.cell? ⟨g2, 7, none⟩ = some (.int .i64 p.slots) ∧ w'.cell? ⟨g2, 8, none⟩ = some (.int .i64 p.every) ∧ w'.cell? ⟨g2, 9, none⟩ = some (.int .i64 p.seg)) (first | exact K1.out | exact K0.out | exact K0b.out | exact KE.out | go_keep)
    (first
      | (go_at_call 161; refine (grid_any p tick w1.drew Hok.out Hk.out).mono ?_; rintro e w2 ⟨rfl, b2⟩; have S2 := Lib.hid (S1.out.drew.below b2); have Z2 := Lib.hid (Z1.out.drew.then (Rv.Same.below b2)); have K1 := Lib.hid (pol_cells S2.out.right.heap); have f0 : w2.cell? ⟨g4, 0, none⟩ = some (.int .i64 0) := (cells_of S2.out.heap 0).trans rfl; have f1 : w2.cell? ⟨g4, 1, none⟩ = some (.slice none 0 0) := (cells_of S2.out.heap 1).trans rfl; have f2 : ∀ i, w2.frozen? ⟨g4, i, none⟩ = false := frozen_of S2.out.heap; have f3 : g4 < w2.heap.size := S2.out.lt; have f4 : g2 < w2.heap.size := S2.out.right.lt; have SE := Lib.hid ((sums_put (x := .int .i64 (Rv.gridOf p tick)) (y := .slice (some ⟨w2.heap.size, 0, none⟩) n n) S2.out).alloc (.cells (intZeros n) 3)); rw [set_size, set_size] at SE; have KE := Lib.hid (pol_cells SE.out.right.right.heap); clear b2)
      | (go_at_call 161; refine (grid_any p tick (w1.alloc (.cells (intZeros n) 3)).drew Hok.out Hk.out).mono ?_; rintro e w2 ⟨rfl, b2⟩; have S2 := Lib.hid (S1a.out.below b2).swap; have Z2 := Lib.hid ((Z1.out.drew.then (Same.of (Kept.alloc (Kept.refl (fun _ => False) _) _))).then (Rv.Same.below b2)); have K1 := Lib.hid (pol_cells S2.out.right.right.heap); have f0 : w2.cell? ⟨g4, 0, none⟩ = some (.int .i64 0) := (cells_of S2.out.heap 0).trans rfl; have f1 : w2.cell? ⟨g4, 1, none⟩ = some (.slice none 0 0) := (cells_of S2.out.heap 1).trans rfl; have f2 : ∀ i, w2.frozen? ⟨g4, i, none⟩ = false := frozen_of S2.out.heap; have f3 : g4 < w2.heap.size := S2.out.lt; have f4 : g2 < w2.heap.size := S2.out.right.right.lt; have SE := Lib.hid (sums_put (x := .int .i64 (Rv.gridOf p tick)) (y := .slice (some ⟨w1.heap.size, 0, none⟩) n n) S2.out); have KE := Lib.hid (pol_cells SE.out.right.right.heap); clear b2))
  all_goals
    first
    | have HF := Lib.hid (fresh_fin Hn.out (by have := Hn.out; omega) SE.out)
    | have HF := Lib.hid (fresh_fin Hn.out (by have := Hn.out; omega) SE.out.swap)
  all_goals
    first
    | (have ZF : Hid (Same w (((w2.setCell ⟨g4, 0, none⟩ (.int .i64 (Rv.gridOf p tick))).setCell ⟨g4, 1, none⟩ (.slice (some ⟨w2.heap.size, 0, none⟩) n n)).alloc (.cells (intZeros n) 3))) := Lib.hid (Z2.out.then (Same.of (((Kept.refl (fun _ => True) w2).setCell _ _ (.inl trivial)).setCell _ _ (.inl trivial) |>.alloc _)))
       clear S1 Z1 K0 S1a K0b S2 Z2 K1 f0 f1 f2 f3 f4 SE KE
       go_wp2_with fail
       exact bodyPost_ret (results_cell_row Tryz.results156 _ _ g4 224 _ (0, 0) _ (by rfl) HF.out.2.2 Tryz.underlying224 (by rfl) info_sums) rfl ⟨_, _, by rw [HF.out.1], HF.out.2.1, ZF.out⟩)
    | (have ZF : Hid (Same w ((w2.setCell ⟨g4, 0, none⟩ (.int .i64 (Rv.gridOf p tick))).setCell ⟨g4, 1, none⟩ (.slice (some ⟨w1.heap.size, 0, none⟩) n n))) := Lib.hid (Z2.out.then (Same.of (((Kept.refl (fun _ => True) w2).setCell _ _ (.inl trivial)).setCell _ _ (.inl trivial))))
       clear S1 Z1 K0 S1a K0b S2 Z2 K1 f0 f1 f2 f3 f4 SE KE
       go_wp2_with fail
       exact bodyPost_ret (results_cell_row Tryz.results156 _ _ g4 224 _ (0, 0) _ (by rfl) HF.out.2.2 Tryz.underlying224 (by rfl) info_sums) rfl ⟨_, _, by rw [HF.out.1], HF.out.2.1, ZF.out⟩)
end Go.Proofs.YtcmndglhileeoaaGreat

/- The walks of slices.IndexFunc and ContainsFunc at numbers, of a function that only computes; the two such functions. -/
set_option linter.unusedSimpArgs false
set_option linter.unusedVariables false
namespace Go.Proofs.YtcmndglhileeoaaGreat
open Go.RowKit
open Rv (HP Sat Same pt allOf sat_all RdIn row own)

/-- A function value that only computes. -/
def Comp (K : Nat) (f : Int → Bool) : Prop := ∀ (n : Int) (w : World), Calls Tryz.prog K #[.int .i64 n] w fun e w' => e = .returned (.bool (f n)) ∧ w = w'
def idxF (f : Int → Bool) (l : List Int) : Int := if l.any f then (l.findIdx f : Nat) else -1
theorem idxF_any (f : Int → Bool) (l : List Int) : decide (0 ≤ idxF f l) = l.any f := by
  unfold idxF
  cases h : l.any f
  · simp
  · simp

theorem idxF_at {f : Int → Bool} {l : List Int} {k : Nat} {n : Int} (hk : k < l.length) (hn : l[k]? = some n) (hf : f n = true) (hno : ∀ j m, j < k → l[j]? = some m → f m = false) : idxF f l = (k : Int) := by
  unfold idxF
  have ha : l.any f = true := List.any_eq_true.2 ⟨n, List.mem_of_getElem? hn, hf⟩
  rw [ha, if_pos rfl]
  have hk2 : l[k] = n := (List.getElem?_eq_some_iff.1 hn).2
  have : l.findIdx f = k := by
    rw [List.findIdx_eq hk]
    refine ⟨by rw [hk2]; exact hf, fun j hj => ?_⟩
    exact hno j _ hj (List.getElem?_eq_getElem (by omega))
  rw [this]
theorem idxF_none {f : Int → Bool} {l : List Int} (h : ∀ n ∈ l, f n = false) : idxF f l = -1 := by
  unfold idxF
  rw [if_neg]
  rw [List.any_eq_true]
  rintro ⟨n, hn, hf⟩
  rw [h n hn] at hf
  cases hf

theorem wrong_comp : Comp 219 Rv.wrongN := by
  intro n w
  unfold Rv.wrongN
  by_cases h0 : n < 0
  · have d0 : decide (n < 0) = true := by simpa using h0
    rw [d0]
    go_enter Tryz.func219, Tryz.ntmps219
    go_wp2
    go_ret
    exact ⟨rfl, rfl⟩
  · have d0 : decide (n < 0) = false := by simpa using h0
    by_cases h1 : 1099511627776 < n
    · have d1 : decide (1099511627776 < n) = true := by simpa using h1
      rw [d0, show decide (n > 1099511627776) = true from d1]
      go_enter Tryz.func219, Tryz.ntmps219
      go_wp2
      go_ret
      exact ⟨rfl, rfl⟩
    · have d1 : decide (1099511627776 < n) = false := by simpa using h1
      rw [d0, show decide (n > 1099511627776) = false from d1]
      go_enter Tryz.func219, Tryz.ntmps219
      go_wp2
      go_ret
      exact ⟨rfl, rfl⟩
theorem nz_comp : Comp 141 (fun n => n != 0) := by
  intro n w
  go_enter Tryz.func141, Tryz.ntmps141
  go_wp2
  go_ret
  exact ⟨rfl, rfl⟩

set_option maxHeartbeats 1000000 in
set_option maxRecDepth 100000 in
theorem indexF_wrong (A : Option Addr) (l : List Int) (c : Nat) (w : World) (hr : RdV w A (l.map intI)) (hl : l.length ≤ 4096) :
    Calls Tryz.prog 155 #[.slice A l.length c, .func (.func 219) #[] #[]] w fun e w' => e = .returned (.int .i64 (idxF Rv.wrongN l)) ∧ w = w' := by
  have HR := Lib.hid hr
  have HF := Lib.hid (wrong_comp)
  clear hr
  go_enter Tryz.func155, Tryz.ntmps155
  go_wp2_with fail
  go_loopw [8] (fun i wr => ∃ k : Nat, k ≤ l.length ∧ i = .int .i64 k ∧ Hid (∀ j n, j < k → l[j]? = some n → Rv.wrongN n = false) ∧ wr = w) (fun i _ => l.length - (intOf i).toNat)
  case atStart => exact ⟨0, by omega, rfl, Lib.hid (fun j n h => by omega), rfl⟩
  case round =>
    obtain ⟨k, hk, rfl, Hno, rfl⟩ := hrel
    by_cases hlt : k < l.length
    · obtain ⟨n, hn⟩ := some_at hlt
      obtain ⟨ad, rfl, hc⟩ := HR.out k (intI n) (by simp [hn])
      have Hn := Lib.hid hn
      clear hn
      cases hfn : Rv.wrongN n with
      | true =>
        have HX : Hid (idxF Rv.wrongN l = (k : Int)) := Lib.hid (idxF_at hlt Hn.out hfn Hno.out)
        go_wp2_with (go_at_call 219; refine (HF.out n wr).mono ?_; rw [hfn]; rintro e w' ⟨rfl, rfl⟩)
        go_ret
        exact ⟨ret_int HX.out.symm, rfl⟩
      | false =>
        have HX : Hid (∀ j m, j < k + 1 → l[j]? = some m → Rv.wrongN m = false) := Lib.hid (fun j m hj hm => by
          by_cases e : j < k
          · exact Hno.out j m e hm
          · obtain rfl : j = k := by omega
            rw [Hn.out] at hm
            cases hm
            exact hfn)
        go_wp2_with (go_at_call 219; refine (HF.out n wr).mono ?_; rw [hfn]; rintro e w' ⟨rfl, rfl⟩)
        go_roundw
        case rel => exact ⟨k + 1, by omega, by go_num, HX, trivial⟩
        case measure => simp [intOf]; omega
    · obtain rfl : k = l.length := by omega
      have HX : Hid (idxF Rv.wrongN l = -1) := Lib.hid (idxF_none (fun n hn => by
        obtain ⟨j, hj⟩ := List.getElem?_of_mem hn
        exact Hno.out j n (List.getElem?_eq_some_iff.1 hj).1 hj))
      go_wp2_with fail
      go_ret
      exact ⟨ret_int HX.out.symm, rfl⟩

theorem contains_wrong (A : Option Addr) (l : List Int) (c : Nat) (w : World) (hr : RdV w A (l.map intI)) (hl : l.length ≤ 4096) (b : Bool) (hb : l.any Rv.wrongN = b) :
    Calls Tryz.prog 140 #[.slice A l.length c, .func (.func 219) #[] #[]] w fun e w' => e = .returned (.bool b) ∧ w = w' := by
  have H := Lib.hid (indexF_wrong A l c w hr hl)
  have hd : decide (0 ≤ idxF Rv.wrongN l) = b := by rw [idxF_any]; exact hb
  generalize idxF Rv.wrongN l = r at *
  clear hr hb
  cases b <;>
  · go_enter Tryz.func140, Tryz.ntmps140
    go_wp2_with fail
    refine H.out.mono ?_
    rintro e w' ⟨rfl, rfl⟩
    go_wp2_with fail
    go_ret
    exact ⟨rfl, rfl⟩

set_option maxHeartbeats 1000000 in
set_option maxRecDepth 100000 in
theorem indexF_nz (A : Option Addr) (l : List Int) (c : Nat) (w : World) (hr : RdV w A (l.map intI)) (hl : l.length ≤ 4096) :
    Calls Tryz.prog 155 #[.slice A l.length c, .func (.func 141) #[] #[]] w fun e w' => e = .returned (.int .i64 (idxF (fun n : Int => n != 0) l)) ∧ w = w' := by
  have HR := Lib.hid hr
  have HF := Lib.hid (nz_comp)
  clear hr
  go_enter Tryz.func155, Tryz.ntmps155
  go_wp2_with fail
  go_loopw [8] (fun i wr => ∃ k : Nat, k ≤ l.length ∧ i = .int .i64 k ∧ Hid (∀ j n, j < k → l[j]? = some n → (fun n : Int => n != 0) n = false) ∧ wr = w) (fun i _ => l.length - (intOf i).toNat)
  case atStart => exact ⟨0, by omega, rfl, Lib.hid (fun j n h => by omega), rfl⟩
  case round =>
    obtain ⟨k, hk, rfl, Hno, rfl⟩ := hrel
    by_cases hlt : k < l.length
    · obtain ⟨n, hn⟩ := some_at hlt
      obtain ⟨ad, rfl, hc⟩ := HR.out k (intI n) (by simp [hn])
      have Hn := Lib.hid hn
      clear hn
      cases hfn : (fun n : Int => n != 0) n with
      | true =>
        have HX : Hid (idxF (fun n : Int => n != 0) l = (k : Int)) := Lib.hid (idxF_at hlt Hn.out hfn Hno.out)
        go_wp2_with (go_at_call 141; refine (HF.out n wr).mono ?_; rw [hfn]; rintro e w' ⟨rfl, rfl⟩)
        go_ret
        exact ⟨ret_int HX.out.symm, rfl⟩
      | false =>
        have HX : Hid (∀ j m, j < k + 1 → l[j]? = some m → (fun n : Int => n != 0) m = false) := Lib.hid (fun j m hj hm => by
          by_cases e : j < k
          · exact Hno.out j m e hm
          · obtain rfl : j = k := by omega
            rw [Hn.out] at hm
            cases hm
            exact hfn)
        go_wp2_with (go_at_call 141; refine (HF.out n wr).mono ?_; rw [hfn]; rintro e w' ⟨rfl, rfl⟩)
        go_roundw
        case rel => exact ⟨k + 1, by omega, by go_num, HX, trivial⟩
        case measure => simp [intOf]; omega
    · obtain rfl : k = l.length := by omega
      have HX : Hid (idxF (fun n : Int => n != 0) l = -1) := Lib.hid (idxF_none (fun n hn => by
        obtain ⟨j, hj⟩ := List.getElem?_of_mem hn
        exact Hno.out j n (List.getElem?_eq_some_iff.1 hj).1 hj))
      go_wp2_with fail
      go_ret
      exact ⟨ret_int HX.out.symm, rfl⟩

theorem contains_nz (A : Option Addr) (l : List Int) (c : Nat) (w : World) (hr : RdV w A (l.map intI)) (hl : l.length ≤ 4096) (b : Bool) (hb : l.any (fun n : Int => n != 0) = b) :
    Calls Tryz.prog 140 #[.slice A l.length c, .func (.func 141) #[] #[]] w fun e w' => e = .returned (.bool b) ∧ w = w' := by
  have H := Lib.hid (indexF_nz A l c w hr hl)
  have hd : decide (0 ≤ idxF (fun n : Int => n != 0) l) = b := by rw [idxF_any]; exact hb
  generalize idxF (fun n : Int => n != 0) l = r at *
  clear hr hb
  cases b <;>
  · go_enter Tryz.func140, Tryz.ntmps140
    go_wp2_with fail
    refine H.out.mono ?_
    rintro e w' ⟨rfl, rfl⟩
    go_wp2_with fail
    go_ret
    exact ⟨rfl, rfl⟩
end Go.Proofs.YtcmndglhileeoaaGreat

/- The walks of package window: counts. -/
set_option linter.unusedSimpArgs false
set_option linter.unusedVariables false
namespace Go.Proofs.YtcmndglhileeoaaGreat
open Go.RowKit
open Rv (HP Sat Same pt allOf sat_all RdIn row own)

/-- A window as it should be. -/
structure SOk (p : Rv.Pol) (s : Rv.Sums) : Prop where
  g0 : 0 ≤ s.grid
  g1 : s.grid ≤ Rv.gridOf p 1099511627776
  len : (s.l.length : Int) = p.count
  all : ∀ n ∈ s.l, 0 ≤ n ∧ n ≤ 1099511627776
theorem SOk.wrong {p : Rv.Pol} {s : Rv.Sums} (h : SOk p s) : s.l.any Rv.wrongN = false := by
  rw [List.any_eq_false]
  intro n hn
  have := h.all n hn
  simp [Rv.wrongN]; omega
theorem SOk.counts {p : Rv.Pol} {s : Rv.Sums} (h : SOk p s) : Rv.countsW p s = s := by
  unfold Rv.countsW
  rw [if_neg]
  rintro (h1 | h1 | h1 | h1)
  · have := h.g0; omega
  · have := h.g1; omega
  · exact h1 h.len
  · rw [h.wrong] at h1; cases h1

theorem pol_sums {w : World} {g2 g3 : Nat} {p : Rv.Pol} {s : Rv.Sums} {A : Option Addr} {c : Nat} {Q R : HP} (h : Sat w (Q * (pt g3 (.cells #[.int .i64 s.grid, .slice A s.l.length c] 224) * (pt g2 (.cells (polCells p) 33) * R)))) :
    w.cell? ⟨g2, 0, none⟩ = some (.int .i64 p.kind) ∧ w.cell? ⟨g2, 1, none⟩ = some (.int .i64 p.cap) ∧ w.cell? ⟨g2, 2, none⟩ = some (.int .i64 p.num) ∧ w.cell? ⟨g2, 3, none⟩ = some (.int .i64 p.den) ∧ w.cell? ⟨g2, 4, none⟩ = some (.int .i64 p.width) ∧ w.cell? ⟨g2, 5, none⟩ = some (.int .i64 p.count) ∧ w.cell? ⟨g2, 6, none⟩ = some (.int .i64 p.keys) ∧ w.cell? ⟨g2, 7, none⟩ = some (.int .i64 p.slots) ∧ w.cell? ⟨g2, 8, none⟩ = some (.int .i64 p.every) ∧ w.cell? ⟨g2, 9, none⟩ = some (.int .i64 p.seg) ∧ w.cell? ⟨g3, 0, none⟩ = some (.int .i64 s.grid) ∧ w.cell? ⟨g3, 1, none⟩ = some (.slice A s.l.length c) := by
  obtain ⟨h0, h1, h2, h3, h4, h5, h6, h7, h8, h9⟩ := pol_cells h.right.right.heap
  exact ⟨h0, h1, h2, h3, h4, h5, h6, h7, h8, h9, (cells_of h.right.heap 0).trans rfl, (cells_of h.right.heap 1).trans rfl⟩

theorem sclone_int {w : World} {R : HP} (h : Sat w R) (A : Option Addr) (l : List Int) (c : Nat) (hr : RdV w A (l.map intI)) (hnil : A = none → c = 0) (hl : l.length ≤ 4096) :
    Calls Tryz.prog 80 #[.slice A l.length c] w fun e w' => ∃ B C, e = .returned (.slice B l.length C) ∧ Sat w' (intsP (.slice B l.length C) l * R) ∧ Below w.heap.size w w' := by
  refine (clone_int w A l.length c (l.map intI) (by simp) hr (by simp [Value.oneCell']) hnil (by omega)).mono ?_
  rintro e w' ⟨B, C, rfl, ho, hb⟩
  exact ⟨B, C, rfl, h.row_new hb (ho.mono (Nat.zero_le _)) (fun k hk => (ho.block k hk).1), hb⟩
theorem sums_cells {w : World} {g : Nat} {x y : Value} {t : TypeId} (h : w.heap[g]? = some (.cells #[x, y] t (0, 0))) : w.cell? ⟨g, 0, none⟩ = some x ∧ w.cell? ⟨g, 1, none⟩ = some y ∧ (∀ i, w.frozen? ⟨g, i, none⟩ = false) := ⟨(cells_of h 0).trans rfl, (cells_of h 1).trans rfl, frozen_of h⟩

set_option maxHeartbeats 2000000 in
set_option maxRecDepth 100000 in
theorem counts_any (R : HP) (p : Rv.Pol) (s : Rv.Sums) (A : Option Addr) (c : Nat) (w : World) (hR : Sat w R) (hr : RdIn R A (s.l.map intI)) (hnil : A = none → c = 0) (hs : SOk p s) (h : p.ok = true) (hk : p.kind = 2) :
    Calls Tryz.prog 217 #[.agg (polCells p), sumsV s A c] w fun e w' => ∃ B c', e = .returned (sumsV s B c') ∧ Sat w' (intsP (.slice B s.l.length c') s.l * R) ∧ Same w w' := by
  have Hok := Lib.hid h
  have Hk := Lib.hid hk
  have Hs := Lib.hid hs
  have Hr := Lib.hid hr
  have Hnil := Lib.hid hnil
  have hlen := hs.len
  obtain ⟨-, -, q1, q2⟩ := width_ok h hk
  have g1 : decide (s.grid < 0) = false := by have := hs.g0; simp; omega
  have g2 : decide (Rv.gridOf p 1099511627776 < s.grid) = false := by have := hs.g1; simp; omega
  have S0 := Lib.hid (((hR.alloc (.cells (polCells p) 33)).alloc (.cells #[.int .i64 s.grid, .slice A s.l.length c] 224)).alloc (.cells #[.int .i64 0, .slice none 0 0] 224))
  have Z0 : Hid (Same w (((w.alloc (.cells (polCells p) 33)).alloc (.cells #[.int .i64 s.grid, .slice A s.l.length c] 224)).alloc (.cells #[.int .i64 0, .slice none 0 0] 224))) := Lib.hid (Same.of ((((Kept.refl (fun _ => False) w).alloc _).alloc _).alloc _))
  clear h hk hR hs hr hnil
  go_enter Tryz.func217, Tryz.ntmps217
  go_upto_region 2 with (fail)
  obtain ⟨w0, hw0⟩ : ∃ w0, w0 = ((w.alloc (.cells (polCells p) 33)).alloc (.cells #[.int .i64 s.grid, .slice A s.l.length c] 224)).alloc (.cells #[.int .i64 0, .slice none 0 0] 224) := ⟨_, rfl⟩
  change Code.wp _ _ _ _ (((w.alloc (.cells (polCells p) 33)).alloc (.cells #[.int .i64 s.grid, .slice A s.l.length c] 224)).alloc (.cells #[.int .i64 0, .slice none 0 0] 224))
  rw [← hw0] at S0 Z0 ⊢
  simp only [World.size_alloc] at S0
  clear hw0
  have hc1 : ((s.l.length : Int) != p.count) = false := by rw [hlen]; simp
  generalize w.heap.size + 1 + 1 = g4 at *
  generalize w.heap.size + 1 = g3 at *
  generalize w.heap.size = g2 at *
  have K0 := Lib.hid (pol_sums S0.out)
  go_region_held3 (fun w' => w'.cell? ⟨g2, 0, none⟩ = some (.int .i64 p.kind) ∧ w'.cell? ⟨g2, 1, none⟩ = some (.int .i64 p.cap) ∧ w'.cell? ⟨g2, 2, none⟩ = some (.int .i64 p.num) ∧ w'.cell? ⟨g2, 3, none⟩ = some (.int .i64 p.den) ∧ w'.cell? ⟨g2, 4, none⟩ = some (.int .i64 p.width) ∧ w'.cell? ⟨g2, 5, none⟩ = some (.int .i64 p.count) ∧ w'.cell? ⟨g2, 6, none⟩ = some (.int .i64 p.keys) ∧ w'.cell? ⟨g2, 7, none⟩ = some (.int .i64 p.slots) ∧ w'.cell? ⟨g2, 8, none⟩ = some (.int .i64 p.every) ∧ w'.cell? ⟨g2, 9, none⟩ = some (.int .i64 p.seg) ∧ w'.cell? ⟨g3, 0, none⟩ = some (.int .i64 s.grid) ∧ w'.cell? ⟨g3, 1, none⟩ = some (.slice A s.l.length c)) (first | exact K1.out | exact K0.out | go_keep)
    (first
      | (go_at_call 161; refine (grid_any p 1099511627776 w0.drew Hok.out Hk.out).mono ?_; rintro e w2 ⟨rfl, b2⟩; have S2 := Lib.hid (S0.out.drew.below b2); have Z2 := Lib.hid (Z0.out.drew.then (Rv.Same.below b2)); have K1 := Lib.hid (pol_sums S2.out); clear b2)
      | (go_at_call 140; refine (contains_wrong A s.l c w2 (Hr.out w2 S2.out.right.right.right) (by omega) false Hs.out.wrong).mono ?_; rintro e w' ⟨rfl, rfl⟩))
  clear K0 K1 S0 Z0
  go_upto_region 4 with (fail)
  have K0 : Hid (w2.cell? ⟨g3, 0, none⟩ = some (.int .i64 s.grid) ∧ w2.cell? ⟨g3, 1, none⟩ = some (.slice A s.l.length c)) := Lib.hid ⟨(sums_cells S2.out.right.heap).1, (sums_cells S2.out.right.heap).2.1⟩
  go_region_held3 (fun w' => w'.cell? ⟨g3, 0, none⟩ = some (.int .i64 s.grid) ∧ w'.cell? ⟨g3, 1, none⟩ = some (.slice A s.l.length c)) (first | exact K1.out | exact K0.out | exact KE.out | go_keep)
    (first
      | (go_at_call 80; refine (sclone_int S2.out.drew A s.l c (Hr.out w2.drew S2.out.right.right.right) Hnil.out (by omega)).mono ?_; rintro e w3 ⟨B, C, rfl, s3, b3⟩; have S3 := Lib.hid s3.swap; have Z3 := Lib.hid (Z2.out.drew.then (Rv.Same.below b3)); have K1 : Hid (w3.cell? ⟨g3, 0, none⟩ = some (.int .i64 s.grid) ∧ w3.cell? ⟨g3, 1, none⟩ = some (.slice A s.l.length c)) := Lib.hid ⟨(sums_cells S3.out.right.right.heap).1, (sums_cells S3.out.right.right.heap).2.1⟩; obtain ⟨f0, f1, f2⟩ := sums_cells S3.out.heap; have S4 := Lib.hid (sums_put (x := .int .i64 s.grid) (y := .slice B s.l.length C) S3.out); have KE : Hid (((w3.setCell ⟨g4, 0, none⟩ (.int .i64 s.grid)).setCell ⟨g4, 1, none⟩ (.slice B s.l.length C)).cell? ⟨g3, 0, none⟩ = some (.int .i64 s.grid) ∧ ((w3.setCell ⟨g4, 0, none⟩ (.int .i64 s.grid)).setCell ⟨g4, 1, none⟩ (.slice B s.l.length C)).cell? ⟨g3, 1, none⟩ = some (.slice A s.l.length c)) := Lib.hid ⟨(sums_cells S4.out.right.right.heap).1, (sums_cells S4.out.right.right.heap).2.1⟩; clear b3 s3))
  have Z4 : Hid (Same w ((w3.setCell ⟨g4, 0, none⟩ (.int .i64 s.grid)).setCell ⟨g4, 1, none⟩ (.slice B s.l.length C))) := Lib.hid (Z3.out.then (((Kept.refl (fun _ => True) w3).setCell _ _ (.inl trivial)).setCell _ _ (.inl trivial)))
  clear K0 K1 KE f0 f1 f2 S2 Z2 S3 Z3
  go_wp2_with fail
  exact bodyPost_ret (results_cell_row Tryz.results217 _ _ g4 224 _ (0, 0) _ (by rfl) S4.out.heap Tryz.underlying224 (by rfl) info_sums) rfl ⟨B, C, rfl, S4.out.right.drop2.drop2, Z4.out⟩
end Go.Proofs.YtcmndglhileeoaaGreat
