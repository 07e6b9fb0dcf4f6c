/- Whole numbers below 2^53 in floats: sums, differences, products and the way back are exact. Plain arithmetic; no program. -/
import GoSem.Core.Float
import Derived.Laws.ComplexArith
namespace Rv
open Go Ieee

def sg (s : Bool) (m : Nat) : Int := if s then -(m : Int) else (m : Int)
theorem sg_abs (s : Bool) (m : Nat) : (sg s m).natAbs = m := by cases s <;> simp [sg]

@[irreducible] def KK : Nat := 2200
theorem KK_eq : KK = 2200 := by unfold KK; rfl

theorem log2_mul_pow (m k : Nat) (hm : m ≠ 0) : (m * 2 ^ k).log2 = m.log2 + k := by
  have h0 : m * 2 ^ k ≠ 0 := Nat.ne_of_gt (Nat.mul_pos (Nat.pos_of_ne_zero hm) (Nat.two_pow_pos k))
  rw [Nat.log2_eq_iff h0]
  constructor
  · rw [Nat.pow_add]; exact Nat.mul_le_mul_right _ (Nat.log2_self_le hm)
  · rw [show m.log2 + k + 1 = (m.log2 + 1) + k by omega, Nat.pow_add]
    exact Nat.mul_lt_mul_of_pos_right Nat.lt_log2_self (Nat.two_pow_pos k)

/-- A datum's value is a whole number. -/
def Val (lo : Nat) (d : Datum) (n : Int) : Prop := ∃ s m e, d = .number s m e ∧ -(lo : Int) ≤ e ∧ lo ≤ KK ∧ sg s m * 2 ^ (e + KK).toNat = n * 2 ^ KK ∧ (n = 0 → s = false)

abbrev fl (n : Int) : Nat := floatOfInt .f64 n
theorem fl_eq (n : Int) : fl n = Ieee.double.nearest (n < 0) n.natAbs 0 := rfl

theorem pow_pos' (k : Nat) : 0 < (2 : Nat) ^ k := Nat.two_pow_pos k

theorem Val.mag {s : Bool} {m : Nat} {e : Int} {n : Int} (h : sg s m * 2 ^ (e + KK).toNat = n * 2 ^ KK) : m * 2 ^ (e + KK).toNat = n.natAbs * 2 ^ KK := by
  have := congrArg Int.natAbs h
  rw [Int.natAbs_mul, Int.natAbs_mul, sg_abs, Int.natAbs_pow, Int.natAbs_pow] at this
  exact this

theorem Val.sign {s : Bool} {m : Nat} {e : Int} {n : Int} (h : sg s m * 2 ^ (e + KK).toNat = n * 2 ^ KK) (h0 : n = 0 → s = false) : s = decide (n < 0) := by
  have p1 : (0 : Int) < 2 ^ (e + KK).toNat := Int.pow_pos (by decide)
  have p2 : (0 : Int) < 2 ^ KK := Int.pow_pos (by decide)
  rcases Int.lt_trichotomy n 0 with hn | hn | hn
  · have : n * 2 ^ KK < 0 := Int.mul_neg_of_neg_of_pos hn p2
    cases s with
    | true => simp [hn]
    | false =>
      have h2 : 0 ≤ sg false m * 2 ^ (e + KK).toNat := Int.mul_nonneg (by simp [sg]) (Int.le_of_lt p1)
      omega
  · rw [h0 hn]; simp [hn]
  · have : 0 < n * 2 ^ KK := Int.mul_pos hn p2
    cases s with
    | false => symm; simp; omega
    | true =>
      have h2 : sg true m * 2 ^ (e + KK).toNat ≤ 0 := Int.mul_nonpos_of_nonpos_of_nonneg (by simp [sg]) (Int.le_of_lt p1)
      omega

/-- The rung of a whole number: t its last digit's place. -/
theorem log2_val {m N : Nat} {e : Int} (he : -KK ≤ e) (hN : 0 < N) (h : m * 2 ^ (e + KK).toNat = N * 2 ^ KK) : 0 < m ∧ e + m.log2 = N.log2 := by
  have hm : 0 < m := by
    rcases Nat.eq_zero_or_pos m with h0 | h0
    · subst h0
      have := Nat.mul_pos hN (pow_pos' KK)
      simp only [Nat.zero_mul] at h
      omega
    · exact h0
  refine ⟨hm, ?_⟩
  have h1 : (m * 2 ^ (e + KK).toNat).log2 = m.log2 + (e + KK).toNat := by
    exact log2_mul_pow _ _ (by omega)
  have h2 : (N * 2 ^ KK).log2 = N.log2 + KK := by
    exact log2_mul_pow _ _ (by omega)
  rw [h, h2] at h1
  omega

theorem cut_exact (way : Toward) (neg : Bool) (q drop : Nat) : way.cut neg (q * 2 ^ drop) drop = q := by
  unfold Toward.cut
  have hgap : (1 <<< min drop ((q * 2 ^ drop).log2 + 2)) ∣ q * 2 ^ drop ∧ q * 2 ^ drop / (1 <<< min drop ((q * 2 ^ drop).log2 + 2)) = q ∧ 0 < 1 <<< min drop ((q * 2 ^ drop).log2 + 2) := by
    rcases Nat.eq_zero_or_pos q with h0 | h0
    · subst h0
      refine ⟨by simp, by simp, ?_⟩
      rw [Nat.shiftLeft_eq, Nat.one_mul]; exact pow_pos' _
    · have hl : (q * 2 ^ drop).log2 = q.log2 + drop := log2_mul_pow _ _ (by omega)
      have hm : min drop ((q * 2 ^ drop).log2 + 2) = drop := by omega
      rw [hm, Nat.shiftLeft_eq, Nat.one_mul]
      exact ⟨Nat.dvd_mul_left _ _, Nat.mul_div_cancel _ (pow_pos' _), pow_pos' _⟩
  obtain ⟨h1, h2, h3⟩ := hgap
  have h4 := Nat.mod_eq_zero_of_dvd h1
  simp only [h2, h4]
  have : (1 <<< min drop ((q * 2 ^ drop).log2 + 2)) ≠ 0 := by omega
  cases way <;> simp [this]

theorem nearest_val {s : Bool} {m N : Nat} {e : Int} (he : -KK ≤ e) (hN : 0 < N) (hb : N < 2 ^ 53) (h : m * 2 ^ (e + KK).toNat = N * 2 ^ KK) :
    Ieee.double.nearest s m e = Ieee.double.word s ((N.log2 + 1022) * 2 ^ 52 + N * 2 ^ (52 - N.log2)) := by
  have hK := KK_eq
  obtain ⟨hm, hl⟩ := log2_val he hN h
  have hL : N.log2 ≤ 52 := by
    have := (Nat.log2_lt (by omega)).2 hb
    omega
  unfold Format.nearest
  rw [if_neg (by omega)]
  have hlp : Ieee.double.leastPlace = -1074 := by decide
  have hfb : Ieee.double.fractionBits = 52 := rfl
  simp only [hlp, hfb, hl]
  have hlast : max ((N.log2 : Int) - (52 : Nat)) (-1074) = (N.log2 : Int) - 52 := by omega
  rw [hlast]
  have hk : Toward.even.cut s (m <<< (e - ((N.log2 : Int) - 52)).toNat) (((N.log2 : Int) - 52) - e).toNat = N * 2 ^ (52 - N.log2) := by
    rcases Int.le_total ((N.log2 : Int) - 52) e with hle | hle
    · have e1 : (((N.log2 : Int) - 52) - e).toNat = 0 := by omega
      rw [e1, Nat.shiftLeft_eq]
      have := cut_exact Toward.even s (m * 2 ^ (e - ((N.log2 : Int) - 52)).toNat) 0
      rw [Nat.pow_zero, Nat.mul_one] at this
      rw [this]
      have e2 : (e + KK).toNat = (e - ((N.log2 : Int) - 52)).toNat + (N.log2 + (KK - 52)) := by omega
      have e3 : KK = (52 - N.log2) + (N.log2 + (KK - 52)) := by omega
      rw [e2] at h
      conv at h => rhs; rw [e3]
      generalize N.log2 + (KK - 52) = J at *
      rw [Nat.pow_add, Nat.pow_add, ← Nat.mul_assoc, ← Nat.mul_assoc] at h
      exact Nat.eq_of_mul_eq_mul_right (pow_pos' _) h
    · have e1 : (e - ((N.log2 : Int) - 52)).toNat = 0 := by omega
      rw [e1, Nat.shiftLeft_zero]
      have e2 : (52 - N.log2) + ((((N.log2 : Int) - 52) - e).toNat + (e + KK).toNat) = KK := by omega
      have e3 : m = (N * 2 ^ (52 - N.log2)) * 2 ^ (((N.log2 : Int) - 52) - e).toNat := by
        refine Nat.eq_of_mul_eq_mul_right (pow_pos' (e + KK).toNat) ?_
        rw [h, Nat.mul_assoc, Nat.mul_assoc, ← Nat.pow_add, ← Nat.pow_add, e2]
      rw [e3]
      exact cut_exact _ _ _ _
  rw [hk]
  have hbin : Ieee.double.binade = 2 ^ 52 := rfl
  have hinf : Ieee.double.infRung = 2047 * 2 ^ 52 := rfl
  rw [hbin, hinf]
  congr 1
  have e4 : ((N.log2 : Int) - 52 - -1074).toNat = N.log2 + 1022 := by omega
  rw [e4]
  have h5 : N * 2 ^ (52 - N.log2) ≤ 2 ^ 53 := by
    have h6 : N < 2 ^ (N.log2 + 1) := Nat.lt_log2_self
    have h7 : 2 ^ 53 = 2 ^ (N.log2 + 1) * 2 ^ (52 - N.log2) := by rw [← Nat.pow_add]; congr 1; omega
    rw [h7]
    exact Nat.mul_le_mul_right _ (by omega)
  have h8 : (N.log2 + 1022) * 2 ^ 52 ≤ 1074 * 2 ^ 52 := Nat.mul_le_mul_right _ (by omega)
  refine Nat.min_eq_left ?_
  have h9 : (2 : Nat) ^ 53 = 2 * 2 ^ 52 := by decide
  generalize (2 : Nat) ^ 53 = B3 at *
  generalize (2 : Nat) ^ 52 = B at *
  generalize (N.log2 + 1022) * B = R at *
  omega

theorem nearest_zero (s : Bool) (e : Int) : Ieee.double.nearest s 0 e = Ieee.double.word s 0 := by unfold Format.nearest; rw [if_pos rfl]

/-- Whatever datum stands for the number: its word is the number's. -/
theorem write_val {lo : Nat} {d : Datum} {n : Int} (h : Val lo d n) (hb : n.natAbs < 2 ^ 53) : Ieee.double.write d = fl n := by
  obtain ⟨s, m, e, rfl, he, hlo, hv, h0⟩ := h
  have hs := Val.sign hv h0
  have hm := Val.mag hv
  rw [show Ieee.double.write (.number s m e) = Ieee.double.nearest s m e from rfl, fl_eq]
  have hK := KK_eq
  rcases Nat.eq_zero_or_pos n.natAbs with hz | hz
  · have : m = 0 := by
      rw [hz, Nat.zero_mul] at hm
      rcases Nat.mul_eq_zero.1 hm with h1 | h1
      · exact h1
      · have := pow_pos' (e + KK).toNat; omega
    rw [this, nearest_zero, hz, nearest_zero, hs]
  · rw [nearest_val (by omega) hz hb hm, nearest_val (m := n.natAbs) (e := 0) (by omega) hz hb (by simp), hs]

theorem read_val {n : Int} (hb : n.natAbs < 2 ^ 53) : Val 1100 (Ieee.double.read (fl n)) n := by
  have hK := KK_eq
  rcases Nat.eq_zero_or_pos n.natAbs with hz | hz
  · have : n = 0 := by omega
    subst this
    have : Ieee.double.read (fl 0) = .number false 0 (-1074) := by decide
    rw [this]
    exact ⟨_, _, _, rfl, by omega, by omega, by simp [sg], fun _ => rfl⟩
  · have hL : n.natAbs.log2 ≤ 52 := by
      have := (Nat.log2_lt (by omega)).2 hb
      omega
    have hlo : 2 ^ 52 ≤ n.natAbs * 2 ^ (52 - n.natAbs.log2) := by
      have h6 : 2 ^ n.natAbs.log2 ≤ n.natAbs := Nat.log2_self_le (by omega)
      have h7 : 2 ^ 52 = 2 ^ n.natAbs.log2 * 2 ^ (52 - n.natAbs.log2) := by rw [← Nat.pow_add]; congr 1; omega
      rw [h7]
      exact Nat.mul_le_mul_right _ h6
    have hhi : n.natAbs * 2 ^ (52 - n.natAbs.log2) < 2 * 2 ^ 52 := by
      have h6 : n.natAbs < 2 ^ (n.natAbs.log2 + 1) := Nat.lt_log2_self
      have h7 : 2 * 2 ^ 52 = 2 ^ (n.natAbs.log2 + 1) * 2 ^ (52 - n.natAbs.log2) := by rw [← Nat.pow_add, ← Nat.pow_succ']; congr 1; omega
      rw [h7]
      exact Nat.mul_lt_mul_of_pos_right h6 (pow_pos' _)
    have hfl : fl n = Ieee.double.word (decide (n < 0)) ((n.natAbs.log2 + 1022) * 2 ^ 52 + n.natAbs * 2 ^ (52 - n.natAbs.log2)) := by
      rw [fl_eq, nearest_val (m := n.natAbs) (e := 0) (by omega) hz hb (by simp)]
    have hval : (n.natAbs * 2 ^ (52 - n.natAbs.log2)) * 2 ^ (((n.natAbs.log2 : Int) - 52) + KK).toNat = n.natAbs * 2 ^ KK := by
      rw [Nat.mul_assoc, ← Nat.pow_add]; congr 2; omega
    generalize hq : n.natAbs * 2 ^ (52 - n.natAbs.log2) = q at *
    generalize n.natAbs.log2 = t at *
    have hr : Ieee.double.read (fl n) = .number (decide (n < 0)) q ((t : Int) - 52) := by
      rw [hfl]
      have hsw : Ieee.double.signWeight = 2048 * 2 ^ 52 := rfl
      have hbin : Ieee.double.binade = 2 ^ 52 := rfl
      have hinf : Ieee.double.infRung = 2047 * 2 ^ 52 := rfl
      have hlp : Ieee.double.leastPlace = -1074 := by decide
      have hR1 : (t + 1022) * 2 ^ 52 ≤ 1074 * 2 ^ 52 := Nat.mul_le_mul_right _ (Nat.add_le_add_right hL 1022)
      have hR0 : 1022 * 2 ^ 52 ≤ (t + 1022) * 2 ^ 52 := Nat.mul_le_mul_right _ (Nat.le_add_left 1022 t)
      have hR2 : (t + 1023) * 2 ^ 52 = (t + 1022) * 2 ^ 52 + 2 ^ 52 := by rw [show t + 1023 = (t + 1022) + 1 by omega, Nat.add_mul (t + 1022), Nat.one_mul]
      have hBp := pow_pos' 52
      unfold Format.read Format.word
      simp only [hsw, hbin, hinf, hlp]
      clear hfl hval hsw hbin hinf hb
      generalize (2 : Nat) ^ 52 = B at *
      have e2 : ((t + 1022) * B + q) % B = q - B := by
        have e1 : (t + 1022) * B + q = (q - B) + (t + 1023) * B := by
          rw [hR2]
          generalize (t + 1022) * B = R at *
          omega
        rw [e1, Nat.add_mul_mod_self_right]; exact Nat.mod_eq_of_lt (by omega)
      have e3 : ((t + 1022) * B + q) / B = t + 1023 := by
        have e1 : (t + 1022) * B + q = (q - B) + (t + 1023) * B := by
          rw [hR2]
          generalize (t + 1022) * B = R at *
          omega
        rw [e1, Nat.add_mul_div_right _ _ hBp, Nat.div_eq_of_lt (by omega)]; omega
      clear hR2
      generalize (t + 1022) * B = R at *
      have hw1 : (if decide (n < 0) = true then 2048 * B + (R + q) else R + q) / (2048 * B) % 2 = (decide (n < 0)).toNat := by
        by_cases hn : n < 0
        · rw [if_pos (by simp [hn]), Nat.add_div_left _ (by omega), Nat.div_eq_of_lt (by omega)]; simp [hn]
        · rw [if_neg (by simp [hn]), Nat.div_eq_of_lt (by omega)]; simp [hn]
      have hw2 : (if decide (n < 0) = true then 2048 * B + (R + q) else R + q) % (2048 * B) = R + q := by
        by_cases hn : n < 0
        · rw [if_pos (by simp [hn]), Nat.add_mod_left, Nat.mod_eq_of_lt (by omega)]
        · rw [if_neg (by simp [hn]), Nat.mod_eq_of_lt (by omega)]
      rw [hw1, hw2]
      rw [if_neg (by omega)]
      refine Eq.trans (if_pos (by omega)) ?_
      have e5 : B + (R + q) % B = q := by omega
      have e6 : (-1074 : Int) + (((R + q) / B - 1 : Nat) : Int) = (t : Int) - 52 := by omega
      have e7 : ((decide (n < 0)).toNat == 1) = decide (n < 0) := by cases decide (n < 0) <;> rfl
      simp only [e5, e6, e7]
    rw [hr]
    clear hr hfl hlo hhi hb hq
    refine ⟨_, _, _, rfl, by omega, by omega, ?_, fun h => by omega⟩
    have hc : ((q * 2 ^ (((t : Int) - 52) + KK).toNat : Nat) : Int) = ((n.natAbs * 2 ^ KK : Nat) : Int) := congrArg _ hval
    rw [Int.natCast_mul, Int.natCast_mul, Int.natCast_pow, Int.natCast_pow] at hc
    by_cases hn : n < 0
    · have : (n.natAbs : Int) = -n := by omega
      rw [this] at hc
      simp only [hn, decide_true, sg, if_true]
      rw [Int.neg_mul]
      have h2 : ((2 : Nat) : Int) = 2 := rfl
      rw [h2] at hc
      rw [hc]
      rw [Int.neg_mul]
      omega
    · have : (n.natAbs : Int) = n := by omega
      rw [this] at hc
      simp only [hn, decide_false, sg]
      exact hc


theorem signed_eq (s : Bool) (m k : Nat) : Ieee.signed s m k = sg s m * 2 ^ k := by
  unfold Ieee.signed sg
  rw [Nat.shiftLeft_eq]
  cases s
  · simp
  · simp [Int.neg_mul]

/-- Moved to a lower place it is the same number. -/
theorem sg_base {s : Bool} {m : Nat} {i base : Int} {n : Int} (hb : base ≤ i) (h0 : -KK ≤ base) (h : sg s m * 2 ^ (i + KK).toNat = n * 2 ^ KK) :
    Ieee.signed s m (i - base).toNat * 2 ^ (base + KK).toNat = n * 2 ^ KK := by
  rw [signed_eq, Int.mul_assoc, ← Int.pow_add, ← h]
  congr 2
  omega

theorem natAbs_sg (x : Int) : sg (decide (x < 0)) x.natAbs = x := by
  unfold sg
  by_cases h : x < 0
  · simp [h]; omega
  · simp [h]; omega

theorem mul_pow_zero {x n : Int} {k : Nat} (h : x * 2 ^ k = n * 2 ^ KK) : x = 0 ↔ n = 0 := by
  have p1 : (2 : Int) ^ k ≠ 0 := Int.ne_of_gt (Int.pow_pos (by decide))
  have p2 : (2 : Int) ^ KK ≠ 0 := Int.ne_of_gt (Int.pow_pos (by decide))
  constructor
  · rintro rfl
    rw [Int.zero_mul] at h
    exact (Int.mul_eq_zero.1 h.symm).resolve_right p2
  · rintro rfl
    rw [Int.zero_mul] at h
    exact (Int.mul_eq_zero.1 h).resolve_right p1

theorem Val.sum {lo : Nat} {d d' : Datum} {a b : Int} (h1 : Val lo d a) (h2 : Val lo d' b) : ∃ r, d.sum d' = some r ∧ Val lo r (a + b) := by
  obtain ⟨s, m, i, rfl, hi, hlo, hv, h0⟩ := h1
  obtain ⟨t, n, j, rfl, hj, _, hv', h0'⟩ := h2
  have hs := Val.sign hv h0
  have ht := Val.sign hv' h0'
  have e1 := sg_base (base := min i j) (by omega) (by omega) hv
  have e2 := sg_base (base := min i j) (by omega) (by omega) hv'
  refine ⟨_, rfl, ?_⟩
  generalize hx : Ieee.signed s m (i - min i j).toNat = x at *
  generalize hy : Ieee.signed t n (j - min i j).toNat = y at *
  have e3 : (x + y) * 2 ^ (min i j + KK).toNat = (a + b) * 2 ^ KK := by rw [Int.add_mul, Int.add_mul, e1, e2]
  have hz := mul_pow_zero e3
  by_cases hxy : x + y = 0
  · rw [if_pos hxy]
    refine ⟨_, _, _, rfl, by omega, hlo, ?_, fun hab => ?_⟩
    · rw [hxy] at e3 ⊢
      simp only [Int.natAbs_zero]
      rw [← e3]
      cases (s && t) <;> simp [sg]
    · rw [hs, ht]
      by_cases ha : a < 0
      · have : ¬ b < 0 := by omega
        simp [this]
      · simp [ha]
  · rw [if_neg hxy]
    refine ⟨_, _, _, rfl, by omega, hlo, ?_, fun hab => absurd (hz.2 hab) hxy⟩
    rw [natAbs_sg]
    exact e3

theorem Val.sub {lo : Nat} {d d' : Datum} {a b : Int} (h1 : Val lo d a) (h2 : Val lo d' b) : ∃ r, d.sum d'.opposite = some r ∧ Val lo r (a - b) := by
  obtain ⟨s, m, i, rfl, hi, hlo, hv, h0⟩ := h1
  obtain ⟨t, n, j, rfl, hj, _, hv', h0'⟩ := h2
  have hs := Val.sign hv h0
  have ht := Val.sign hv' h0'
  have hv2 : sg (!t) n * 2 ^ (j + KK).toNat = (-b) * 2 ^ KK := by
    have : sg (!t) n = -sg t n := by cases t <;> simp [sg]
    rw [this, Int.neg_mul, hv', Int.neg_mul]
  have e1 := sg_base (base := min i j) (by omega) (by omega) hv
  have e2 := sg_base (base := min i j) (by omega) (by omega) hv2
  refine ⟨_, rfl, ?_⟩
  generalize hx : Ieee.signed s m (i - min i j).toNat = x at *
  generalize hy : Ieee.signed (!t) n (j - min i j).toNat = y at *
  have e3 : (x + y) * 2 ^ (min i j + KK).toNat = (a - b) * 2 ^ KK := by rw [Int.add_mul, e1, e2, Int.sub_mul, Int.neg_mul]; rfl
  have hz := mul_pow_zero e3
  by_cases hxy : x + y = 0
  · rw [if_pos hxy]
    refine ⟨_, _, _, rfl, by omega, hlo, ?_, fun hab => ?_⟩
    · rw [hxy] at e3 ⊢
      simp only [Int.natAbs_zero]
      rw [← e3]
      cases (s && !t) <;> simp [sg]
    · rw [hs, ht]
      have : a = b := by omega
      subst this
      cases decide (a < 0) <;> rfl
  · rw [if_neg hxy]
    refine ⟨_, _, _, rfl, by omega, hlo, ?_, fun hab => absurd (hz.2 hab) hxy⟩
    rw [natAbs_sg]
    exact e3

theorem Val.mul {d d' : Datum} {a b : Int} (h1 : Val 1100 d a) (h2 : Val 1100 d' b) (ha : 0 ≤ a) (hb : 0 ≤ b) : ∃ r, d.product d' = some r ∧ Val 2200 r (a * b) := by
  obtain ⟨s, m, i, rfl, hi, hlo, hv, h0⟩ := h1
  obtain ⟨t, n, j, rfl, hj, _, hv', h0'⟩ := h2
  have hK := KK_eq
  have hs := Val.sign hv h0
  have ht := Val.sign hv' h0'
  have hs' : s = false := by rw [hs]; simp; omega
  have ht' : t = false := by rw [ht]; simp; omega
  clear hs ht
  subst hs'
  subst ht'
  refine ⟨_, rfl, false, m * n, i + j, rfl, by omega, by omega, ?_, fun _ => rfl⟩
  simp only [sg] at *
  simp only [Bool.false_eq_true, if_false] at *
  have p : (2 : Int) ^ KK ≠ 0 := Int.ne_of_gt (Int.pow_pos (by decide))
  refine Int.eq_of_mul_eq_mul_right p ?_
  have e1 : (i + j + KK).toNat + KK = (i + KK).toNat + (j + KK).toNat := by omega
  rw [Int.mul_assoc, ← Int.pow_add, e1, Int.pow_add, Int.natCast_mul]
  have e2 : (m : Int) * n * (2 ^ (i + KK).toNat * 2 ^ (j + KK).toNat) = (m * 2 ^ (i + KK).toNat) * (n * 2 ^ (j + KK).toNat) := by
    simp only [Int.mul_assoc, Int.mul_left_comm]
  rw [e2, hv, hv']
  simp only [Int.mul_assoc, Int.mul_left_comm]

theorem Val.int {lo : Nat} {d : Datum} {n : Int} (h : Val lo d n) : d.toInt .zero = some n := by
  obtain ⟨s, m, e, rfl, he, hlo, hv, h0⟩ := h
  have hm := Val.mag hv
  have hs := Val.sign hv h0
  unfold Datum.toInt Datum.integral
  simp only
  congr 1
  have hq : Toward.zero.cut s (m <<< e.toNat) (-e).toNat = n.natAbs := by
    rcases Int.le_total 0 e with h1 | h1
    · have e1 : (-e).toNat = 0 := by omega
      rw [e1, Nat.shiftLeft_eq]
      have := cut_exact Toward.zero s (m * 2 ^ e.toNat) 0
      rw [Nat.pow_zero, Nat.mul_one] at this
      rw [this]
      refine Nat.eq_of_mul_eq_mul_right (pow_pos' KK) ?_
      rw [← hm, Nat.mul_assoc, ← Nat.pow_add]
      congr 2
      omega
    · have e1 : e.toNat = 0 := by omega
      rw [e1, Nat.shiftLeft_zero]
      have e2 : m = n.natAbs * 2 ^ (-e).toNat := by
        refine Nat.eq_of_mul_eq_mul_right (pow_pos' (e + KK).toNat) ?_
        rw [hm, Nat.mul_assoc, ← Nat.pow_add]
        congr 2
        omega
      rw [e2]
      exact cut_exact _ _ _ _
  rw [hq, signed_eq, hs, natAbs_sg]
  simp

theorem fl_add {a b : Int} (ha : a.natAbs < 2 ^ 53) (hb : b.natAbs < 2 ^ 53) (hab : (a + b).natAbs < 2 ^ 53) : floatBits .add .f64 (fl a) (fl b) = some (fl (a + b)) := by
  obtain ⟨r, h1, h2⟩ := Val.sum (read_val ha) (read_val hb)
  show ((Ieee.double.read (fl a)).sum (Ieee.double.read (fl b))).map Ieee.double.write = _
  rw [h1, Option.map_some, write_val h2 hab]
theorem fl_sub {a b : Int} (ha : a.natAbs < 2 ^ 53) (hb : b.natAbs < 2 ^ 53) (hab : (a - b).natAbs < 2 ^ 53) : floatBits .sub .f64 (fl a) (fl b) = some (fl (a - b)) := by
  obtain ⟨r, h1, h2⟩ := Val.sub (read_val ha) (read_val hb)
  show ((Ieee.double.read (fl a)).sum (Ieee.double.read (fl b)).opposite).map Ieee.double.write = _
  rw [h1, Option.map_some, write_val h2 hab]
theorem fl_mul {a b : Int} (ha0 : 0 ≤ a) (hb0 : 0 ≤ b) (ha : a.natAbs < 2 ^ 53) (hb : b.natAbs < 2 ^ 53) (hab : (a * b).natAbs < 2 ^ 53) : floatBits .mul .f64 (fl a) (fl b) = some (fl (a * b)) := by
  obtain ⟨r, h1, h2⟩ := Val.mul (read_val ha) (read_val hb) ha0 hb0
  show ((Ieee.double.read (fl a)).product (Ieee.double.read (fl b))).map Ieee.double.write = _
  rw [h1, Option.map_some, write_val h2 hab]
theorem fl_int {n : Int} (hn : n.natAbs < 2 ^ 53) : floatToIntVal .f64 (fl n) .i64 = some n := by
  unfold floatToIntVal
  rw [show FloatKind.f64.decode (fl n) = Ieee.double.read (fl n) from rfl, Val.int (read_val hn)]
  simp only
  rw [if_pos]
  have h1 : IntKind.i64.min = -9223372036854775808 := by decide
  have h2 : IntKind.i64.max = 9223372036854775807 := by decide
  rw [h1, h2]
  have : (2 : Nat) ^ 53 = 9007199254740992 := by decide
  rw [this] at hn
  omega


theorem b53 : (2 : Nat) ^ 53 = 9007199254740992 := by decide
theorem w_re : 4679482798749253632 = fl 69069 := by decide +kernel
theorem w_im : 4689970232712757248 = fl 362437 := by decide +kernel
theorem one_fl : 4607182418800017408 = fl 1 := by decide +kernel
theorem zero_fl : 0 = fl 0 := by decide +kernel

theorem mul_w {a b : Int} (ha0 : 0 ≤ a) (ha : a < 16777199) (hb0 : 0 ≤ b) (hb : b < 16777199) :
    cMulBits (fl a) (fl b) 4679482798749253632 4689970232712757248 = some (fl (a * 69069 - b * 362437), fl (a * 362437 + b * 69069)) := by
  rw [w_re, w_im]
  unfold cMulBits
  have h := b53
  rw [fl_mul (a := a) (b := 69069) (by omega) (by omega) (by omega) (by omega) (by omega),
    fl_mul (a := b) (b := 362437) (by omega) (by omega) (by omega) (by omega) (by omega),
    fl_mul (a := a) (b := 362437) (by omega) (by omega) (by omega) (by omega) (by omega),
    fl_mul (a := b) (b := 69069) (by omega) (by omega) (by omega) (by omega) (by omega)]
  simp only [Option.bind_some]
  rw [fl_sub (by omega) (by omega) (by omega), fl_add (by omega) (by omega) (by omega)]
  simp only [Option.bind_some]

theorem add_byte {a b c : Int} (ha : a.natAbs < 4503599627370496) (hb : b.natAbs < 4503599627370496) (hc0 : 0 ≤ c) (hc : c < 256) :
    cSumBits .add .f64 (fl a) (fl b) (fl (c + 1)) 0 = some (fl (a + (c + 1)), fl b) := by
  have h := b53
  conv => lhs; rw [zero_fl]
  unfold cSumBits
  rw [fl_add (by omega) (by omega) (by omega), fl_add (by omega) (by omega) (by omega)]
  simp only [Option.bind_some, Int.add_zero]

theorem add_one {c : Int} (hc0 : 0 ≤ c) (hc : c < 256) : floatBits .add .f64 (fl c) 4607182418800017408 = some (fl (c + 1)) := by
  have h := b53
  rw [one_fl, fl_add (by omega) (by omega) (by omega)]

end Rv
