/- A part of the proof: its texts in a row: Seal, Chain. Each text's own remark stands at its head. -/
import Derived.Test.YtcmndglhileeoaaGreatQBits
import Derived.Test.YtcmndglhileeoaaGreatQFloat
import Derived.Deep.RegionWith
import Derived.Deep.RegionHeld3
/- The walks of package seal. No conditions but on the ranges of numbers, and that a slice is read. -/
namespace Go.Proofs.YtcmndglhileeoaaGreat
open Go.RowKit

abbrev sealV (s : Rv.Seal) : Value := .agg #[.int .i64 s.re, .int .i64 s.im]

theorem number_seal (a b : Int) (w : World) :
    Calls Tryz.prog 75 #[.agg #[.int .i64 a, .int .i64 b]] w fun e w' => e = .returned (.complex .f64 (Rv.fl a) (Rv.fl b)) ∧ Below w.heap.size w w' := by
  go_enter Tryz.func75, Tryz.ntmps75
  go_wp2
  go_ret
  exact ⟨rfl, (Below.refl _ _).alloc (Nat.le_refl _) _⟩

theorem tmod_neg (n : Int) (h : n < 0) : n.tmod 16777199 = -((-n) % 16777199) := by
  rw [← Int.neg_neg n, Int.neg_tmod, Int.tmod_eq_emod_of_nonneg (by omega)]; omega

theorem part_any (n : Int) (w : World) (h : n.natAbs < 2 ^ 53) :
    Calls Tryz.prog 114 #[.float .f64 (Rv.fl n)] w fun e w' => e = .returned (.int .i64 (n % 16777199)) ∧ w = w' := by
  have hc : ∀ w, (convert 162 3 (.float .f64 (Rv.fl n))).run Tryz.prog w = .ok (.int .i64 n) w := fun w =>
    run_convert_float_int w _ _ _ _ _ _ (by rw [Tryz.underlying162]; rfl) Tryz.underlying3 (Rv.fl_int h)
  have h' : n.natAbs < 9007199254740992 := by have : (2 : Nat) ^ 53 = 9007199254740992 := by decide
                                              rw [this] at h; exact h
  have b1 : -9007199254740992 < n := by omega
  have b2 : n < 9007199254740992 := by omega
  clear h h'
  by_cases h0 : 0 ≤ n
  · have hm : Hid ((n % 16777199 + 16777199) % 16777199 = n % 16777199) := Lib.hid (by omega)
    go_enter Tryz.func114, Tryz.ntmps114
    go_wp2
    go_ret
    exact ⟨ret_int hm.out, rfl⟩
  · have ht := tmod_neg n (by omega)
    have hm : Hid ((-((-n) % 16777199) + 16777199) % 16777199 = n % 16777199) := Lib.hid (by omega)
    have h1 : n < 0 := by omega
    clear h0
    go_enter Tryz.func114, Tryz.ntmps114
    go_wp2
    go_ret
    exact ⟨ret_int hm.out, rfl⟩

theorem seal_seal (a b : Int) (w : World) (ha : a.natAbs < 2 ^ 53) (hb : b.natAbs < 2 ^ 53) :
    Calls Tryz.prog 76 #[.complex .f64 (Rv.fl a) (Rv.fl b)] w fun e w' => e = .returned (sealV ⟨a % 16777199, b % 16777199⟩) ∧ Below w.heap.size w w' := by
  have Ha := Lib.hid ha
  have Hb := Lib.hid hb
  clear ha hb
  go_enter Tryz.func76, Tryz.ntmps76
  go_wp2_with fail
  refine (part_any a _ Ha.out).mono ?_
  rintro e w' ⟨rfl, rfl⟩
  go_wp2_with fail
  refine (part_any b _ Hb.out).mono ?_
  rintro e w' ⟨rfl, rfl⟩
  go_wp2_with fail
  exact bodyPost_ret (v := .agg #[.int .i64 (a % 16777199), .int .i64 (b % 16777199)]) (by simp [results, Tryz.results76, go_sem]) rfl ⟨rfl, (Below.refl _ _).alloc (Nat.le_refl _) _⟩

theorem start_any (w : World) : Calls Tryz.prog 56 #[] w fun e w' => e = .returned (sealV Rv.Seal.start) ∧ Below w.heap.size w w' := by
  have h1 : 4607182418800017408 = Rv.fl 1 := by decide +kernel
  have h2 : 4611686018427387904 = Rv.fl 2 := by decide +kernel
  have H := Lib.hid (seal_seal 1 2)
  have H1 := Lib.hid h1
  have H2 := Lib.hid h2
  clear h1 h2
  go_enter Tryz.func56, Tryz.ntmps56
  go_wp2_with fail
  rw [H1.out, H2.out]
  refine (H.out _ (by decide) (by decide)).mono ?_
  rintro e w1 ⟨rfl, hb⟩
  obtain ⟨hc, hf⟩ := bcell hb
  have hz : w.heap.size + 1 ≤ w1.heap.size := by have := hb.size; simp at this; omega
  go_wp2_with fail
  exact bodyPost_ret (v := .agg #[.int .i64 1, .int .i64 2]) (by simp [results, Tryz.results56, go_sem, hc]) rfl ⟨rfl, 
    (((((Below.refl _ _).alloc (Nat.le_refl _) _).trans (hb.mono (by simp))).setCell (by simp) _).setCell (by simp) _)⟩

theorem w_any (w : World) : Calls Tryz.prog 77 #[] w fun e w' => e = .returned (.complex .f64 4679482798749253632 4689970232712757248) ∧ w = w' := by
  go_enter Tryz.func77, Tryz.ntmps77
  go_wp2
  go_ret
  exact ⟨rfl, rfl⟩

theorem right_yes (s : Rv.Seal) (w : World) (h0 : 0 ≤ s.re) (h1 : s.re < 16777199) (h2 : 0 ≤ s.im) (h3 : s.im < 16777199) :
    Calls Tryz.prog 74 #[.agg #[.int .i64 s.re, .int .i64 s.im]] w fun e w' => e = .returned (.bool true) ∧ Below w.heap.size w w' := by
  obtain ⟨a, b⟩ := s
  simp only at h0 h1 h2 h3
  go_enter Tryz.func74, Tryz.ntmps74
  go_wp2
  go_ret
  exact ⟨rfl, (Below.refl _ _).alloc (Nat.le_refl _) _⟩
theorem right_no (s : Rv.Seal) (w : World) (h : s.right = false) :
    Calls Tryz.prog 74 #[.agg #[.int .i64 s.re, .int .i64 s.im]] w fun e w' => e = .returned (.bool false) ∧ Below w.heap.size w w' := by
  obtain ⟨a, b⟩ := s
  by_cases h0 : 0 ≤ a
  · by_cases h1 : a < 16777199
    · by_cases h2 : 0 ≤ b
      · have h3 : ¬ b < 16777199 := by
          intro h3
          unfold Rv.Seal.right at h
          simp only [decide_eq_true h0, decide_eq_true h1, decide_eq_true h2, decide_eq_true h3] at h
          cases h
        have d3 : decide (b < 16777199) = false := decide_eq_false h3
        clear h h3
        go_enter Tryz.func74, Tryz.ntmps74
        go_wp2
        go_ret
        exact ⟨rfl, (Below.refl _ _).alloc (Nat.le_refl _) _⟩
      · have d3 : decide (0 ≤ b) = false := decide_eq_false h2
        clear h h2
        go_enter Tryz.func74, Tryz.ntmps74
        go_wp2
        go_ret
        exact ⟨rfl, (Below.refl _ _).alloc (Nat.le_refl _) _⟩
    · have d3 : decide (a < 16777199) = false := decide_eq_false h1
      clear h h1
      go_enter Tryz.func74, Tryz.ntmps74
      go_wp2
      go_ret
      exact ⟨rfl, (Below.refl _ _).alloc (Nat.le_refl _) _⟩
  · have d3 : decide (0 ≤ a) = false := decide_eq_false h0
    clear h h0
    go_enter Tryz.func74, Tryz.ntmps74
    go_wp2
    go_ret
    exact ⟨rfl, (Below.refl _ _).alloc (Nat.le_refl _) _⟩

theorem right_parts {s : Rv.Seal} (h : s.right = true) : 0 ≤ s.re ∧ s.re < 16777199 ∧ 0 ≤ s.im ∧ s.im < 16777199 := by
  unfold Rv.Seal.right at h
  simp only [Bool.and_eq_true, decide_eq_true_eq] at h
  exact ⟨h.1.1.1, h.1.1.2, h.1.2, h.2⟩
theorem right_of {s : Rv.Seal} (h : 0 ≤ s.re ∧ s.re < 16777199 ∧ 0 ≤ s.im ∧ s.im < 16777199) : s.right = true := by
  unfold Rv.Seal.right
  simp only [Bool.and_eq_true, decide_eq_true_eq]
  exact ⟨⟨⟨h.1, h.2.1⟩, h.2.2.1⟩, h.2.2.2⟩
theorem step_right (s : Rv.Seal) (c : UInt8) : (s.step c).right = true := right_of (by unfold Rv.Seal.step; simp only; omega)
theorem adds_right {s : Rv.Seal} (h : s.right = true) (xs : List UInt8) : (s.adds xs).right = true := by
  unfold Rv.Seal.adds
  induction xs generalizing s with
  | nil => exact h
  | cons c r ih => exact ih (step_right s c)

set_option maxHeartbeats 1000000 in
theorem add_any (s : Rv.Seal) (A : Option Addr) (xs : List UInt8) (c : Nat) (w : World) (hr : RdB w A xs) (hl : xs.length ≤ 140737488355328) (hs : s.right = true) :
    Calls Tryz.prog 37 #[.agg #[.int .i64 s.re, .int .i64 s.im], .slice A xs.length c] w fun e w' =>
      e = .returned (.tuple #[.agg #[.int .i64 (s.adds xs).re, .int .i64 (s.adds xs).im], .int .i64 0]) ∧ Below w.heap.size w w' := by
  obtain ⟨h0, h1, h2, h3⟩ := right_parts hs
  have Hs := Lib.hid hs
  have Hr := Lib.hid hr
  clear hs hr
  go_enter Tryz.func37, Tryz.ntmps37
  go_wp2_with fail
  refine (right_yes _ _ h0 h1 h2 h3).mono ?_
  rintro e w1 ⟨rfl, hb1⟩
  obtain ⟨hc1, hf1⟩ := bcell hb1
  have hz1 : w.heap.size + 2 ≤ w1.heap.size := by have := hb1.size; simp at this; omega
  go_wp2_with fail
  refine (number_seal _ _ _).mono ?_
  rintro e w2 ⟨rfl, hb2⟩
  go_wp2_with fail
  have HB : Below w.heap.size w w2 := by
    refine below_then (below_then (((Below.refl _ _).alloc (Nat.le_refl _) _).alloc (by simp) _) (by simp; omega) hb1) (by omega) hb2
  have hz2 : w.heap.size + 2 ≤ w2.heap.size := by have := hb2.size; omega
  have hcell : w2.cell? ⟨w.heap.size + 1, 0, none⟩ = some (.int .i64 0) ∧ w2.cell? ⟨w.heap.size + 1, 1, none⟩ = some (.int .i64 0) ∧
      w2.frozen? ⟨w.heap.size + 1, 0, none⟩ = false ∧ w2.frozen? ⟨w.heap.size + 1, 1, none⟩ = false := by
    obtain ⟨hc2, hf2⟩ := bcell hb2
    rw [hc2 _ _ (by omega), hc2 _ _ (by omega), hf2 _ _ (by omega), hf2 _ _ (by omega), hc1 _ _ (by simp), hc1 _ _ (by simp), hf1 _ _ (by simp), hf1 _ _ (by simp)]
    refine ⟨?_, ?_, ?_, ?_⟩ <;> go_simp
  have HC := Lib.hid hcell
  clear hcell hc1 hf1 hb1 hb2 hz1 h0 h1 h2 h3
  go_loopw [6, 17] (fun z i wr => ∃ (k : Nat) (t : Rv.Seal), k ≤ xs.length ∧ i = .int .i64 (k : Int) ∧ z = .complex .f64 (Rv.fl t.re) (Rv.fl t.im) ∧ Hid (t = s.adds (xs.take k)) ∧ Hid (t.right = true) ∧ Below (w.heap.size + 2) w2 wr) (fun _ i _ => xs.length - (intOf i).toNat)
  case atStart => exact ⟨0, s, by omega, rfl, rfl, Lib.hid rfl, Hs, Below.refl _ _⟩
  case round =>
    obtain ⟨k, t, hk, rfl, rfl, HT, HR, HBr⟩ := hrel
    obtain ⟨t0, t1, t2, t3⟩ := right_parts HR.out
    have hzr := HBr.size
    have hbw : Below w.heap.size w wr := HB.trans (HBr.mono (by omega))
    by_cases hlt : k < xs.length
    · obtain ⟨cb, hcb⟩ := some_at hlt
      obtain ⟨ad, rfl, hcell⟩ := (Hr.out.below hbw) _ _ hcb
      have hcl : (cb.toNat : Int) < 256 := by have := UInt8.toNat_lt cb; omega
      have HT' : Hid (t.step cb = s.adds (xs.take (k + 1))) := Lib.hid (by
        rw [List.take_succ_eq_append_getElem hlt, (List.getElem?_eq_some_iff.1 hcb).2]
        unfold Rv.Seal.adds
        rw [List.foldl_append, HT.out]
        rfl)
      have e1 : ∀ W, (binOp .mul 158 (.complex .f64 (Rv.fl t.re) (Rv.fl t.im)) (.complex .f64 4679482798749253632 4689970232712757248)).run Tryz.prog W = .ok (.complex .f64 (Rv.fl (t.re * 69069 - t.im * 362437)) (Rv.fl (t.re * 362437 + t.im * 69069))) W :=
        fun W => run_complex_mul W _ _ _ _ _ _ _ (Rv.mul_w t0 t1 t2 t3)
      have e2 : ∀ W, (binOp .add 162 (.float .f64 (Rv.fl (cb.toNat : Int))) (.float .f64 4607182418800017408)).run Tryz.prog W = .ok (.float .f64 (Rv.fl ((cb.toNat : Int) + 1))) W :=
        fun W => run_float_arith W _ _ _ _ _ _ (Rv.add_one (by omega) hcl)
      have e3 : ∀ W, (binOp .add 158 (.complex .f64 (Rv.fl (t.re * 69069 - t.im * 362437)) (Rv.fl (t.re * 362437 + t.im * 69069))) (.complex .f64 (Rv.fl ((cb.toNat : Int) + 1)) 0)).run Tryz.prog W = .ok (.complex .f64 (Rv.fl (t.re * 69069 - t.im * 362437 + ((cb.toNat : Int) + 1))) (Rv.fl (t.re * 362437 + t.im * 69069))) W :=
        fun W => run_complex_sum W _ (.inl rfl) _ _ _ _ _ _ _ _ (Rv.add_byte (by omega) (by omega) (by omega) hcl)
      have H5 : Hid ((t.re * 69069 - t.im * 362437 + ((cb.toNat : Int) + 1)).natAbs < 2 ^ 53 ∧ (t.re * 362437 + t.im * 69069).natAbs < 2 ^ 53) := Lib.hid (by rw [Rv.b53]; omega)
      clear hcb HT HR
      go_wp2_with fail
      refine (w_any _).mono ?_
      rintro e w' ⟨rfl, rfl⟩
      go_wp2_with fail
      refine (seal_seal _ _ _ H5.out.1 H5.out.2).mono ?_
      rintro e w3 ⟨rfl, hb3⟩
      go_wp2_with fail
      refine (number_seal _ _ _).mono ?_
      rintro e w4 ⟨rfl, hb4⟩
      go_wp2_with fail
      go_roundw
      case rel => exact ⟨k + 1, t.step cb, by omega, by go_num, rfl, HT', Lib.hid (step_right _ _), below_then (below_then HBr (by omega) hb3) (by have := hb3.size; omega) hb4⟩
      case measure => simp [intOf]; omega
    · have hke : k = xs.length := by omega
      have Hfin : Hid (s.adds xs = t) := Lib.hid (by rw [HT.out, hke, List.take_length])
      have H5 : Hid (t.re.natAbs < 2 ^ 53 ∧ t.im.natAbs < 2 ^ 53) := Lib.hid (by rw [Rv.b53]; omega)
      have E1 : Hid (t.re % 16777199 = t.re ∧ t.im % 16777199 = t.im) := Lib.hid (by omega)
      have hge : xs.length ≤ k := by omega
      obtain ⟨hcr, hfr⟩ := HC.out |> fun h => (⟨⟨(HBr.cell (p := ⟨w.heap.size + 1, 0, none⟩) (by simp)).trans h.1, (HBr.cell (p := ⟨w.heap.size + 1, 1, none⟩) (by simp)).trans h.2.1⟩,
        ⟨(HBr.frozen (p := ⟨w.heap.size + 1, 0, none⟩) (by simp)).trans h.2.2.1, (HBr.frozen (p := ⟨w.heap.size + 1, 1, none⟩) (by simp)).trans h.2.2.2⟩⟩ :
        (wr.cell? ⟨w.heap.size + 1, 0, none⟩ = some (.int .i64 0) ∧ wr.cell? ⟨w.heap.size + 1, 1, none⟩ = some (.int .i64 0)) ∧ (wr.frozen? ⟨w.heap.size + 1, 0, none⟩ = false ∧ wr.frozen? ⟨w.heap.size + 1, 1, none⟩ = false))
      clear hlt hke HT HR
      go_wp2_with fail
      refine (seal_seal _ _ _ H5.out.1 H5.out.2).mono ?_
      rintro e w3 ⟨rfl, hb3⟩
      obtain ⟨hc3, hf3⟩ := bcell hb3
      have hz3 : w.heap.size + 1 < wr.heap.size := by omega
      go_wp2_with fail
      rw [Hfin.out]
      exact bodyPost_ret (v := .tuple #[.agg #[.int .i64 t.re, .int .i64 t.im], .int .i64 0]) (by simp [results, Tryz.results37, go_sem, hc3, hcr, hz3, E1.out.1, E1.out.2]) rfl ⟨rfl,
        (((below_then hbw hbw.size hb3).setCell (by simp) _).setCell (by simp) _)⟩

theorem bytes_u8s {s : Rv.Seal} (h0 : 0 ≤ s.re) (h1 : s.re < 16777199) (h2 : 0 ≤ s.im) (h3 : s.im < 16777199) :
    [Value.int .u8 (s.re % 256), .int .u8 (s.re / 256 % 256), .int .u8 (s.re / 65536), .int .u8 (s.im % 256), .int .u8 (s.im / 256 % 256), .int .u8 (s.im / 65536)] = u8s s.bytes := by
  have key : ∀ n : Int, 0 ≤ n → n < 256 → ((UInt8.ofNat n.toNat).toNat : Int) = n := fun n a b => by simp; omega
  unfold Rv.Seal.bytes
  rw [if_pos (right_of ⟨h0, h1, h2, h3⟩)]
  simp only [Rv.b3, u8s, List.map_cons, List.map_nil, List.cons_append, List.nil_append]
  rw [key _ (by omega) (by omega), key _ (by omega) (by omega), key _ (by omega) (by omega), key _ (by omega) (by omega), key _ (by omega) (by omega), key _ (by omega) (by omega)]
  rw [show s.re / 65536 % 256 = s.re / 65536 by omega, show s.im / 65536 % 256 = s.im / 65536 by omega]

theorem bytes_any (s : Rv.Seal) (w : World) (hs : s.right = true) :
    Calls Tryz.prog 72 #[.agg #[.int .i64 s.re, .int .i64 s.im]] w fun e w' => ∃ v, e = .returned (.tuple #[v, .int .i64 0]) ∧ OwnB w' w.heap.size v s.bytes ∧ Below w.heap.size w w' := by
  obtain ⟨h0, h1, h2, h3⟩ := right_parts hs
  have Hs := Lib.hid hs
  clear hs
  go_enter Tryz.func72, Tryz.ntmps72
  go_wp2_with fail
  refine (right_yes _ _ h0 h1 h2 h3).mono ?_
  rintro e w1 ⟨rfl, hb1⟩
  obtain ⟨hc1, hf1⟩ := bcell hb1
  have hz1 : w.heap.size + 1 ≤ w1.heap.size := by have := hb1.size; simp at this; omega
  go_wp2_with fail
  go_ret2
  have HO : OwnV (w1.alloc (.cells #[.int .u8 (s.re % 256), .int .u8 (s.re / 256 % 256), .int .u8 (s.re / 65536), .int .u8 (s.im % 256), .int .u8 (s.im / 256 % 256), .int .u8 (s.im / 65536)] 5)) w.heap.size 5
      (.slice (some ⟨w1.heap.size, 0, none⟩) 6 6) (u8s s.bytes) := own_lit (bytes_u8s h0 h1 h2 h3) (by rw [← bytes_u8s h0 h1 h2 h3]; rfl) (by omega) (by omega)
  exact ⟨_, rfl, HO.toB, below_trans ((Below.refl _ _).alloc (Nat.le_refl _) _) (hb1.alloc hb1.size _)⟩

theorem read_parts {xs : List UInt8} {i : Nat} (h : i + 6 ≤ xs.length) : ∃ a b c d e f r, xs.drop i = a :: b :: c :: d :: e :: f :: r ∧ xs[i]? = some a ∧ xs[i + 1]? = some b ∧ xs[i + 2]? = some c ∧ xs[i + 3]? = some d ∧ xs[i + 4]? = some e ∧ xs[i + 5]? = some f := by
  obtain ⟨a, ha⟩ := some_at (show i < xs.length by omega)
  obtain ⟨b, hb⟩ := some_at (show i + 1 < xs.length by omega)
  obtain ⟨c, hc⟩ := some_at (show i + 2 < xs.length by omega)
  obtain ⟨d, hd⟩ := some_at (show i + 3 < xs.length by omega)
  obtain ⟨e, he⟩ := some_at (show i + 4 < xs.length by omega)
  obtain ⟨f, hf⟩ := some_at (show i + 5 < xs.length by omega)
  exact ⟨a, b, c, d, e, f, xs.drop (i + 5 + 1), by rw [drop_cons_of ha, drop_cons_of hb, drop_cons_of hc, drop_cons_of hd, drop_cons_of he, drop_cons_of hf], ha, hb, hc, hd, he, hf⟩

theorem or_i64_nat (a b : Nat) (ha : a < 4294967296) (hb : b < 4294967296) : bits .or .i64 (a : Int) (b : Int) = ((a ||| b : Nat) : Int) := by
  have hx : a ||| b < 2 ^ 32 := Nat.or_lt_two_pow (by omega) (by omega)
  have h1 : (BitVec.ofInt 64 (a : Int)).toNat = a := by
    rw [BitVec.ofInt_natCast, BitVec.toNat_ofNat]; exact Nat.mod_eq_of_lt (by omega)
  have h2 : (BitVec.ofInt 64 (b : Int)).toNat = b := by
    rw [BitVec.ofInt_natCast, BitVec.toNat_ofNat]; exact Nat.mod_eq_of_lt (by omega)
  show IntKind.i64.wrap ((BitVec.ofInt 64 (a : Int) ||| BitVec.ofInt 64 (b : Int)).toNat : Int) = _
  rw [BitVec.toNat_or, h1, h2]
  simp [IntKind.wrap, IntKind.bits, IntKind.signed]
  omega

theorem or3 (a b c : UInt8) : bits BinOp.or IntKind.i64 (bits BinOp.or IntKind.i64 (wrap64 (a.toNat : Int)) (wrap64 (wrap64 (b.toNat : Int) * 256))) (wrap64 (wrap64 (c.toNat : Int) * 65536)) = Rv.n3 a b c := by
  have ha := a.toNat_lt
  have hb := b.toNat_lt
  have hc := c.toNat_lt
  have e1 : wrap64 (a.toNat : Int) = (a.toNat : Int) := by unfold wrap64; omega
  have e2 : wrap64 (wrap64 (b.toNat : Int) * 256) = ((b.toNat * 256 : Nat) : Int) := by unfold wrap64; omega
  have e3 : wrap64 (wrap64 (c.toNat : Int) * 65536) = ((c.toNat * 65536 : Nat) : Int) := by unfold wrap64; omega
  have o1 : a.toNat ||| b.toNat * 256 = a.toNat + b.toNat * 256 := by
    have := Nat.shiftLeft_add_eq_or_of_lt (b := a.toNat) (i := 8) (by omega) b.toNat
    rw [Nat.shiftLeft_eq] at this
    rw [Nat.or_comm, ← this]; omega
  have o2 : (a.toNat + b.toNat * 256) ||| c.toNat * 65536 = a.toNat + b.toNat * 256 + c.toNat * 65536 := by
    have := Nat.shiftLeft_add_eq_or_of_lt (b := a.toNat + b.toNat * 256) (i := 16) (by omega) c.toNat
    rw [Nat.shiftLeft_eq] at this
    rw [Nat.or_comm, ← this]; omega
  rw [e1, e2, e3, or_i64_nat _ _ (by omega) (by omega), o1, or_i64_nat _ _ (by omega) (by omega), o2]
  unfold Rv.n3
  omega

theorem sread_short {l : List UInt8} (h : l.length < 6) : Rv.Seal.read l = .error 10 := by
  rcases l with _ | ⟨a, l⟩
  · rfl
  rcases l with _ | ⟨b, l⟩
  · rfl
  rcases l with _ | ⟨c, l⟩
  · rfl
  rcases l with _ | ⟨d, l⟩
  · rfl
  rcases l with _ | ⟨e, l⟩
  · rfl
  rcases l with _ | ⟨f, l⟩
  · rfl
  simp only [List.length_cons] at h
  omega

def sealRes (at_ : Nat) : Except Int Rv.Seal → Ending
  | .ok s => .returned (.tuple #[.agg #[.int .i64 s.re, .int .i64 s.im], .int .i64 ((at_ : Int) + 6), .int .i64 0])
  | .error e => .returned (.tuple #[.agg #[.int .i64 0, .int .i64 0], .int .i64 0, .int .i64 e])

set_option maxHeartbeats 2000000 in
set_option maxRecDepth 100000 in
theorem sread_any (A : Option Addr) (xs : List UInt8) (c at_ : Nat) (w : World) (hr : RdB w A xs) (hl : xs.length ≤ 140737488355328) (hc : xs.length ≤ c) (ha : at_ ≤ xs.length) :
    Calls Tryz.prog 55 #[.slice A xs.length c, .int .i64 (at_ : Int)] w fun e w' => e = sealRes at_ (Rv.Seal.read (xs.drop at_)) ∧ Below w.heap.size w w' := by
  have g1 : decide ((at_ : Int) < 0) = false := by simp
  have g2 : decide (xs.length < at_) = false := by simp; omega
  by_cases h6 : at_ + 6 ≤ xs.length
  · obtain ⟨b0, b1, b2, b3, b4, b5, r, hd, h0, h1, h2, h3, h4, h5⟩ := read_parts h6
    obtain ⟨ad, rfl, k0⟩ := hr _ _ h0
    obtain ⟨_, e1, k1⟩ := hr _ _ h1
    cases e1
    obtain ⟨_, e1, k2⟩ := hr _ _ h2
    cases e1
    obtain ⟨_, e1, k3⟩ := hr _ _ h3
    cases e1
    obtain ⟨_, e1, k4⟩ := hr _ _ h4
    cases e1
    obtain ⟨_, e1, k5⟩ := hr _ _ h5
    cases e1
    rw [← add_add] at k1 k2 k3 k4 k5
    replace k1 : w.cell? ⟨(ad.add at_).block, (ad.add at_).off + 1, none⟩ = some (.int .u8 (b1.toNat : Int)) := k1
    replace k2 : w.cell? ⟨(ad.add at_).block, (ad.add at_).off + 2, none⟩ = some (.int .u8 (b2.toNat : Int)) := k2
    replace k3 : w.cell? ⟨(ad.add at_).block, (ad.add at_).off + 3, none⟩ = some (.int .u8 (b3.toNat : Int)) := k3
    replace k4 : w.cell? ⟨(ad.add at_).block, (ad.add at_).off + 4, none⟩ = some (.int .u8 (b4.toNat : Int)) := k4
    replace k5 : w.cell? ⟨(ad.add at_).block, (ad.add at_).off + 5, none⟩ = some (.int .u8 (b5.toNat : Int)) := k5
    have Hd := Lib.hid hd
    clear hd hr h0 h1 h2 h3 h4 h5
    have hat : ¬ c = at_ := by omega
    have hln : at_ + 6 - at_ = 6 := by omega
    have g3 : decide ((xs.length : Int) - (at_ : Int) < 6) = false := by simp; omega
    go_enter Tryz.func55, Tryz.ntmps55
    go_wp2_with fail
    go_region_held3 (fun w' => w'.cell? (ad.add at_) = some (.int .u8 (b0.toNat : Int)) ∧ w'.cell? ⟨(ad.add at_).block, (ad.add at_).off + 1, none⟩ = some (.int .u8 (b1.toNat : Int)) ∧ w'.cell? ⟨(ad.add at_).block, (ad.add at_).off + 2, none⟩ = some (.int .u8 (b2.toNat : Int)) ∧
      w'.cell? ⟨(ad.add at_).block, (ad.add at_).off + 3, none⟩ = some (.int .u8 (b3.toNat : Int)) ∧ w'.cell? ⟨(ad.add at_).block, (ad.add at_).off + 4, none⟩ = some (.int .u8 (b4.toNat : Int)) ∧ w'.cell? ⟨(ad.add at_).block, (ad.add at_).off + 5, none⟩ = some (.int .u8 (b5.toNat : Int)))
      (first | go_keep) (first | fail)
    have q1 := or3 b0 b1 b2
    have q2 := or3 b3 b4 b5
    obtain ⟨v1, hv1⟩ : ∃ v, Rv.n3 b0 b1 b2 = v := ⟨_, rfl⟩
    obtain ⟨v2, hv2⟩ : ∃ v, Rv.n3 b3 b4 b5 = v := ⟨_, rfl⟩
    rw [hv1] at q1
    rw [hv2] at q2
    have Hs : Hid (Rv.Seal.read (xs.drop at_) = if (Rv.Seal.mk v1 v2).right then .ok ⟨v1, v2⟩ else .error 20) := Lib.hid (by rw [Hd.out, Rv.Seal.read, hv1, hv2])
    clear hv1 hv2 hat hln
    go_wp2_with fail
    by_cases hR : (Rv.Seal.mk v1 v2).right = true
    · obtain ⟨r0, r1, r2, r3⟩ := right_parts hR
      refine (right_yes ⟨v1, v2⟩ _ r0 r1 r2 r3).mono ?_
      rintro e w1 ⟨rfl, hb1⟩
      have c0 : w1.cell? ⟨w.heap.size, 0, none⟩ = some (.int .i64 0) := cell_below hb1 (by go_simp)
      have c1 : w1.cell? ⟨w.heap.size, 1, none⟩ = some (.int .i64 0) := cell_below hb1 (by go_simp)
      have c2 : w1.cell? ⟨w.heap.size + 1, 0, none⟩ = some (.int .i64 v1) := cell_below hb1 (by go_simp)
      have c3 : w1.cell? ⟨w.heap.size + 1, 1, none⟩ = some (.int .i64 v2) := cell_below hb1 (by go_simp)
      have f0 : w1.frozen? ⟨w.heap.size, 0, none⟩ = false := (hb1.frozen (by simp; omega)).trans (by go_simp)
      have f1 : w1.frozen? ⟨w.heap.size, 1, none⟩ = false := (hb1.frozen (by simp; omega)).trans (by go_simp)
      have hz1 : w.heap.size + 2 ≤ w1.heap.size := by have := hb1.size; simp at this; omega
      go_wp2_with fail
      rw [Hs.out, if_pos hR]
      exact bodyPost_ret (v := .tuple #[.agg #[.int .i64 v1, .int .i64 v2], .int .i64 ((at_ : Int) + 6), .int .i64 0]) (by simp [results, Tryz.results55, go_sem, c0, c1]) rfl ⟨rfl,
        ((((((Below.refl _ _).alloc (Nat.le_refl _) _).alloc (by simp) _).drew.trans (hb1.mono (by simp; omega))).setCell (by simp) _).setCell (by simp) _)⟩
    · have hR' : (Rv.Seal.mk v1 v2).right = false := by simpa using hR
      refine (right_no ⟨v1, v2⟩ _ hR').mono ?_
      rintro e w1 ⟨rfl, hb1⟩
      have c0 : w1.cell? ⟨w.heap.size, 0, none⟩ = some (.int .i64 0) := cell_below hb1 (by go_simp)
      have c1 : w1.cell? ⟨w.heap.size, 1, none⟩ = some (.int .i64 0) := cell_below hb1 (by go_simp)
      have c2 : w1.cell? ⟨w.heap.size + 1, 0, none⟩ = some (.int .i64 v1) := cell_below hb1 (by go_simp)
      have c3 : w1.cell? ⟨w.heap.size + 1, 1, none⟩ = some (.int .i64 v2) := cell_below hb1 (by go_simp)
      have f0 : w1.frozen? ⟨w.heap.size, 0, none⟩ = false := (hb1.frozen (by simp; omega)).trans (by go_simp)
      have f1 : w1.frozen? ⟨w.heap.size, 1, none⟩ = false := (hb1.frozen (by simp; omega)).trans (by go_simp)
      have hz1 : w.heap.size + 2 ≤ w1.heap.size := by have := hb1.size; simp at this; omega
      go_wp2_with fail
      rw [Hs.out, if_neg hR]
      exact bodyPost_ret (v := .tuple #[.agg #[.int .i64 0, .int .i64 0], .int .i64 0, .int .i64 20]) (by simp [results, Tryz.results55, go_sem, c0, c1]) rfl ⟨rfl,
        ((((((Below.refl _ _).alloc (Nat.le_refl _) _).alloc (by simp) _).drew.trans (hb1.mono (by simp; omega))).setCell (by simp) _).setCell (by simp) _)⟩
  · have g3 : decide ((xs.length : Int) - (at_ : Int) < 6) = true := by simp; omega
    have Hs : Hid (Rv.Seal.read (xs.drop at_) = .error 10) := Lib.hid (sread_short (by simp; omega))
    clear h6
    go_enter Tryz.func55, Tryz.ntmps55
    go_wp2_with fail
    rw [Hs.out]
    exact bodyPost_ret (v := .tuple #[.agg #[.int .i64 0, .int .i64 0], .int .i64 0, .int .i64 10]) (by simp [results, Tryz.results55, go_sem]) rfl ⟨rfl, (Below.refl _ _).alloc (Nat.le_refl _) _⟩
end Go.Proofs.YtcmndglhileeoaaGreat

/- The walks of package chain. Conditions: the link may be; the segment is no longer than a tape. -/
namespace Go.Proofs.YtcmndglhileeoaaGreat
open Go.RowKit

abbrev linkV (l : Rv.Link) : Value := .agg #[.int .i64 l.number, .int .i64 l.bytes, .int .i64 l.sl.re, .int .i64 l.sl.im]

set_option maxHeartbeats 400000 in
theorem first_any (w : World) : Calls Tryz.prog 34 #[] w fun e w' => e = .returned (.agg #[.int .i64 0, .int .i64 0, .int .i64 1, .int .i64 2]) ∧ Below w.heap.size w w' := by
  go_enter Tryz.func34, Tryz.ntmps34
  go_wp2_with fail
  refine (start_any _).mono ?_
  rintro e w1 ⟨rfl, hb⟩
  obtain ⟨hc, hf, hlz, hnz, hmz, hz⟩ := bcell2 hb (w.heap.size + 1) (by simp)
  go_wp2_with fail
  exact bodyPost_ret (v := .agg #[.int .i64 0, .int .i64 0, .int .i64 1, .int .i64 2]) (by simp [results, Tryz.results34, go_sem, hc, Rv.Seal.start]) rfl ⟨rfl,
    (((((((Below.refl _ _).alloc (Nat.le_refl _) _).trans (hb.mono (by simp))).setCell (by simp) _).setCell (by simp) _).setCell (by simp) _).setCell (by simp) _)⟩

theorem may_parts {l : Rv.Link} (h : l.may = true) : 0 ≤ l.number ∧ l.number ≤ 10000 ∧ 0 ≤ l.bytes ∧ l.bytes ≤ 4194304 ∧ l.sl.right = true := by
  unfold Rv.Link.may at h
  simp only [Bool.and_eq_true, decide_eq_true_eq] at h
  exact ⟨h.1.1.1.1, h.1.1.1.2, h.1.1.2, h.1.2, h.2⟩

set_option maxHeartbeats 400000 in
theorem lmay_yes (l : Rv.Link) (w : World) (h : l.may = true) :
    Calls Tryz.prog 92 #[.agg #[.int .i64 l.number, .int .i64 l.bytes, .int .i64 l.sl.re, .int .i64 l.sl.im]] w fun e w' => e = .returned (.bool true) ∧ Below w.heap.size w w' := by
  obtain ⟨h0, h1, h2, h3, h4⟩ := may_parts h
  obtain ⟨g0, g1, g2, g3⟩ := right_parts h4
  obtain ⟨n, b, ⟨x, y⟩⟩ := l
  simp only at h0 h1 h2 h3 g0 g1 g2 g3
  clear h h4
  go_enter Tryz.func92, Tryz.ntmps92
  go_wp2_with fail
  refine (right_yes ⟨x, y⟩ _ g0 g1 g2 g3).mono ?_
  rintro e w1 ⟨rfl, hb⟩
  go_wp2_with fail
  go_ret
  exact ⟨rfl, (((Below.refl _ _).alloc (Nat.le_refl _) _).trans (hb.mono (by simp)))⟩

set_option maxHeartbeats 1000000 in
set_option maxRecDepth 100000 in
theorem next_any (l : Rv.Link) (A : Option Addr) (xs : List UInt8) (c : Nat) (w : World) (hr : RdB w A xs) (hl : xs.length ≤ 4194304) (h : l.may = true) :
    Calls Tryz.prog 46 #[.agg #[.int .i64 l.number, .int .i64 l.bytes, .int .i64 l.sl.re, .int .i64 l.sl.im], .slice A xs.length c] w fun e w' =>
      e = .returned (.tuple #[linkV (l.next xs).1, .int .i64 (l.next xs).2]) ∧ Below w.heap.size w w' := by
  obtain ⟨h0, h1, h2, h3, h4⟩ := may_parts h
  have hd : decide ((4194304 : Int) < (xs.length : Int)) = false := by simp; omega
  have H := Lib.hid h
  have Hr := Lib.hid hr
  have H4 := Lib.hid h4
  clear h hr h4
  by_cases hn : l.number = 10000
  · have Hnx : Hid (l.next xs = (⟨0, 0, ⟨0, 0⟩⟩, 3)) := Lib.hid (by unfold Rv.Link.next; rw [if_neg (by rw [H.out]; simp), if_neg (by omega), if_pos hn]; rfl)
    have hn' : (l.number == 10000) = true := by rw [beq_iff_eq]; exact hn
    clear hn
    go_enter Tryz.func46, Tryz.ntmps46
    go_wp2_with fail
    refine (lmay_yes l _ H.out).mono ?_
    rintro e w1 ⟨rfl, hb1⟩
    obtain ⟨hc1, hf1, hlz1, hnz1, hmz1, hz1⟩ := bcell2 hb1 (w.heap.size + 2) (by simp)
    go_wp2_with fail
    rw [Hnx.out]
    exact bodyPost_ret (v := .tuple #[.agg #[.int .i64 0, .int .i64 0, .int .i64 0, .int .i64 0], .int .i64 3]) (by simp [results, Tryz.results46, go_sem, hc1]) rfl ⟨rfl,
      (((((((((Below.refl _ _).alloc (Nat.le_refl _) _).alloc (by simp) _).trans (hb1.mono (by simp; omega))).setCell (by simp) _).setCell (by simp) _).setCell (by simp) _).setCell (by simp) _))⟩
  · have Hnx : Hid (l.next xs = (⟨l.number + 1, xs.length, l.sl.adds xs⟩, 0)) := Lib.hid (by unfold Rv.Link.next; rw [if_neg (by rw [H.out]; simp), if_neg (by omega), if_neg hn])
    have h1' : l.number ≤ 9999 := by omega
    have hn' : (l.number == 10000) = false := by rw [beq_eq_false_iff_ne]; exact hn
    go_enter Tryz.func46, Tryz.ntmps46
    go_wp2_with fail
    refine (lmay_yes l _ H.out).mono ?_
    rintro e w1 ⟨rfl, hb1⟩
    obtain ⟨hc1, hf1, hlz1, hnz1, hmz1, hz1⟩ := bcell2 hb1 (w.heap.size + 2) (by simp)
    have HB1 : Below w.heap.size w w1 := (((Below.refl _ _).alloc (Nat.le_refl _) _).alloc (by simp) _).trans (hb1.mono (by simp; omega))
    go_wp2_with fail
    refine (add_any l.sl A xs c _ (Hr.out.below HB1) (by omega) H4.out).mono ?_
    rintro e w2 ⟨rfl, hb2⟩
    obtain ⟨hc2, hf2, hlz2, hnz2, hmz2, hz2⟩ := bcell2 hb2 (w.heap.size + 2) hz1
    have HB2 := below_trans HB1 hb2
    go_wp2_with fail
    rw [Hnx.out]
    exact bodyPost_ret (v := .tuple #[.agg #[.int .i64 (l.number + 1), .int .i64 xs.length, .int .i64 (l.sl.adds xs).re, .int .i64 (l.sl.adds xs).im], .int .i64 0]) (by simp [results, Tryz.results46, go_sem, hc2, hc1, hlz2]) rfl ⟨rfl,
      by repeat (first | exact HB2 | refine Below.setCell ?_ (by simp) _ | refine Below.alloc ?_ (by simp; omega) _)⟩

set_option maxHeartbeats 1000000 in
set_option maxRecDepth 100000 in
theorem lbytes_any (l : Rv.Link) (w : World) (h : l.may = true) :
    Calls Tryz.prog 48 #[.agg #[.int .i64 l.number, .int .i64 l.bytes, .int .i64 l.sl.re, .int .i64 l.sl.im]] w fun e w' =>
      ∃ v, e = .returned (.tuple #[v, .int .i64 0]) ∧ OwnB w' w.heap.size v l.enc ∧ Below w.heap.size w w' := by
  obtain ⟨h0, h1, h2, h3, h4⟩ := may_parts h
  have H := Lib.hid h
  have H4 := Lib.hid h4
  have HE : Hid (l.enc = Rv.numB l.number ++ Rv.numB l.bytes ++ l.sl.bytes) := Lib.hid (by unfold Rv.Link.enc; rw [if_pos h])
  have HM : Hid (Rv.mayN l.number = true ∧ Rv.mayN l.bytes = true) := Lib.hid ⟨mayN_yes h0 (by omega), mayN_yes h2 (by omega)⟩
  have hb1 := Rv.numB_len l.number
  have hb2 := Rv.numB_len l.bytes
  have hb3 := Rv.Seal.bytes_len l.sl
  clear h h4
  go_enter Tryz.func48, Tryz.ntmps48
  go_wp2_with fail
  refine (lmay_yes l _ H.out).mono ?_
  rintro e w1 ⟨rfl, hb1⟩
  obtain ⟨hc1, hf1, hlz1, hnz1, hmz1, hz1⟩ := bcell2 hb1 (w.heap.size + 1) (by simp)
  have HB1 : Below w.heap.size w w1 := ((Below.refl _ _).alloc (Nat.le_refl _) _).trans (hb1.mono (by simp))
  go_wp2_with fail
  refine (number_yes _ _ h0 (by omega)).mono ?_
  rintro e w2 ⟨v2, rfl, HO2, hb2⟩
  obtain ⟨hc2, hf2, hlz2, hnz2, hmz2, hz2⟩ := bcell2 hb2 (w.heap.size + 1) hz1
  have HB2 := below_trans HB1 hb2
  go_wp2_with fail
  refine (number_yes _ _ h2 (by omega)).mono ?_
  rintro e w3 ⟨v3, rfl, HO3, hb3⟩
  obtain ⟨hc3, hf3, hlz3, hnz3, hmz3, hz3⟩ := bcell2 hb3 (w.heap.size + 1) hz2
  have HB3 := below_trans HB2 hb3
  go_wp2_with fail
  refine (bytes_any l.sl _ H4.out).mono ?_
  rintro e w4 ⟨v4, rfl, HO4, hb4⟩
  have HB4 := below_trans HB3 hb4
  have HOa : OwnB w4 w.heap.size v2 (Rv.numB l.number) := (((HO2.below hb3).below hb4).mono HB1.size)
  have HOb := HO3.below hb4
  have hlt2 := HO2.lt
  have hs3 := hb3.size
  obtain ⟨A3, c3, rfl, hlc3, hm3, HR3⟩ := HOb.shape
  obtain ⟨A4, c4, rfl, hlc4, hm4, HR4⟩ := HO4.shape
  have hnc3 := HOb.nilcap
  have hnc4 := HO4.nilcap
  have HNC3 := Lib.hid hnc3
  have HNC4 := Lib.hid hnc4
  clear hnc3 hnc4
  go_wp2_with (first
    | (at_builtin; refine appb_src (w0 := w) w.heap.size rfl _ _ 22 rfl Tryz.underlying22 infoB _ (Rv.numB l.number) (Rv.numB l.bytes) A3 c3 (by rfl) (by rfl) HOa HR3 HB4 HB4.size (by omega) HNC3.out ?_; intro v5 w5 HO5 HB5 hg5 _; have HR4' := (HO4.grown hg5 (fun k hk => by have := hlt2 k hk; omega)); have HR5 := HR4'.shape; clear HR4)
    | (at_builtin; refine appb_src (w0 := w) w.heap.size rfl _ _ 22 rfl Tryz.underlying22 infoB _ (Rv.numB l.number ++ Rv.numB l.bytes) l.sl.bytes A4 c4 (by rfl) (by rfl) HO5 (by obtain ⟨A', c', he, _, _, h⟩ := HR5; cases he; exact h) HB5 HB5.size (by simp; omega) HNC4.out ?_; intro v6 w6 HO6 HB6 hg6 _))
  go_ret2
  exact ⟨_, rfl, by rw [HE.out]; exact HO6, HB6⟩
end Go.Proofs.YtcmndglhileeoaaGreat
