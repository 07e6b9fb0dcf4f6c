/- The walk of the law SalvageTorn. -/
import Derived.Test.YtcmndglhileeoaaGreatQTorn1
import Derived.Test.YtcmndglhileeoaaGreatQMoreToLongest
set_option linter.unusedSimpArgs false
set_option linter.unusedVariables false
namespace Go.Proofs.YtcmndglhileeoaaGreat
open Go.RowKit
open Rv (HP Sat Same pt allOf sat_all RdIn row own Lcl)

/-- The place behind the last end that is not beyond n, among the first j. -/
def lastLe (es : List Nat) (n : Nat) : Nat → Nat
  | 0 => 0
  | j + 1 => if es.getD j 0 ≤ n then j else lastLe es n j
theorem lastLe_lt (es : List Nat) (n : Nat) : ∀ j, 0 < j → lastLe es n j < j
  | 0, h => by omega
  | j + 1, _ => by
    unfold lastLe
    split
    · omega
    · rcases Nat.eq_zero_or_pos j with h | h
      · subst h; simp [lastLe]
      · have := lastLe_lt es n j h; omega
theorem lastLe_le (es : List Nat) (n : Nat) (h0 : es.getD 0 0 ≤ n) : ∀ j, es.getD (lastLe es n j) 0 ≤ n
  | 0 => h0
  | j + 1 => by
    unfold lastLe
    split
    · assumption
    · exact lastLe_le es n h0 j
theorem lastLe_gt (es : List Nat) (n : Nat) : ∀ j i, lastLe es n j < i → i < j → n < es.getD i 0
  | 0, i, _, h => by omega
  | j + 1, i, h1, h2 => by
    unfold lastLe at h1
    split at h1
    · omega
    · rename_i hc
      by_cases e : i = j
      · subst e; omega
      · exact lastLe_gt es n j i h1 (by omega)

theorem whead_w (w : World) (Q R : HP) (g : Nat) (m : Rv.Maker) (h : Sat w (wrtP Q g m * R)) :
    Calls Tryz.prog 13 #[.pointer (some ⟨g, 0, none⟩)] w fun e w' => ∃ B C, e = .returned (.slice B m.p.header.length C) ∧ Sat w' (bytesP (.slice B m.p.header.length C) m.p.header * (wrtP Q g m * R)) ∧ Same w w' := by
  obtain ⟨hA, hc, h⟩ := wrtP_open h
  obtain ⟨gc, gl, sA, sc, h⟩ := mkrP_open h
  refine (whead_any 69 w (ledP Q gl m.owed * (bytesP (.slice sA m.segment.length sc) m.segment * (coderP gc m.coder * R))) g gc gl m.records m.size m.p m.link (.slice sA m.segment.length sc) (.slice hA m.p.header.length hc) m.p.header (h.perm (by ac_rfl)) (by have := header_len m.p; omega)).mono ?_
  rintro e w' ⟨B, C, rfl, s, z⟩
  refine ⟨B, C, rfl, ?_, z⟩
  exact (wrtP_shut (hA := hA) (hc := hc) (mkrP_shut (gc := gc) (gl := gl) (sA := sA) (sc := sc) (s.perm (show bytesP (.slice B m.p.header.length C) m.p.header * (makBox 69 g m.p gc gl m.link (.slice sA m.segment.length sc) m.records m.size (.slice hA m.p.header.length hc) * (bytesP (.slice hA m.p.header.length hc) m.p.header * (ledP Q gl m.owed * (bytesP (.slice sA m.segment.length sc) m.segment * (coderP gc m.coder * R))))) =
    makBox 69 g m.p gc gl m.link (.slice sA m.segment.length sc) m.records m.size (.slice hA m.p.header.length hc) * (ledP Q gl m.owed * (bytesP (.slice sA m.segment.length sc) m.segment * (coderP gc m.coder * (bytesP (.slice hA m.p.header.length hc) m.p.header * (bytesP (.slice B m.p.header.length C) m.p.header * R))))) by ac_rfl)))).swap

def natI (n : Nat) : Value := .int .i64 (n : Int)
/-- At the head of a round. -/
def TornRel (F : HP) (w0 : World) (p : Rv.Pol) (l : List Rv.Rec) (g : Nat) (bv ev iv : Value) (wr : World) : Prop :=
  ∃ (m : Rv.Maker) (b : Rv.Bs) (es : List Nat) (i : Nat) (B : Option Addr) (C : Nat) (E : Option Addr) (K : Nat) (Q' : HP), i ≤ l.length ∧ bv = .slice B b.length C ∧ ev = .slice E es.length K ∧ iv = .int .i64 (i : Int) ∧ Wr p (l.take i) es m b ∧
    Sat wr (bytesP (.slice B b.length C) b * (row 3 (.slice E es.length K) (es.map natI) * (wrtP Q' g m * (Q' * F)))) ∧ Same w0 wr
theorem info_int8 : (Tryz.prog.info? 3).map (fun i => (i.zero, i.size, i.bytes)) = some (some (.int .i64 0), 1, 8) := by kernel_rfl

set_option maxHeartbeats 4000000 in
set_option maxRecDepth 100000 in
theorem storn_any (R : HP) (p : Rv.Pol) (A : Option Addr) (l : List Rv.Rec) (c : Nat) (cut : Int) (w : World) (hR : Sat w R) (hr : RdIn R A (recsV l)) (hc : l.length ≤ c) (hm : l.length ≤ 140737488355328) (hc0 : -9223372036854775808 ≤ cut) (hc1 : cut ≤ 9223372036854775807) :
    Calls Tryz.prog 4 #[.agg (polCells p), .slice A l.length c, .int .i64 cut] w fun e w' => e = .returned (.bool true) ∧ Sat w' R ∧ Same w w' := by
  have HRD := Lib.hid hr
  have S0 : Hid (Sat (w.alloc (.cells (polCells p) 33)) (plP w.heap.size p * R)) := Lib.hid (hR.alloc (.cells (polCells p) 33))
  have Z0 : Hid (Same w (w.alloc (.cells (polCells p) 33))) := Lib.hid (Same.of ((Kept.refl (fun _ => False) w).alloc _))
  clear hR hr
  go_enter Tryz.func4, Tryz.ntmps4
  go_upto_region 1 with (fail)
  generalize w.alloc (.cells (polCells p) 33) = w1 at *
  generalize w.heap.size = g3 at *
  go_wp2_with fail
  refine (awake_any _ w1 S0.out).mono ?_
  rintro e w2 ⟨rfl, s2, z2⟩
  have S2 := Lib.hid s2
  have Z2 := Lib.hid (Z0.out.then z2)
  have q2 := Lib.hid s2.heap
  clear s2 z2 S0 Z0
  go_wp2_with ((with_reducible refine at_slot 24 ?_); refine wpList_load_row rfl 33 (.tmp 3) rfl g3 (by rfl) 33 (polCells p) (0, 0) _ q2.out Tryz.underlying33 (by rfl) info_pol ?_)
  cases hok : p.ok with
  | false =>
    refine (tnew_bad p w2 hok).mono ?_
    rintro e w3 ⟨rfl, b3⟩
    have S3 := Lib.hid (S2.out.below b3)
    have Z3 := Lib.hid (Z2.out.then (Rv.Same.below b3))
    clear b3 S2 Z2 q2 hok
    go_wp2_with fail
    go_ret
    exact ⟨rfl, S3.out.right, Z3.out⟩
  | true =>
    have HOK := Lib.hid hok
    refine (tnew_ok _ p w2 S2.out hok).mono ?_
    rintro e w3 ⟨g, rfl, s3, z3⟩
    have Z3 := Lib.hid (Z2.out.then z3)
    have HH : Hid (Calls Tryz.prog 13 #[.pointer (some ⟨g, 0, none⟩)] w3 fun e w' => ∃ B C, e = .returned (.slice B p.header.length C) ∧ Sat w' (bytesP (.slice B p.header.length C) p.header * (wrtP 1 g (Rv.Maker.begun p) * (1 * (plP g3 p * R)))) ∧ Same w3 w') := Lib.hid (whead_w w3 1 _ g (Rv.Maker.begun p) s3)
    clear s3 z3 S2 Z2 q2 hok
    go_wp2_with fail
    refine HH.out.mono ?_
    rintro e w4 ⟨B, C, rfl, s4, z4⟩
    have hhl := header_len p
    have HREL : Hid (TornRel (plP g3 p * R) w p l g (.slice B p.header.length C) (.slice (some ⟨w4.heap.size, 0, none⟩) 1 1) (.int .i64 ((0 : Nat) : Int)) (w4.alloc (.cells #[.int .i64 (p.header.length : Int)] 3))) := Lib.hid
      ⟨_, p.header, [p.header.length], 0, B, C, some ⟨w4.heap.size, 0, none⟩, 1, 1, Nat.zero_le _, rfl, rfl, rfl, by rw [List.take_zero]; exact Wr.nil HOK.out,
        (Rv.Sat.to_row (vs := [natI p.header.length]) (s4.alloc (.cells #[.int .i64 (p.header.length : Int)] 3)) rfl (by simp [maxLen])).swap, (Z3.out.then z4).then (Same.of ((Kept.refl (fun _ => False) w4).alloc _))⟩
    clear s4 z4 HH Z3
    go_wp2_with fail
    go_loopw [10, 11, 12] (fun bv ev iv wr => TornRel (plP g3 p * R) w p l g bv ev iv wr) (fun _ _ iv _ => l.length - (intOf iv).toNat)
    case atStart => exact HREL.out
    case round =>
      obtain ⟨m, b, es, i, B1, C1, E, K, Q1, hile, rfl, rfl, rfl, hw, s5, z5⟩ := hrel
      obtain ⟨k0, k1, k2', k3, k4, k5, k6, kt, k7, k8⟩ := hw.inv
      have hel : es.length ≤ 10001 := by have := k1.ok.n1; omega
      have HW := Lib.hid hw
      have HM := Lib.hid k1.ok
      have S5 := Lib.hid s5
      have Z5 := Lib.hid z5
      clear hw s5 z5 HREL k0 k1 k2' k3 k4 k5 kt k7 k8
      by_cases hlt : i < l.length
      · obtain ⟨r, hri⟩ := some_at hlt
        have hcells : ∀ j u, (recCells r).toList[j]? = some u → ∃ ad, A = some ad ∧ wr.cell? (ad.add (i * 4 + j)) = some u := fun j u hu => HRD.out wr S5.out.right.right.right.right.right _ u (recsV_at hri j u hu)
        obtain ⟨ad, rfl, _⟩ := hcells 0 _ rfl
        have HC := Lib.hid (fun j u hu => by obtain ⟨ad', e, h⟩ := hcells j u hu; injection e with e; subst e; exact h : ∀ j u, (recCells r).toList[j]? = some u → wr.cell? (ad.add (i * 4 + j)) = some u)
        have HRI := Lib.hid hri
        have HP := Lib.hid (tput_any wr Q1 (bytesP (.slice B1 b.length C1) b * (row 3 (.slice E es.length K) (es.map natI) * (plP g3 p * R))) g m r HM.out (S5.out.perm (by ac_rfl)))
        clear hcells hri
        go_wp2_with ((with_reducible refine at_slot 55 ?_); refine wpList_load_cells rfl 44 (.tmp 54) rfl (ad.add (i * 4)) (by rfl) (recCells r) _ (fun j u hu => by rw [add_add]; exact HC.out j u hu) Tryz.underlying44 (by rfl) info_rec ?_)
        refine HP.out.mono ?_
        intro e w5 hq
        cases hp : m.put r with
        | error y =>
          rw [hp] at hq
          obtain ⟨rfl, Q2, x2, s7, z7⟩ := hq
          have hy := mput_code hp
          have e1 : (y != 0) = true := by simpa using hy
          have S7 := Lib.hid s7
          have Z7 := Lib.hid (Z5.out.then z7)
          clear s7 z7 hp hy HP S5 Z5 HC HRI HW HM
          go_wp2_with fail
          go_ret
          exact ⟨rfl, S7.out.right.right.right.right.right, Z7.out⟩
        | ok q =>
          obtain ⟨m', ps⟩ := q
          rw [hp] at hq
          obtain ⟨A2, k2, rfl, Q2, x2, s7, z7⟩ := hq
          have hps : ps.length ≤ 3 := (mput_ok HM.out hp).2.2.2.2.2
          have hw2 := Wr.snoc HW.out hp
          have hfl : b.length + ps.flatten.length ≤ 4194304 := by
            have h1 := hw2.inv.2.2.2.2.2.2.1
            rw [List.length_append] at h1
            exact h1
          have htk : l.take i ++ [r] = l.take (i + 1) := by
            obtain ⟨hk, he⟩ := List.getElem?_eq_some_iff.1 HRI.out
            rw [List.take_succ_eq_append_getElem hk, he]
          rw [htk] at hw2
          have HW2 := Lib.hid hw2
          have HPREL : Hid (PcsRel (piecesP (.slice A2 ps.length k2) ps * (row 3 (.slice E es.length K) (es.map natI) * (wrtP Q2 g m' * (Q2 * (plP g3 p * R))))) w b ps (.slice B1 b.length C1) (.int .i64 ((0 : Nat) : Int)) w5) := Lib.hid ⟨B1, C1, 0, Nat.zero_le _, rfl, by simp, by
            have h1 : Sat w5 (bytesP (.slice B1 b.length C1) b * (piecesP (.slice A2 ps.length k2) ps * (row 3 (.slice E es.length K) (es.map natI) * (wrtP Q2 g m' * (Q2 * (plP g3 p * R)))))) := s7.perm (by ac_rfl)
            simpa using h1, Z5.out.then z7⟩
          clear s7 z7 hw2 htk hp HP S5 Z5 HC HW HM
          go_wp2_with fail
          go_loopw [10, 15] (fun v jv wr2 => PcsRel (piecesP (.slice A2 ps.length k2) ps * (row 3 (.slice E es.length K) (es.map natI) * (wrtP Q2 g m' * (Q2 * (plP g3 p * R))))) w b ps v jv wr2) (fun _ jv _ => ps.length - (intOf jv).toNat)
          case atStart => exact HPREL.out
          case round =>
            obtain ⟨B3, c3, j, hj, rfl, rfl, s8, z8⟩ := hrel
            have S8 := Lib.hid s8
            have Z8 := Lib.hid z8
            clear s8 z8 HPREL
            have hfj := flat_take_le ps j
            obtain ⟨ys, hys⟩ : ∃ ys, b ++ (ps.take j).flatten = ys := ⟨_, rfl⟩
            have hyl : ys.length ≤ 4194304 := by rw [← hys, List.length_append]; omega
            rw [hys] at S8 ⊢
            by_cases hlt2 : j < ps.length
            · obtain ⟨pc, hb⟩ := some_at hlt2
              obtain ⟨vs, h1⟩ := piecesP_open (S8.out.swap)
              obtain ⟨u, hu, X, h2, h3⟩ := pcsP_at h1.right hb
              obtain ⟨Ab, cb, rfl, hb1, hb2, hb3⟩ := bytesP_shape h2
              have hbn := (bytesP_own h2).nilcap
              obtain ⟨A2', k2', e2, _, _, hrv⟩ := h1.row_own.shape
              have hvl := pcsP_length h1.right
              injection e2 with e3 e4 e5
              subst e3
              clear e4 e5
              obtain ⟨ad2, e6, hcell⟩ := hrv j _ hu
              subst e6
              obtain ⟨zs, hzs⟩ : ∃ zs, ys ++ pc = zs := ⟨_, rfl⟩
              have hzl : ys.length + pc.length = zs.length := by rw [← hzs, List.length_append]
              have hbl : pc.length ≤ 4194304 := by
                have h4 := flat_take_le ps (j + 1)
                rw [take_flat hb, List.length_append] at h4
                omega
              have HZ : Hid (zs = b ++ (ps.take (j + 1)).flatten) := Lib.hid (by rw [take_flat hb, ← List.append_assoc, hys, hzs])
              have HZS := Lib.hid hzs
              have HB3 := Lib.hid hb3
              have HBN := Lib.hid hbn
              clear h1 h2 h3 hrv hvl hu hb hb1 hb2 hb3 hbn hys hzs
              go_wp2_with (at_builtin; refine sapp rfl (.tmp 70) (.tmp 74) 22 rfl Tryz.underlying22 infoB (.slice B3 ys.length c3) ys pc Ab pc.length cb (by rfl) (by rfl) rfl S8.out HB3.out HBN.out zs.length hzl (by omega) ?_; intro B4 c4 w6 h5 z5; rw [HZS.out] at h5; have S9 := Lib.hid h5; have Z9 := Lib.hid (Z8.out.then z5); clear h5 z5)
              go_roundw
              case rel => exact ⟨B4, c4, j + 1, by omega, by go_num, by rw [← HZ.out], by rw [← HZ.out]; exact S9.out, Z9.out⟩
              case measure => simp [intOf]; omega
            · obtain rfl : j = ps.length := by omega
              have hall : b ++ ps.flatten = ys := by rw [← hys, List.take_length]
              have HALL := Lib.hid hall
              have SR : Hid (Sat wr (row 3 (.slice E es.length K) (es.map natI) * (bytesP (.slice B3 ys.length c3) ys * (wrtP Q2 g m' * (Q2 * (plP g3 p * R)))))) := Lib.hid ((S8.out.perm (show _ = piecesP (.slice A2 ps.length k2) ps * (row 3 (.slice E es.length K) (es.map natI) * (bytesP (.slice B3 ys.length c3) ys * (wrtP Q2 g m' * (Q2 * (plP g3 p * R))))) by ac_rfl)).right)
              clear hys hall S8
              go_wp2_with (at_builtin; refine sapp_one rfl (.tmp 76) (.tmp 79) 39 3 (.int .i64 0) 8 rfl Tryz.underlying39 info_int8 rfl (by omega) (.slice E es.length K) (es.map natI) (.int .i64 (ys.length : Int)) (by rfl) (by rfl) rfl SR.out (by simp; omega) (es.length + 1) (by simp) ?_; intro E2 K2 w6 h6 z6; have S9 := Lib.hid h6; have Z9 := Lib.hid (Z8.out.then z6); clear h6 z6)
              go_roundw
              case rel => exact ⟨m', ys, es ++ [ys.length], i + 1, B3, c3, E2, K2, Q2, by omega, rfl, by rw [List.length_append, List.length_singleton], by go_num, by rw [← HALL.out]; exact HW2.out, by
                rw [List.length_append, List.length_singleton, List.map_append]
                exact S9.out.swap, Z9.out⟩
              case measure => simp [intOf]; omega
      · obtain rfl : i = l.length := by omega
        rw [List.take_length] at HW
        obtain ⟨k0, k1, k2', k3, k4, k5, k6', kt, k7, k8⟩ := HW.out.inv
        obtain ⟨ge, cur, rfl, -, -, -, -, -, -, -, -⟩ := OwnV.row (Rv.Sat.row_own S5.out.swap) (by simp; omega)
        have HEC : Hid (∀ (wx : World) (X : HP), Sat wx (row 3 (.slice (some ⟨ge, 0, none⟩) es.length K) (es.map natI) * X) → ∀ (i e : Nat), es[i]? = some e → wx.cell? ⟨ge, i, none⟩ = some (.int .i64 (e : Int))) := Lib.hid (fun wx X h i e he => by
          obtain ⟨A', c', e1, _, _, hrv⟩ := h.row_own.shape
          injection e1 with e2 e3 e4
          subst e2
          obtain ⟨ad, e5, hcell⟩ := hrv i (natI e) (by rw [List.getElem?_map, he]; rfl)
          injection e5 with e5
          subst e5
          rw [add_off] at hcell
          exact hcell)
        obtain ⟨A', c', e1, hbc, hbm, _⟩ := bytesP_shape S5.out
        injection e1 with e2 e3 e4
        subst e4
        have hnil := (bytesP_own S5.out).nilcap
        have HNIL := Lib.hid hnil
        have H7 := Lib.hid k7
        have hbm' : C1 ≤ 9223372036854775807 := by unfold maxLen at hbm; omega
        have HL6 : Hid (es.length = l.length + 1) := Lib.hid k5
        have hel9 : 0 < es.length := by omega
        clear e2 e3 hnil k0 k1 k2' k3 k4 k5 kt k7 k8 HM hbm
        go_upto_if 82 with (fail)
        go_cut [2] (fun v wx => NonNeg v wx wr)
        case first =>
          by_cases h : cut < 0
          · have e1 : decide (cut < 0) = true := by simpa using h
            go_wp2_with fail
            go_meet
            case rel => exact ⟨_, by omega, by omega, rfl, rfl⟩
          · have e1 : decide (cut < 0) = false := by simpa using h
            go_wp2_with fail
            go_meet
            case rel => exact ⟨_, by omega, by omega, rfl, rfl⟩
        case rest =>
          rename World => w5
          obtain ⟨n1, hn0, hn1', rfl, rfl⟩ := hcut
          obtain ⟨n, hx, hxl⟩ := rem_nat (len := b.length) hn0
          go_upto_region 21 with (fail)
          rw [hx]
          have HX := Lib.hid hx
          clear hx hc0 hc1
          have hcI : (b.length : Int) ≤ (C1 : Int) := by omega
          have HS := Lib.hid (scan_take w5 _ B1 b C1 n S5.out (Rv.RdIn.left Rv.RdIn.row) HNIL.out (by omega) (by omega) hxl)
          obtain ⟨sn, hsn⟩ : ∃ x, scanN (b.take n) = x := ⟨_, rfl⟩
          obtain ⟨sk, hsk⟩ : ∃ x, scanK (b.take n) = x := ⟨_, rfl⟩
          obtain ⟨sf, hsf⟩ : ∃ x, scanF (b.take n) = x := ⟨_, rfl⟩
          rw [hsn, hsk, hsf] at HS
          have HSN := Lib.hid hsn
          have HSK := Lib.hid hsk
          have HSF := Lib.hid hsf
          clear hsn hsk hsf
          go_wp2_with fail
          refine HS.out.mono ?_
          rintro e w6 ⟨rfl, s6, z6⟩
          have S6 : Hid (Sat (w6.alloc (.cells (fltCells sf) 27)) (flP w6.heap.size sf * (row 3 (.slice (some ⟨ge, 0, none⟩) es.length K) (es.map natI) * (bytesP (.slice B1 b.length C1) b * (wrtP Q1 g m * (Q1 * (plP g3 p * R))))))) := Lib.hid ((show Sat _ (flP w6.heap.size sf * _) from s6.alloc (.cells (fltCells sf) 27)).perm (by ac_rfl))
          have Z6 := Lib.hid ((Z5.out.then z6).then (Same.of ((Kept.refl (fun _ => False) w6).alloc (.cells (fltCells sf) 27))))
          clear s6 z6 S5 Z5 HS
          go_upto_region 22 with (fail)
          generalize w6.alloc (.cells (fltCells sf) 27) = w7 at *
          generalize w6.heap.size = g19 at *
          obtain ⟨a0, a1⟩ := flt_facts S6.out
          have HC2 := Lib.hid (HEC.out w7 _ S6.out.swap)
          have hc0 : w7.cell? ⟨ge, 0, none⟩ = some (.int .i64 (p.header.length : Int)) := HC2.out 0 _ H7.out
          have hfin : R = R := rfl
          by_cases hlt0 : n < p.header.length
          · obtain ⟨f, hf⟩ := torn_head HW.out hlt0
            have h1 : sf.code ≠ 0 := by rw [← HSF.out]; unfold scanF; rw [hf]; exact scan_code hf
            have h2 : sn = 0 := by rw [← HSN.out]; unfold scanN; rw [hf]
            have h3 : sk = 0 := by rw [← HSK.out]; unfold scanK; rw [hf]
            have e1 : (sf.code != 0) = true := by simpa using h1
            have e2 : decide ((n : Int) < (p.header.length : Int)) = true := by simp; omega
            have hel0 : (0 : Int) < (es.length : Int) := by omega
            clear h1 hf
            rw [h2, h3]
            clear h2 h3
            go_wp2_with fail
            go_ret
            exact ⟨rfl, S6.out.right.right.right.right.right.right, Z6.out⟩
          · have e2 : decide ((n : Int) < (p.header.length : Int)) = false := by simp; omega
            have hel0 : (0 : Int) < (es.length : Int) := by omega
            have hg0 : es.getD 0 0 = p.header.length := by simp [List.getD, H7.out]
            obtain ⟨wh, hwh⟩ : ∃ wh, lastLe es n es.length = wh := ⟨_, rfl⟩
            have hwlt : wh < es.length := by rw [← hwh]; exact lastLe_lt es n _ (by omega)
            have hwle : es.getD wh 0 ≤ n := by rw [← hwh]; exact lastLe_le es n (by omega) _
            have hwe : es[wh]? = some (es.getD wh 0) := by simp [List.getD, hwlt]
            have hsc := torn HW.out hxl hwlt (fun e he => by rw [hwe] at he; injection he with he; omega) (fun e he => by
              have h1 := (List.getElem?_eq_some_iff.1 he).1
              have h2 := lastLe_gt es n es.length (wh + 1) (by omega) h1
              have h3 : es.getD (wh + 1) 0 = e := by simp [List.getD, he]
              omega)
            have h1 : sf = ⟨0, 0⟩ := by rw [← HSF.out]; unfold scanF; rw [hsc]
            have h2 : sn = es.getD wh 0 := by rw [← HSN.out]; unfold scanN; rw [hsc]
            have h3 : sk = wh := by rw [← HSK.out]; unfold scanK; rw [hsc]; simp only [List.length_take]; have := HL6.out; omega
            rw [h2, h3]
            rw [h1] at a0 S6
            obtain ⟨ew, hew⟩ : ∃ ew, es.getD wh 0 = ew := ⟨_, rfl⟩
            rw [hew] at hwle hwe ⊢
            have hcw : w7.cell? ⟨ge, wh, none⟩ = some (.int .i64 (ew : Int)) := HC2.out wh _ hwe
            have HWH := Lib.hid hwh
            clear hwh hwe hew hsc h1 h2 h3 a1 hg0
            go_wp2_with fail
            go_loop [20, 21] (fun wv iv => ∃ j : Nat, j ≤ es.length ∧ iv = .int .i64 (j : Int) ∧ wv = .int .i64 (lastLe es n j : Int)) (fun _ iv => es.length - (intOf iv).toNat)
            case atStart => exact ⟨0, Nat.zero_le _, rfl, rfl⟩
            case round =>
              obtain ⟨j, hj, rfl, rfl⟩ := hrel
              by_cases hjl : j < es.length
              · obtain ⟨e, he⟩ := some_at hjl
                have hcj : w7.cell? ⟨ge, j, none⟩ = some (.int .i64 (e : Int)) := HC2.out j e he
                have hgd : es.getD j 0 = e := by simp [List.getD, he]
                have hjI : (j : Int) < (es.length : Int) := by omega
                by_cases hen : e ≤ n
                · have e5 : decide ((e : Int) ≤ (n : Int)) = true := by simp; omega
                  have hl : lastLe es n (j + 1) = j := by rw [lastLe, hgd, if_pos hen]
                  have HL := Lib.hid hl
                  clear he hgd hl hcw
                  go_wp2_with fail
                  go_round
                  case rel => exact ⟨j + 1, by omega, by go_num, by rw [HL.out]⟩
                  case measure => simp [intOf]; omega
                · have e5 : decide ((e : Int) ≤ (n : Int)) = false := by simp; omega
                  have hl : lastLe es n (j + 1) = lastLe es n j := by rw [lastLe, hgd, if_neg hen]
                  have HL := Lib.hid hl
                  clear he hgd hl hcw
                  go_wp2_with fail
                  go_round
                  case rel => exact ⟨j + 1, by omega, by go_num, by rw [HL.out]⟩
                  case measure => simp [intOf]; omega
              · obtain rfl : j = es.length := by omega
                rw [HWH.out]
                have hwI : (wh : Int) < (es.length : Int) := by omega
                go_wp2_with fail
                go_ret
                exact ⟨rfl, S6.out.right.right.right.right.right.right, Z6.out⟩
end Go.Proofs.YtcmndglhileeoaaGreat
