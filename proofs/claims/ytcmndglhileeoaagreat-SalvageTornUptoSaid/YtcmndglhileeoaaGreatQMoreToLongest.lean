/- A part of the proof: its texts in a row: More, Longest. Each text's own remark stands at its head. -/
import Derived.Test.YtcmndglhileeoaaGreatQSalBToAwake
/- The walk of the law SalvageMore. -/
set_option linter.unusedSimpArgs false
set_option linter.unusedVariables false
namespace Go.Proofs.YtcmndglhileeoaaGreat
open Go.RowKit
open Rv (HP Sat Same pt allOf sat_all RdIn row own Lcl)

theorem scan_code {xs : Rv.Bs} {f : Rv.Fault} (h : Rv.scanned xs = .error f) : f.code ≠ 0 := by
  unfold Rv.scanned at h
  split at h
  · rename_i f' hf
    injection h with h; subst h
    exact pread_code hf
  · cases h
/-- Scan of a beginning. -/
theorem scan_take (wx : World) (R : HP) (A : Option Addr) (xs : Rv.Bs) (c n : Nat) (hR : Sat wx R) (hr : RdIn R A (u8s xs)) (hnil : A = none → c = 0) (hc : xs.length ≤ c) (hm : xs.length ≤ 140737488355328) (hn : n ≤ xs.length) :
    Calls Tryz.prog 9 #[.slice A n c] wx fun e w' => e = .returned (.tuple #[.int .i64 (scanN (xs.take n) : Int), .int .i64 (scanK (xs.take n) : Int), .agg (fltCells (scanF (xs.take n)))]) ∧ Sat w' R ∧ Same wx w' := by
  have hl : (xs.take n).length = n := by rw [List.length_take]; omega
  have h5 := scan_any wx R A (xs.take n) c hR (by have := hr.take n; unfold u8s at this ⊢; rw [List.map_take]; exact this) hnil (by omega) (by omega)
  rw [hl] at h5
  exact h5
theorem decode_take (wx : World) (R : HP) (A : Option Addr) (xs : Rv.Bs) (c n : Nat) (hR : Sat wx R) (hr : RdIn R A (u8s xs)) (hnil : A = none → c = 0) (hc : xs.length ≤ c) (hm : xs.length ≤ 140737488355328) (hn : n ≤ xs.length) :
    Calls Tryz.prog 15 #[.slice A n c] wx (DecRes R wx (Rv.decode (xs.take n))) := by
  have hl : (xs.take n).length = n := by rw [List.length_take]; omega
  have h5 := tdecode_any wx R A (xs.take n) c hR (by have := hr.take n; unfold u8s at this ⊢; rw [List.map_take]; exact this) hnil (by omega) (by omega)
  rw [hl] at h5
  exact h5
def NonNeg (v : Value) (wx w1 : World) : Prop := ∃ n : Int, 0 ≤ n ∧ n ≤ 9223372036854775807 ∧ v = .int .i64 n ∧ wx = w1
theorem rem_nat {n : Int} {len : Nat} (h : 0 ≤ n) : ∃ x : Nat, n % ((len : Int) + 1) = (x : Int) ∧ x ≤ len := by
  have h1 := Int.emod_nonneg n (show ((len : Int) + 1) ≠ 0 by omega)
  have h2 := Int.emod_lt_of_pos n (show 0 < ((len : Int) + 1) by omega)
  exact ⟨(n % ((len : Int) + 1)).toNat, by omega, by omega⟩

set_option maxHeartbeats 4000000 in
set_option maxRecDepth 100000 in
theorem smore_any (R : HP) (A : Option Addr) (xs : Rv.Bs) (c : Nat) (a b : Int) (w : World) (hR : Sat w R) (hr : RdIn R A (u8s xs)) (hnil : A = none → c = 0) (hc : xs.length ≤ c) (hm : xs.length ≤ 140737488355328)
    (ha0 : -9223372036854775808 ≤ a) (ha1 : a ≤ 9223372036854775807) (hb0 : -9223372036854775808 ≤ b) (hb1 : b ≤ 9223372036854775807) (hcm : c ≤ 9223372036854775807) :
    Calls Tryz.prog 5 #[.slice A xs.length c, .int .i64 a, .int .i64 b] w fun e w' => e = .returned (.bool true) ∧ Sat w' R ∧ Same w w' := by
  have HRD := Lib.hid hr
  have HNIL := Lib.hid hnil
  have HR := Lib.hid hR
  clear hr hnil hR
  go_enter Tryz.func5, Tryz.ntmps5
  go_wp2_with fail
  refine (awake_any R w HR.out).mono ?_
  rintro e w1 ⟨rfl, s1, z1⟩
  have S1 := Lib.hid s1
  have Z1 := Lib.hid z1
  clear s1 z1 HR
  go_upto_if 18 with (fail)
  go_cut [1] (fun v wx => NonNeg v wx w1)
  case first =>
    by_cases h : a < 0
    · have e1 : decide (a < 0) = true := by simpa using h
      go_wp2_with fail
      go_meet
      case rel => exact ⟨_, by omega, by omega, rfl, rfl⟩
    · have e1 : decide (a < 0) = false := by simpa using h
      go_wp2_with fail
      go_meet
      case rel => exact ⟨_, by omega, by omega, rfl, rfl⟩
  case rest =>
    rename World => wz
    obtain ⟨n1, hn0, hn1, rfl, rfl⟩ := hcut
    go_upto_if 23 with (fail)
    go_cut [2] (fun v wx => NonNeg v wx wz)
    case first =>
      by_cases h : b < 0
      · have e1 : decide (b < 0) = true := by simpa using h
        go_wp2_with fail
        go_meet
        case rel => exact ⟨_, by omega, by omega, rfl, rfl⟩
      · have e1 : decide (b < 0) = false := by simpa using h
        go_wp2_with fail
        go_meet
        case rel => exact ⟨_, by omega, by omega, rfl, rfl⟩
    case rest =>
      rename World => w2
      obtain ⟨n2, hn2, hn3, rfl, rfl⟩ := hcut
      clear ha0 ha1 hb0 hb1
      obtain ⟨x, hx, hxl⟩ := rem_nat (len := xs.length) hn0
      obtain ⟨y, hy, hyl⟩ := rem_nat (len := xs.length) hn2
      go_upto_region 8 with (fail)
      rw [hx, hy]
      have HX := Lib.hid hx
      have HY := Lib.hid hy
      clear hx hy
      have hcI : (xs.length : Int) ≤ (c : Int) := by omega
      -- the plain part
      have hplain : (scanF (xs.take (min x y))).code ≠ 0 ∧ scanN (xs.take (min x y)) = 0 ∧ scanK (xs.take (min x y)) = 0 ∨
          (scanF (xs.take (min x y))).code = 0 ∧ (scanF (xs.take (max x y))).code = 0 ∧ scanN (xs.take (min x y)) ≤ scanN (xs.take (max x y)) ∧ scanK (xs.take (min x y)) ≤ scanK (xs.take (max x y)) ∧ scanN (xs.take (min x y)) ≤ min x y ∧ scanN (xs.take (max x y)) ≤ max x y ∧
            (scanN (xs.take (min x y)) = scanN (xs.take (max x y)) ↔ scanK (xs.take (min x y)) = scanK (xs.take (max x y))) := by
        cases hs : Rv.scanned (xs.take (min x y)) with
        | error f =>
          left
          unfold scanF scanN scanK
          rw [hs]
          exact ⟨scan_code hs, rfl, rfl⟩
        | ok q =>
          obtain ⟨p, l, n⟩ := q
          obtain ⟨l2, m, h1, h2, h3, h4, h5⟩ := Rv.scan_more (b := xs) (x := min x y) (y := max x y) (by omega) (by omega) hs
          right
          unfold scanF scanN scanK
          rw [hs, h1]
          refine ⟨rfl, rfl, h2, by simp, h3, h4, ?_⟩
          simp only [List.length_append]
          rw [h5]
          constructor
          · rintro rfl; simp
          · intro h; exact List.length_eq_zero_iff.1 (by omega)
      have HSLO := Lib.hid (scan_take w2 R A xs c (min x y) S1.out HRD.out HNIL.out hc hm (by omega))
      have HSHI := Lib.hid (fun (wx : World) (X : HP) (h : Sat wx (X * R)) => scan_take wx (X * R) A xs c (max x y) h (Rv.RdIn.right HRD.out) HNIL.out hc hm (by omega))
      generalize scanN (xs.take (min x y)) = n at *
      generalize scanK (xs.take (min x y)) = k at *
      generalize scanF (xs.take (min x y)) = f at *
      generalize scanN (xs.take (max x y)) = n' at *
      generalize scanK (xs.take (max x y)) = k' at *
      generalize scanF (xs.take (max x y)) = f' at *
      have HPL := Lib.hid hplain
      clear hplain
      go_wp2_with fail
      rw [show (min (x : Int) (y : Int)).toNat = min x y from by omega]
      refine HSLO.out.mono ?_
      rintro e w3 ⟨rfl, s3, z3⟩
      have S3 := Lib.hid (s3.alloc (.cells (fltCells f) 27))
      have Z3 := Lib.hid ((Z1.out.then z3).then (Same.of ((Kept.refl (fun _ => False) w3).alloc (.cells (fltCells f) 27))))
      clear s3 z3 S1 Z1 HSLO
      go_upto_region 9 with (fail)
      generalize w3.alloc (.cells (fltCells f) 27) = w4 at *
      generalize w3.heap.size = g12 at *
      go_wp2_with fail
      rw [show (max (x : Int) (y : Int)).toNat = max x y from by omega]
      refine (HSHI.out w4 _ S3.out).mono ?_
      rintro e w5 ⟨rfl, s5, z5⟩
      have S5 := Lib.hid ((s5.alloc (.cells (fltCells f') 27)))
      have Z5 := Lib.hid ((Z3.out.then z5).then (Same.of ((Kept.refl (fun _ => False) w5).alloc (.cells (fltCells f') 27))))
      clear s5 z5 S3 Z3 HSHI
      go_upto_region 10 with (fail)
      generalize w5.alloc (.cells (fltCells f') 27) = w6 at *
      generalize w5.heap.size = g15 at *
      obtain ⟨a0, a1⟩ := flt_facts S5.out
      obtain ⟨b0, b1⟩ := flt_facts S5.out.right
      rcases HPL.out with ⟨h1, h2, h3⟩ | ⟨h1, h2, h3, h4, h5, h6, h7⟩
      · have e1 : (f.code != 0) = true := by simpa using h1
        subst h2; subst h3
        clear h1
        go_wp2_with fail
        go_ret
        exact ⟨rfl, S5.out.right.right, Z5.out⟩
      · have e1 : (f.code != 0) = false := by rw [h1]; rfl
        have e2 : (f'.code == 0) = true := by rw [h2]; rfl
        have e3 : decide ((n : Int) ≤ (n' : Int)) = true := by simp; omega
        have e4 : decide ((k : Int) ≤ (k' : Int)) = true := by simp; omega
        have e5 : decide ((n : Int) ≤ min (x : Int) (y : Int)) = true := by simp; omega
        have e6 : decide ((n' : Int) ≤ max (x : Int) (y : Int)) = true := by simp; omega
        have e7 : (((n : Int) == (n' : Int)) == ((k : Int) == (k' : Int))) = true := by
          by_cases hn : n = n'
          · have hk := h7.1 hn
            subst hn; subst hk; simp
          · have hk : ¬ k = k' := fun h => hn (h7.2 h)
            have q1 : ((n : Int) == (n' : Int)) = false := by simp; omega
            have q2 : ((k : Int) == (k' : Int)) = false := by simp; omega
            rw [q1, q2]; rfl
        clear h1 h2 h7
        go_wp2_with fail
        go_ret
        exact ⟨rfl, S5.out.right.right, Z5.out⟩
end Go.Proofs.YtcmndglhileeoaaGreat

/- The walk of the law SalvageLongest. -/
set_option linter.unusedSimpArgs false
set_option linter.unusedVariables false
namespace Go.Proofs.YtcmndglhileeoaaGreat
open Go.RowKit
open Rv (HP Sat Same pt allOf sat_all RdIn row own Lcl)

def decK (xs : Rv.Bs) : Nat := match Rv.decode xs with | .error _ => 0 | .ok (_, l) => l.length
def decF (xs : Rv.Bs) : Rv.Fault := match Rv.decode xs with | .error f => f | .ok _ => ⟨0, 0⟩
theorem dec_code {xs : Rv.Bs} {f : Rv.Fault} (h : Rv.decode xs = .error f) : f.code ≠ 0 := by
  unfold Rv.decode at h
  split at h
  · rename_i f' hf
    injection h with h
    subst h
    unfold Rv.openR at hf
    split at hf
    · injection hf with hf; subst hf; simp
    · split at hf
      · rename_i f'' hf2
        injection hf with hf; subst hf
        exact pread_code hf2
      · cases hf
  · rename_i m hm
    split at h
    · cases h
    · rename_i l m' f' hr
      injection h with h
      subst h
      have h1 := Rv.Maker.reads_end xs 10001 m (by
        unfold Rv.openR at hm
        split at hm
        · cases hm
        · split at hm
          · cases hm
          · injection hm with hm
            subst hm
            exact Nat.zero_le _) (by omega)
      rw [hr] at h1
      exact mnext_code h1
theorem decF_ok {xs : Rv.Bs} {q : Rv.Pol × List Rv.Rec} (h : Rv.decode xs = .ok q) : (decF xs).code = 0 := by unfold decF; rw [h]
theorem decF_bad {xs : Rv.Bs} (h : ∀ r, Rv.decode xs ≠ .ok r) : (decF xs).code ≠ 0 := by
  unfold decF
  cases hd : Rv.decode xs with
  | error f => exact dec_code hd
  | ok q => exact absurd hd (h q)
/-- Decode of a beginning. -/
theorem dec_take (wx : World) (R : HP) (A : Option Addr) (xs : Rv.Bs) (c n : Nat) (hR : Sat wx R) (hr : RdIn R A (u8s xs)) (hnil : A = none → c = 0) (hc : xs.length ≤ c) (hm : xs.length ≤ 140737488355328) (hn : n ≤ xs.length) :
    Calls Tryz.prog 15 #[.slice A n c] wx fun e w' => ∃ (p : Rv.Pol) (B : Option Addr) (k : Nat), e = .returned (.tuple #[.agg (polCells p), .slice B (decK (xs.take n)) k, .agg (fltCells (decF (xs.take n)))]) ∧ Sat w' R ∧ Same wx w' := by
  refine (decode_take wx R A xs c n hR hr hnil hc hm hn).mono ?_
  intro e w' hq
  unfold decK decF
  cases hd : Rv.decode (xs.take n) with
  | error f =>
    rw [hd] at hq
    obtain ⟨rfl, s, z⟩ := hq
    exact ⟨.zero, none, 0, rfl, s, z⟩
  | ok q =>
    obtain ⟨p, l⟩ := q
    rw [hd] at hq
    obtain ⟨B, k, rfl, s, z⟩ := hq
    exact ⟨p, B, k, rfl, s.right, z⟩

def LgRel (X R : HP) (w : World) (n len : Nat) (v : Value) (wr : World) : Prop := ∃ t : Nat, n + 1 ≤ t ∧ t ≤ len + 1 ∧ v = .int .i64 (t : Int) ∧ Sat wr (X * R) ∧ Same w wr
set_option maxHeartbeats 4000000 in
set_option maxRecDepth 100000 in
theorem slongest_any (R : HP) (A : Option Addr) (xs : Rv.Bs) (c : Nat) (w : World) (hR : Sat w R) (hr : RdIn R A (u8s xs)) (hnil : A = none → c = 0) (hc : xs.length ≤ c) (hm : xs.length ≤ 140737488355328) (hcm : c ≤ 9223372036854775807) :
    Calls Tryz.prog 6 #[.slice A xs.length c] w fun e w' => e = .returned (.bool true) ∧ Sat w' R ∧ Same w w' := by
  have hplain : ((scanF xs).code ≠ 0 ∧ scanN xs = 0 ∧ scanK xs = 0 ∧ (decF xs).code ≠ 0) ∨
      ((scanF xs).code = 0 ∧ scanN xs ≤ xs.length ∧ scanN xs ≤ 4194304 ∧ (decF (xs.take (scanN xs))).code = 0 ∧ decK (xs.take (scanN xs)) = scanK xs ∧ scanN (xs.take (scanN xs)) = scanN xs ∧ scanK (xs.take (scanN xs)) = scanK xs ∧ (scanF (xs.take (scanN xs))).code = 0 ∧
        (∀ t, scanN xs < t → t ≤ xs.length → (decF (xs.take t)).code ≠ 0) ∧ ((decF xs).code = 0 ↔ scanN xs = xs.length)) := by
    cases hs : Rv.scanned xs with
    | error f =>
      left
      have h1 := decF_bad (Rv.decode_scanned_error hs)
      unfold scanF scanN scanK
      rw [hs]
      exact ⟨scan_code hs, rfl, rfl, h1⟩
    | ok q =>
      obtain ⟨p, l, n⟩ := q
      right
      obtain ⟨h1, h2, h3, h4⟩ := Rv.decode_of_scanned hs
      have hl := fun (t : Nat) (h1 : n < t) (h2 : t ≤ xs.length) => decF_bad (Rv.scan_longest hs h1 h2)
      have e1 : scanN xs = n := by unfold scanN; rw [hs]
      have e2 : scanK xs = l.length := by unfold scanK; rw [hs]
      have e3 : scanF xs = ⟨0, 0⟩ := by unfold scanF; rw [hs]
      have e4 : scanN (xs.take n) = n := by unfold scanN; rw [h4]
      have e5 : scanK (xs.take n) = l.length := by unfold scanK; rw [h4]
      have e6 : scanF (xs.take n) = ⟨0, 0⟩ := by unfold scanF; rw [h4]
      have e7 : decK (xs.take n) = l.length := by unfold decK; rw [h3]
      rw [e1, e2, e3, e4, e5, e6, e7]
      refine ⟨rfl, h1, h2, decF_ok h3, rfl, rfl, rfl, rfl, hl, ?_⟩
      constructor
      · intro h
        rcases Nat.lt_or_ge n xs.length with h5 | h5
        · have h6 := hl xs.length h5 (Nat.le_refl _)
          rw [List.take_length] at h6
          exact absurd h h6
        · omega
      · intro h
        rw [h, List.take_length] at h3
        exact decF_ok h3
  have HPL := Lib.hid hplain
  have HRD := Lib.hid hr
  have HNIL := Lib.hid hnil
  have HR := Lib.hid hR
  have hcI : (xs.length : Int) ≤ (c : Int) := by omega
  have HSW := Lib.hid (fun (wx : World) (X : HP) (h : Sat wx (X * R)) => scan_any wx (X * R) A xs c h (Rv.RdIn.right hr) hnil hc hm)
  have HST := Lib.hid (fun (wx : World) (X : HP) (n : Nat) (h : Sat wx (X * R)) (hn : n ≤ xs.length) => scan_take wx (X * R) A xs c n h (Rv.RdIn.right hr) hnil hc hm hn)
  have HDT := Lib.hid (fun (wx : World) (X : HP) (n : Nat) (h : Sat wx (X * R)) (hn : n ≤ xs.length) => dec_take wx (X * R) A xs c n h (Rv.RdIn.right hr) hnil hc hm hn)
  have HDW : Hid (∀ (wx : World) (X : HP), Sat wx (X * R) → Calls Tryz.prog 15 #[.slice A xs.length c] wx fun e w' => ∃ (p : Rv.Pol) (B : Option Addr) (k : Nat), e = .returned (.tuple #[.agg (polCells p), .slice B (decK xs) k, .agg (fltCells (decF xs))]) ∧ Sat w' (X * R) ∧ Same wx w') := Lib.hid (fun wx X h => by
    have h1 := HDT.out wx X xs.length h (Nat.le_refl _)
    rw [List.take_length] at h1
    exact h1)
  clear hr hnil hR hplain
  go_enter Tryz.func6, Tryz.ntmps6
  go_wp2_with fail
  refine (awake_any R w HR.out).mono ?_
  rintro e w1 ⟨rfl, s1, z1⟩
  have S1 : Hid (Sat w1 (1 * R)) := Lib.hid (by rw [Rv.one_star]; exact s1)
  have Z1 := Lib.hid z1
  clear s1 z1 HR
  go_wp2_with fail
  refine (HSW.out w1 1 S1.out).mono ?_
  rintro e w2 ⟨rfl, s2, z2⟩
  have S2 : Hid (Sat (w2.alloc (.cells (fltCells (scanF xs)) 27)) (flP w2.heap.size (scanF xs) * R)) := Lib.hid ((show Sat _ (flP w2.heap.size (scanF xs) * (1 * R)) from s2.alloc (.cells (fltCells (scanF xs)) 27)).perm (by rw [Rv.one_star]))
  have Z2 := Lib.hid ((Z1.out.then z2).then (Same.of ((Kept.refl (fun _ => False) w2).alloc (.cells (fltCells (scanF xs)) 27))))
  clear s2 z2 S1 Z1 HSW
  generalize scanN xs = n at *
  generalize scanK xs = k at *
  generalize scanF xs = f at *
  go_upto_region 3 with (fail)
  generalize w2.alloc (.cells (fltCells f) 27) = w3 at *
  generalize w2.heap.size = g6 at *
  obtain ⟨a0, a1⟩ := flt_facts S2.out
  rcases HPL.out with ⟨h1, h2, h3, h4⟩ | ⟨h1, h2, h3, h4, h5, h6, h7, h8, h9, h10⟩
  · have e1 : (f.code != 0) = true := by simpa using h1
    have e2 : ((decF xs).code != 0) = true := by simpa using h4
    subst h2; subst h3
    clear h1 h4 HPL
    go_wp2_with fail
    refine (HDW.out w3 _ S2.out).mono ?_
    rintro e w4 ⟨p, B, kk, rfl, s4, z4⟩
    have S4 := Lib.hid (((s4.alloc (.cells (polCells p) 33)).alloc (.cells (fltCells (decF xs)) 27)))
    have Z4 := Lib.hid ((Z2.out.then z4).then (Same.of (((Kept.refl (fun _ => False) w4).alloc (.cells (polCells p) 33)).alloc (.cells (fltCells (decF xs)) 27))))
    clear s4 z4 S2 Z2
    rw [World.size_alloc] at S4
    generalize decF xs = fd at *
    go_upto_region 5 with (fail)
    obtain ⟨w5, hw5⟩ : ∃ w5, w5 = ((w4.alloc (.cells (polCells p) 33)).alloc (.cells (fltCells fd) 27)) := ⟨_, rfl⟩
    change Code.wp _ _ _ _ ((w4.alloc (.cells (polCells p) 33)).alloc (.cells (fltCells fd) 27))
    rw [← hw5] at S4 Z4 ⊢
    clear hw5 a0 a1
    generalize w4.heap.size + 1 = g9 at *
    obtain ⟨a0, a1⟩ := flt_facts S4.out
    go_wp2_with fail
    go_ret
    exact ⟨rfl, S4.out.right.right.right, Z4.out⟩
  · have e1 : (f.code != 0) = false := by rw [h1]; rfl
    have hnI : (n : Int) ≤ (xs.length : Int) := by omega
    have e2 : decide ((xs.length : Int) < (n : Int)) = false := by simp; omega
    have e3 : decide ((n : Int) < 0) = false := by simp
    have HD := Lib.hid (HDT.out w3 _ n S2.out h2)
    rw [h5] at HD
    have H4 := Lib.hid h4
    have H6 := Lib.hid h6
    have H7 := Lib.hid h7
    have H8 := Lib.hid h8
    have H9 := Lib.hid h9
    have H10 := Lib.hid h10
    clear h1 h4 h5 h6 h7 h8 h9 h10 HPL
    go_wp2_with fail
    refine HD.out.mono ?_
    rintro e w4 ⟨p, B, kk, rfl, s4, z4⟩
    have S4 := Lib.hid (((s4.alloc (.cells (polCells p) 33)).alloc (.cells (fltCells (decF (xs.take n))) 27)))
    have Z4 := Lib.hid ((Z2.out.then z4).then (Same.of (((Kept.refl (fun _ => False) w4).alloc (.cells (polCells p) 33)).alloc (.cells (fltCells (decF (xs.take n))) 27))))
    clear s4 z4 S2 Z2 HD
    rw [World.size_alloc] at S4
    generalize decF (xs.take n) = fd at *
    go_upto_region 9 with (fail)
    obtain ⟨w5, hw5⟩ : ∃ w5, w5 = ((w4.alloc (.cells (polCells p) 33)).alloc (.cells (fltCells fd) 27)) := ⟨_, rfl⟩
    change Code.wp _ _ _ _ ((w4.alloc (.cells (polCells p) 33)).alloc (.cells (fltCells fd) 27))
    rw [← hw5] at S4 Z4 ⊢
    clear hw5 a0 a1
    generalize w4.heap.size + 1 = g12 at *
    have S4b : Hid (Sat w5 (flP g12 fd * R)) := Lib.hid (S4.out.drop3.drop2)
    have HS := Lib.hid (HST.out w5 _ n S4b.out h2)
    rw [H6.out, H7.out] at HS
    go_wp2_with fail
    refine HS.out.mono ?_
    rintro e w6 ⟨rfl, s6, z6⟩
    have S6 := Lib.hid (s6.alloc (.cells (fltCells (scanF (xs.take n))) 27))
    have Z6 := Lib.hid ((Z4.out.then z6).then (Same.of ((Kept.refl (fun _ => False) w6).alloc (.cells (fltCells (scanF (xs.take n))) 27))))
    clear s6 z6 S4 S4b Z4 HS
    generalize scanF (xs.take n) = fs at *
    go_upto_region 10 with (fail)
    generalize w6.alloc (.cells (fltCells fs) 27) = w7 at *
    generalize w6.heap.size = g15 at *
    obtain ⟨a0, a1⟩ := flt_facts S6.out
    obtain ⟨b0, b1⟩ := flt_facts S6.out.right
    have e4 : (fd.code != 0) = false := by rw [H4.out]; rfl
    have e5 : (fs.code != 0) = false := by rw [H8.out]; rfl
    have e6 : ((n : Int) != (n : Int)) = false := by simp
    have e7 : ((k : Int) != (k : Int)) = false := by simp
    have HREL : Hid (LgRel (flP g15 fs * flP g12 fd) R w n xs.length (.int .i64 ((n : Int) + 1)) w7) := Lib.hid ⟨n + 1, by omega, by omega, by go_num, S6.out.perm (by ac_rfl), Z6.out⟩
    clear S6 Z6 H4 H6 H7 H8 HST
    go_wp2_with fail
    go_loopw [16] (fun tv wr => LgRel (flP g15 fs * flP g12 fd) R w n xs.length tv wr) (fun tv _ => xs.length + 1 - (intOf tv).toNat)
    case atStart => exact HREL.out
    case round =>
      obtain ⟨t, ht1, ht2, rfl, s8, z8⟩ := hrel
      have S8 := Lib.hid s8
      have Z8 := Lib.hid z8
      clear s8 z8 HREL a0 a1 b0 b1 e1 e2 e3 e4 e5 e6 e7
      by_cases hlt : t ≤ xs.length
      · have e8 : decide ((t : Int) ≤ (xs.length : Int)) = true := by simp; omega
        have htI : (t : Int) ≤ (xs.length : Int) := by omega
        by_cases hlt4 : t ≤ n + 400
        · have e9 : decide ((t : Int) ≤ (n : Int) + 400) = true := by simp; omega
          have HDt := Lib.hid (HDT.out wr _ t S8.out hlt)
          have hne := H9.out t (by omega) hlt
          have e10 : ((decF (xs.take t)).code == 0) = false := by simpa using hne
          clear hne
          generalize decF (xs.take t) = ft at *
          go_wp2_with fail
          refine HDt.out.mono ?_
          rintro e w9 ⟨p2, B2, kk2, rfl, s9, z9⟩
          have S9 := Lib.hid (((s9.alloc (.cells (polCells p2) 33)).alloc (.cells (fltCells ft) 27)))
          have Z9 : Hid (Same w ((w9.alloc (.cells (polCells p2) 33)).alloc (.cells (fltCells ft) 27))) := Lib.hid ((Z8.out.then z9).then (Same.of (((Kept.refl (fun _ => False) w9).alloc (.cells (polCells p2) 33)).alloc (.cells (fltCells ft) 27))))
          clear s9 z9
          rw [World.size_alloc] at S9
          go_upto_region 16 with (fail)
          obtain ⟨wb, hwb⟩ : ∃ wb, wb = ((w9.alloc (.cells (polCells p2) 33)).alloc (.cells (fltCells ft) 27)) := ⟨_, rfl⟩
          change Code.wp _ _ _ _ ((w9.alloc (.cells (polCells p2) 33)).alloc (.cells (fltCells ft) 27))
          rw [← hwb] at S9 Z9 ⊢
          clear hwb
          generalize w9.heap.size + 1 = g19 at *
          obtain ⟨d0, d1⟩ := flt_facts S9.out
          have S10 : Hid (Sat wb ((flP g15 fs * flP g12 fd) * R)) := Lib.hid (S9.out.right.right)
          go_wp2_with fail
          go_roundw
          case rel => exact ⟨t + 1, by omega, by omega, by go_num, S10.out, Z9.out⟩
          case measure => simp [intOf]; omega
        · have e9 : decide ((t : Int) ≤ (n : Int) + 400) = false := by simp; omega
          have HDx := Lib.hid (HDW.out wr _ S8.out)
          have hbb : ∃ bb : Bool, ((decF xs).code == 0) = bb ∧ ((n : Int) == (xs.length : Int)) = bb := by
            by_cases hn : n = xs.length
            · refine ⟨true, ?_, ?_⟩
              · rw [H10.out.2 hn]; rfl
              · rw [hn]; simp
            · refine ⟨false, ?_, ?_⟩
              · have h1 : (decF xs).code ≠ 0 := fun h => hn (H10.out.1 h)
                simpa using h1
              · simp; omega
          obtain ⟨bb, hb1, hb2⟩ := hbb
          have e12 : decide ((n : Int) ≤ 4194304) = true := by simp; omega
          clear H10 H9 HDT HDW
          generalize decF xs = fx at *
          go_wp2_with fail
          refine HDx.out.mono ?_
          rintro e w9 ⟨p2, B2, kk2, rfl, s9, z9⟩
          have S9 := Lib.hid (((s9.alloc (.cells (polCells p2) 33)).alloc (.cells (fltCells fx) 27)))
          have Z9 : Hid (Same w ((w9.alloc (.cells (polCells p2) 33)).alloc (.cells (fltCells fx) 27))) := Lib.hid ((Z8.out.then z9).then (Same.of (((Kept.refl (fun _ => False) w9).alloc (.cells (polCells p2) 33)).alloc (.cells (fltCells fx) 27))))
          clear s9 z9
          rw [World.size_alloc] at S9
          go_upto_region 19 with (fail)
          obtain ⟨wb, hwb⟩ : ∃ wb, wb = ((w9.alloc (.cells (polCells p2) 33)).alloc (.cells (fltCells fx) 27)) := ⟨_, rfl⟩
          change Code.wp _ _ _ _ ((w9.alloc (.cells (polCells p2) 33)).alloc (.cells (fltCells fx) 27))
          rw [← hwb] at S9 Z9 ⊢
          clear hwb
          generalize w9.heap.size + 1 = g19 at *
          obtain ⟨d0, d1⟩ := flt_facts S9.out
          cases bb with
          | true =>
            go_wp2_with fail
            go_ret
            exact ⟨rfl, S9.out.right.right.right, Z9.out⟩
          | false =>
            go_wp2_with fail
            go_ret
            exact ⟨rfl, S9.out.right.right.right, Z9.out⟩
      · have e8 : decide ((t : Int) ≤ (xs.length : Int)) = false := by simp; omega
        · skip
          have HDx := Lib.hid (HDW.out wr _ S8.out)
          have hbb : ∃ bb : Bool, ((decF xs).code == 0) = bb ∧ ((n : Int) == (xs.length : Int)) = bb := by
            by_cases hn : n = xs.length
            · refine ⟨true, ?_, ?_⟩
              · rw [H10.out.2 hn]; rfl
              · rw [hn]; simp
            · refine ⟨false, ?_, ?_⟩
              · have h1 : (decF xs).code ≠ 0 := fun h => hn (H10.out.1 h)
                simpa using h1
              · simp; omega
          obtain ⟨bb, hb1, hb2⟩ := hbb
          have e12 : decide ((n : Int) ≤ 4194304) = true := by simp; omega
          clear H10 H9 HDT HDW
          generalize decF xs = fx at *
          go_wp2_with fail
          refine HDx.out.mono ?_
          rintro e w9 ⟨p2, B2, kk2, rfl, s9, z9⟩
          have S9 := Lib.hid (((s9.alloc (.cells (polCells p2) 33)).alloc (.cells (fltCells fx) 27)))
          have Z9 : Hid (Same w ((w9.alloc (.cells (polCells p2) 33)).alloc (.cells (fltCells fx) 27))) := Lib.hid ((Z8.out.then z9).then (Same.of (((Kept.refl (fun _ => False) w9).alloc (.cells (polCells p2) 33)).alloc (.cells (fltCells fx) 27))))
          clear s9 z9
          rw [World.size_alloc] at S9
          go_upto_region 19 with (fail)
          obtain ⟨wb, hwb⟩ : ∃ wb, wb = ((w9.alloc (.cells (polCells p2) 33)).alloc (.cells (fltCells fx) 27)) := ⟨_, rfl⟩
          change Code.wp _ _ _ _ ((w9.alloc (.cells (polCells p2) 33)).alloc (.cells (fltCells fx) 27))
          rw [← hwb] at S9 Z9 ⊢
          clear hwb
          generalize w9.heap.size + 1 = g19 at *
          obtain ⟨d0, d1⟩ := flt_facts S9.out
          cases bb with
          | true =>
            go_wp2_with fail
            go_ret
            exact ⟨rfl, S9.out.right.right.right, Z9.out⟩
          | false =>
            go_wp2_with fail
            go_ret
            exact ⟨rfl, S9.out.right.right.right, Z9.out⟩
end Go.Proofs.YtcmndglhileeoaaGreat
