/- A part of the proof: its texts in a row: Bucket, Window. Each text's own remark stands at its head. -/
import Derived.Test.YtcmndglhileeoaaGreatQHeaderToRead
import Derived.Test.YtcmndglhileeoaaGreatQSepRToSepB
import Derived.Deep.QuietTactic
import Derived.BigQuiet
import Derived.Deep.RegionHeld3
/- The walks of package bucket: Decay, Take, of a policy that may be. -/
set_option linter.unusedSimpArgs false
set_option linter.unusedVariables false
namespace Go.Proofs.YtcmndglhileeoaaGreat
open Go.RowKit
open Rv (HP Sat Same pt allOf sat_all RdIn row own)

theorem clipfn_any (n most : Int) (g : Nat) (w : World) (h : w.cell? ⟨g, 0, none⟩ = some (.int .i64 most)) :
    Calls Tryz.prog 210 #[.int .i64 n, .pointer (some ⟨g, 0, none⟩)] w fun e w' => e = .returned (.int .i64 (Rv.clipN most n)) ∧ w = w' := by
  go_enter Tryz.func210, Tryz.ntmps210
  go_wp2
  all_goals
    go_ret
    exact ⟨ret_int (by unfold Rv.clipN; omega), rfl⟩

abbrev clipV (g : Nat) : Value := .func (.func 210) #[] #[.pointer (some ⟨g, 0, none⟩)]
theorem clip_any (most : Int) (w : World) :
    Calls Tryz.prog 208 #[.int .i64 most] w fun e w' => e = .returned (clipV w.heap.size) ∧ w' = w.alloc (.cells #[.int .i64 most] 3) := by
  go_enter Tryz.func208, Tryz.ntmps208
  go_wp2
  go_ret
  exact ⟨rfl, rfl⟩

theorem bmay_any (n : Int) (b : Bool) (hb : Rv.costOk n = b) (w : World) : Calls Tryz.prog 209 #[.int .i64 n] w fun e w' => e = .returned (.bool b) ∧ w = w' := by
  subst hb
  unfold Rv.costOk Rv.inB
  by_cases h0 : 1 ≤ n
  · have d0 : decide (1 ≤ n) = true := by simpa using h0
    by_cases h1 : n ≤ 1048576
    · have d1 : decide (n ≤ 1048576) = true := by simpa using h1
      rw [d0, d1]
      go_enter Tryz.func209, Tryz.ntmps209
      go_wp2
      go_ret
      exact ⟨rfl, rfl⟩
    · have d1 : decide (n ≤ 1048576) = false := by simpa using h1
      rw [d0, d1]
      go_enter Tryz.func209, Tryz.ntmps209
      go_wp2
      go_ret
      exact ⟨rfl, rfl⟩
  · have d0 : decide (1 ≤ n) = false := by simpa using h0
    rw [d0]
    go_enter Tryz.func209, Tryz.ntmps209
    go_wp2
    go_ret
    exact ⟨rfl, rfl⟩

set_option maxHeartbeats 1000000 in
set_option maxRecDepth 100000 in
theorem bmeans_yes (p : Rv.Pol) (w : World) (h : p.ok = true) (hk : p.kind = 1) :
    Calls Tryz.prog 207 #[.agg (polCells p)] w fun e w' => e = .returned (.bool true) ∧ Below w.heap.size w w' := by
  have HB := Lib.hid (fun o => (Below.refl w.heap.size w).alloc (Nat.le_refl _) o)
  have HR := Lib.hid (right_0 h)
  have hk1 : (p.kind == 1) = true := by rw [hk]; rfl
  clear h hk
  go_enter Tryz.func207, Tryz.ntmps207
  go_wp2_with ((with_reducible refine at_slot 7 ?_); refine wpList_load_row rfl 33 (.tmp 1) rfl w.heap.size (by rfl) 33 (polCells p) (0, 0) _ (heap_alloc_new w _) Tryz.underlying33 (by rfl) info_pol ?_)
  refine (pright_any p _).mono ?_
  rintro e w1 ⟨rfl, b1⟩
  rw [HR.out]
  have B1 := Lib.hid (below_then (HB.out _) (by simp) b1)
  clear b1
  go_wp2_with fail
  go_ret
  exact ⟨rfl, B1.out⟩

theorem clipN_bd (most n : Int) (h : 0 ≤ most) : 0 ≤ Rv.clipN most n ∧ Rv.clipN most n ≤ most := by unfold Rv.clipN; omega
theorem num_ok {p : Rv.Pol} (h : p.ok = true) (hk : p.kind = 1) : 1 ≤ p.num ∧ p.num ≤ 65536 ∧ 1 ≤ p.den ∧ p.den ≤ 65536 := by
  have h1 : (p.fields.all fun f => Rv.inB f.1 f.2.1 f.2.2) = true := by
    unfold Rv.Pol.ok at h
    exact (Bool.and_eq_true_iff.1 h).2
  have h0 := (all_iff p (kind_ok h)).1 h1
  have h2 := h0 2 (by omega) 2 1 65536 (by unfold tabOf; rw [if_pos hk]; rfl)
  have h3 := h0 3 (by omega) 3 1 65536 (by unfold tabOf; rw [if_pos hk]; rfl)
  exact ⟨h2.1, h2.2, h3.1, h3.2⟩
theorem mul_bd {a b A B : Int} (h0 : 0 ≤ a) (h1 : a ≤ A) (h2 : 0 ≤ b) (h3 : b ≤ B) : 0 ≤ a * b ∧ a * b ≤ A * B :=
  ⟨Int.mul_nonneg h0 h2, Int.mul_le_mul h1 h3 h2 (Int.le_trans h0 h1)⟩

set_option maxHeartbeats 2000000 in
set_option maxRecDepth 100000 in
theorem decay_any (p : Rv.Pol) (owed ticks : Int) (w : World) (h : p.ok = true) (hk : p.kind = 1) :
    Calls Tryz.prog 205 #[.agg (polCells p), .int .i64 owed, .int .i64 ticks] w fun e w' => e = .returned (.int .i64 (Rv.decay p owed ticks)) ∧ Below w.heap.size w w' := by
  have HB := Lib.hid (fun o => (Below.refl w.heap.size w).alloc (Nat.le_refl _) o)
  have Hok := Lib.hid h
  have Hk := Lib.hid hk
  obtain ⟨q1, q2, -, -⟩ := num_ok h hk
  obtain ⟨a, ha⟩ : ∃ a, Rv.clipN 4611686018427387903 owed = a := ⟨_, rfl⟩
  obtain ⟨t, ht⟩ : ∃ t, Rv.clipN 1099511627776 ticks = t := ⟨_, rfl⟩
  have hab := clipN_bd 4611686018427387903 owed (by omega)
  have htb := clipN_bd 1099511627776 ticks (by omega)
  rw [ha] at hab
  rw [ht] at htb
  obtain ⟨x, hx⟩ : ∃ x, x = t * p.num := ⟨_, rfl⟩
  have hxb := mul_bd htb.1 htb.2 (show 0 ≤ p.num by omega) q2
  rw [← hx] at hxb
  have hw1 : IntKind.i64.wrap (t * p.num) = x := by rw [hx]; exact IntWalk.i64_in _ (by rw [← hx]; omega)
  have hw2 : IntKind.i64.wrap (a - x) = a - x := IntWalk.i64_in _ (by omega)
  have HX : Hid (Rv.decay p owed ticks = Rv.clipN 4611686018427387903 (a - x)) := Lib.hid (by unfold Rv.decay Rv.maxNumber; rw [ha, ht, hx])
  have HA : Hid (∀ g w, w.cell? ⟨g, 0, none⟩ = some (.int .i64 4611686018427387903) → Calls Tryz.prog 210 #[.int .i64 owed, .pointer (some ⟨g, 0, none⟩)] w fun e w' => e = .returned (.int .i64 a) ∧ w = w') := Lib.hid (fun g w h => by rw [← ha]; exact clipfn_any owed _ g w h)
  have HT : Hid (∀ g w, w.cell? ⟨g, 0, none⟩ = some (.int .i64 1099511627776) → Calls Tryz.prog 210 #[.int .i64 ticks, .pointer (some ⟨g, 0, none⟩)] w fun e w' => e = .returned (.int .i64 t) ∧ w = w') := Lib.hid (fun g w h => by rw [← ht]; exact clipfn_any ticks _ g w h)
  clear h hk ha ht hx
  go_enter Tryz.func205, Tryz.ntmps205
  go_wp2_with ((with_reducible refine at_slot 9 ?_); refine wpList_load_row rfl 33 (.tmp 3) rfl w.heap.size (by rfl) 33 (polCells p) (0, 0) _ (heap_alloc_new w _) Tryz.underlying33 (by rfl) info_pol ?_)
  refine (bmeans_yes p _ Hok.out Hk.out).mono ?_
  rintro e w1 ⟨rfl, b1⟩
  have B1 := Lib.hid (below_then (HB.out _) (by simp) b1)
  have d2 : w1.cell? ⟨w.heap.size, 2, none⟩ = some (.int .i64 p.num) := by rw [cells_of ((b1.block w.heap.size (by simp)).trans (heap_alloc_new w _))]; rfl
  have hlt : w.heap.size < w1.heap.size := by have := b1.size; simp at this; omega
  clear b1
  go_wp2_with fail
  refine (clip_any _ w1).mono ?_
  rintro e w2 ⟨rfl, rfl⟩
  go_wp2_with fail
  refine (clip_any _ _).mono ?_
  rintro e w2 ⟨rfl, rfl⟩
  go_upto_region 4 with (fail)
  obtain ⟨w2, hw2⟩ : ∃ w2, w2 = (w1.alloc (.cells #[.int .i64 4611686018427387903] 3)).alloc (.cells #[.int .i64 1099511627776] 3) := ⟨_, rfl⟩
  have k1 : w2.cell? ⟨w1.heap.size, 0, none⟩ = some (.int .i64 4611686018427387903) := by rw [hw2]; go_simp
  have k2 : w2.cell? ⟨w1.heap.size + 1, 0, none⟩ = some (.int .i64 1099511627776) := by rw [hw2]; go_simp
  have k3 : w2.cell? ⟨w.heap.size, 2, none⟩ = some (.int .i64 p.num) := by rw [hw2, World.cell?_alloc_lt _ _ _ (by simp; omega), World.cell?_alloc_lt _ _ _ hlt]; exact d2
  have B2 : Hid (Below w.heap.size w w2) := Lib.hid (by rw [hw2]; exact (B1.out.alloc B1.out.size _).alloc (by have := B1.out.size; simp; omega) _)
  rw [← hw2]
  clear hw2 d2 hlt B1 HB
  generalize w1.heap.size + 1 = g2 at *
  generalize w1.heap.size = g1 at *
  clear w1
  go_region_held3 (fun w' => w'.cell? ⟨w.heap.size, 2, none⟩ = some (.int .i64 p.num)) (first | exact k3 | go_keep)
    (first
      | (go_at_call 210; refine (HA.out g1 w2.drew k1).mono ?_; rintro e w' ⟨rfl, rfl⟩)
      | (go_at_call 210; refine (HT.out g2 w2.drew k2).mono ?_; rintro e w' ⟨rfl, rfl⟩)
      | (go_at_call 210; refine (clipfn_any (a - x) _ g1 w2.drew k1).mono ?_; rintro e w' ⟨rfl, rfl⟩))
  all_goals
    go_wp2_with fail
    go_ret
    exact ⟨ret_int (by rw [HX.out]), B2.out.drew⟩

set_option maxHeartbeats 2000000 in
set_option maxRecDepth 100000 in
theorem btake_any (p : Rv.Pol) (owed cost : Int) (w : World) (h : p.ok = true) (hk : p.kind = 1) (hc : Rv.costOk cost = true) :
    Calls Tryz.prog 206 #[.agg (polCells p), .int .i64 owed, .int .i64 cost] w fun e w' => e = .returned (.int .i64 (Rv.takeB p owed cost)) ∧ Below w.heap.size w w' := by
  have HB := Lib.hid (fun o => (Below.refl w.heap.size w).alloc (Nat.le_refl _) o)
  have Hok := Lib.hid h
  have Hk := Lib.hid hk
  have Hc := Lib.hid hc
  obtain ⟨-, -, q1, q2⟩ := num_ok h hk
  have hcb : 1 ≤ cost ∧ cost ≤ 1048576 := by simpa [Rv.costOk, Rv.inB] using hc
  obtain ⟨a, ha⟩ : ∃ a, Rv.clipN 4611686018427387903 owed = a := ⟨_, rfl⟩
  have hab := clipN_bd 4611686018427387903 owed (by omega)
  rw [ha] at hab
  obtain ⟨x, hx⟩ : ∃ x, x = cost * p.den := ⟨_, rfl⟩
  have hxb := mul_bd (show 0 ≤ cost by omega) hcb.2 (show 0 ≤ p.den by omega) q2
  rw [← hx] at hxb
  have hw1 : IntKind.i64.wrap (cost * p.den) = x := by rw [hx]; exact IntWalk.i64_in _ (by rw [← hx]; omega)
  have hw2 : IntKind.i64.wrap (a + x) = a + x := IntWalk.i64_in _ (by omega)
  have HX : Hid (Rv.takeB p owed cost = Rv.clipN 4611686018427387903 (a + x)) := Lib.hid (by unfold Rv.takeB Rv.maxNumber; rw [ha, hx])
  have HA : Hid (∀ g w, w.cell? ⟨g, 0, none⟩ = some (.int .i64 4611686018427387903) → Calls Tryz.prog 210 #[.int .i64 owed, .pointer (some ⟨g, 0, none⟩)] w fun e w' => e = .returned (.int .i64 a) ∧ w = w') := Lib.hid (fun g w h => by rw [← ha]; exact clipfn_any owed _ g w h)
  clear h hk ha hx hc
  go_enter Tryz.func206, Tryz.ntmps206
  go_wp2_with fail
  refine (clip_any _ _).mono ?_
  rintro e w2 ⟨rfl, rfl⟩
  obtain ⟨w2, hw2⟩ : ∃ w2, w2 = (w.alloc (.cells (polCells p) 33)).alloc (.cells #[.int .i64 4611686018427387903] 3) := ⟨_, rfl⟩
  have hq : Hid (w2.heap[w.heap.size]? = some (.cells (polCells p) 33 (0, 0))) := Lib.hid (by rw [hw2, Below.heap_alloc _ _ _ (by simp)]; exact heap_alloc_new w _)
  have hq2 : Hid (w2.heap[w.heap.size + 1]? = some (.cells #[.int .i64 4611686018427387903] 3 (0, 0))) := Lib.hid (by
    rw [hw2]
    have := heap_alloc_new (w.alloc (.cells (polCells p) 33)) (.cells #[Value.int .i64 4611686018427387903] 3)
    rw [World.size_alloc] at this
    exact this)
  have B2 : Hid (Below w.heap.size w w2) := Lib.hid (by rw [hw2]; exact (HB.out _).alloc (by simp) _)
  rw [← hw2, World.size_alloc]
  clear hw2 HB
  go_wp2_with ((with_reducible refine at_slot 10 ?_); refine wpList_load_row rfl 33 (.tmp 3) rfl w.heap.size (by rfl) 33 (polCells p) (0, 0) _ hq.out Tryz.underlying33 (by rfl) info_pol ?_)
  refine (bmeans_yes p _ Hok.out Hk.out).mono ?_
  rintro e w3 ⟨rfl, b3⟩
  have k1 : w3.cell? ⟨w.heap.size + 1, 0, none⟩ = some (.int .i64 4611686018427387903) := by rw [cells_of ((b3.block _ (Array.getElem?_eq_some_iff.1 hq2.out).1).trans hq2.out)]; rfl
  have k3 : w3.cell? ⟨w.heap.size, 3, none⟩ = some (.int .i64 p.den) := by rw [cells_of ((b3.block _ (Array.getElem?_eq_some_iff.1 hq.out).1).trans hq.out)]; rfl
  have B3 := Lib.hid (below_then B2.out B2.out.size b3)
  clear b3 B2 hq hq2
  go_wp2_with fail
  refine (bmay_any cost true Hc.out w3).mono ?_
  rintro e w' ⟨rfl, rfl⟩
  go_upto_region 6 with (fail)
  go_region_held3 (fun w' => w'.cell? ⟨w.heap.size, 3, none⟩ = some (.int .i64 p.den)) (first | exact k3 | go_keep)
    (first
      | (go_at_call 210; refine (HA.out (w.heap.size + 1) w3.drew k1).mono ?_; rintro e w' ⟨rfl, rfl⟩)
      | (go_at_call 210; refine (clipfn_any (a + x) _ (w.heap.size + 1) w3.drew k1).mono ?_; rintro e w' ⟨rfl, rfl⟩))
  all_goals
    go_wp2_with fail
    go_ret
    exact ⟨ret_int (by rw [HX.out]), B3.out.drew⟩
end Go.Proofs.YtcmndglhileeoaaGreat

/- The walks of package window: Grid, Fresh, counts, of a policy that may be and a window as it should be. -/
set_option linter.unusedSimpArgs false
set_option linter.unusedVariables false
namespace Go.Proofs.YtcmndglhileeoaaGreat
open Go.RowKit
open Rv (HP Sat Same pt allOf sat_all RdIn row own)

abbrev intI (n : Int) : Value := .int .i64 n
theorem wclip_any (n : Int) (w : World) :
    Calls Tryz.prog 173 #[.int .i64 n] w fun e w' => e = .returned (.int .i64 (Rv.clipN 1099511627776 n)) ∧ w = w' := by
  go_enter Tryz.func173, Tryz.ntmps173
  go_wp2
  all_goals
    go_ret
    exact ⟨ret_int (by unfold Rv.clipN; omega), rfl⟩

theorem wmay_yes (n : Int) (hb : Rv.costOk n = true) (w : World) : Calls Tryz.prog 218 #[.int .i64 n] w fun e w' => e = .returned (.bool true) ∧ w = w' := by
  have h : 1 ≤ n ∧ n ≤ 1048576 := by simpa [Rv.costOk, Rv.inB] using hb
  have d0 : decide (1 ≤ n) = true := by simpa using h.1
  have d1 : decide (n ≤ 1048576) = true := by simpa using h.2
  clear hb h
  go_enter Tryz.func218, Tryz.ntmps218
  go_wp2
  go_ret
  exact ⟨rfl, rfl⟩

set_option maxHeartbeats 1000000 in
set_option maxRecDepth 100000 in
theorem wmeans_yes (p : Rv.Pol) (w : World) (h : p.ok = true) (hk : p.kind = 2) :
    Calls Tryz.prog 160 #[.agg (polCells p)] w fun e w' => e = .returned (.bool true) ∧ Below w.heap.size w w' := by
  have HB := Lib.hid (fun o => (Below.refl w.heap.size w).alloc (Nat.le_refl _) o)
  have HR := Lib.hid (right_0 h)
  have hk1 : (p.kind == 2) = true := by rw [hk]; rfl
  clear h hk
  go_enter Tryz.func160, Tryz.ntmps160
  go_wp2_with ((with_reducible refine at_slot 7 ?_); refine wpList_load_row rfl 33 (.tmp 1) rfl w.heap.size (by rfl) 33 (polCells p) (0, 0) _ (heap_alloc_new w _) Tryz.underlying33 (by rfl) info_pol ?_)
  refine (pright_any p _).mono ?_
  rintro e w1 ⟨rfl, b1⟩
  rw [HR.out]
  have B1 := Lib.hid (below_then (HB.out _) (by simp) b1)
  clear b1
  go_wp2_with fail
  go_ret
  exact ⟨rfl, B1.out⟩

theorem width_ok {p : Rv.Pol} (h : p.ok = true) (hk : p.kind = 2) : 1 ≤ p.width ∧ p.width ≤ 1048576 ∧ 1 ≤ p.count ∧ p.count ≤ 32 := by
  have h1 : (p.fields.all fun f => Rv.inB f.1 f.2.1 f.2.2) = true := by
    unfold Rv.Pol.ok at h
    exact (Bool.and_eq_true_iff.1 h).2
  have h0 := (all_iff p (kind_ok h)).1 h1
  have h2 := h0 2 (by omega) 4 1 1048576 (by unfold tabOf; rw [if_neg (by omega)]; rfl)
  have h3 := h0 3 (by omega) 5 1 32 (by unfold tabOf; rw [if_neg (by omega)]; rfl)
  exact ⟨h2.1, h2.2, h3.1, h3.2⟩

set_option maxHeartbeats 2000000 in
set_option maxRecDepth 100000 in
theorem grid_any (p : Rv.Pol) (tick : Int) (w : World) (h : p.ok = true) (hk : p.kind = 2) :
    Calls Tryz.prog 161 #[.agg (polCells p), .int .i64 tick] w fun e w' => e = .returned (.int .i64 (Rv.gridOf p tick)) ∧ Below w.heap.size w w' := by
  have HB := Lib.hid (fun o => (Below.refl w.heap.size w).alloc (Nat.le_refl _) o)
  have Hok := Lib.hid h
  have Hk := Lib.hid hk
  obtain ⟨q1, q2, -, -⟩ := width_ok h hk
  obtain ⟨t, ht⟩ : ∃ t, Rv.clipN 1099511627776 tick = t := ⟨_, rfl⟩
  have htb := clipN_bd 1099511627776 tick (by omega)
  rw [ht] at htb
  have HX : Hid (Rv.gridOf p tick = t / p.width) := Lib.hid (by unfold Rv.gridOf; rw [ht])
  have HT : Hid (∀ w, Calls Tryz.prog 173 #[.int .i64 tick] w fun e w' => e = .returned (.int .i64 t) ∧ w = w') := Lib.hid (fun w => by rw [← ht]; exact wclip_any tick w)
  have hz : ¬ p.width = 0 := by omega
  have hz2 : (p.width == 0) = false := beq_eq_false_iff_ne.2 hz
  clear h hk ht
  go_enter Tryz.func161, Tryz.ntmps161
  go_wp2_with ((with_reducible refine at_slot 5 ?_); refine wpList_load_row rfl 33 (.tmp 2) rfl w.heap.size (by rfl) 33 (polCells p) (0, 0) _ (heap_alloc_new w _) Tryz.underlying33 (by rfl) info_pol ?_)
  refine (wmeans_yes p _ Hok.out Hk.out).mono ?_
  rintro e w1 ⟨rfl, b1⟩
  have B1 := Lib.hid (below_then (HB.out _) (by simp) b1)
  have d2 : w1.cell? ⟨w.heap.size, 4, none⟩ = some (.int .i64 p.width) := by rw [cells_of ((b1.block w.heap.size (by simp)).trans (heap_alloc_new w _))]; rfl
  clear b1
  go_upto_region 3 with (fail)
  go_region_held3 (fun w' => w'.cell? ⟨w.heap.size, 4, none⟩ = some (.int .i64 p.width)) (first | exact d2 | go_keep)
    (first
      | (go_at_call 173; refine (HT.out w1.drew).mono ?_; rintro e w' ⟨rfl, rfl⟩))
  all_goals
    go_wp2_with fail
    go_ret
    exact ⟨ret_int (by
      have e1 : t.tdiv p.width = t / p.width := Int.tdiv_eq_ediv_of_nonneg htb.1
      have e2 : 0 ≤ t / p.width := Int.ediv_nonneg htb.1 (by omega)
      have e3 : t / p.width ≤ t := Int.ediv_le_self _ htb.1
      show IntKind.i64.wrap (t.tdiv p.width) = _
      rw [HX.out, e1]; exact IntWalk.i64_in _ (by omega)), B1.out.drew⟩

def intZeros (n : Nat) : Array Value := madeCells (Value.int .i64 0).cells n
theorem intZeros_list (n : Nat) : (intZeros n).toList = (List.replicate n (0 : Int)).map intI := by
  unfold intZeros madeCells
  have : ∀ k : Nat, (Value.int .i64 0).cells[k % (Value.int .i64 0).cells.size]! = Value.int .i64 0 := by
    intro k
    have h : (Value.int .i64 0).cells.size = 1 := rfl
    rw [h, Nat.mod_one]
    rfl
  simp only [this]
  apply List.ext_getElem?
  intro i
  simp only [Array.toList_map, Array.toList_range, List.getElem?_map, List.getElem?_range', List.getElem?_replicate]
  by_cases hi : i < n
  · simp [hi]
  · simp [hi]
theorem info_int : (Tryz.prog.info? 3).map (fun i => (i.zero, i.size, i.bytes)) = some (some (.int .i64 0), 1, 8) := by kernel_rfl
theorem make_ints (w : World) (n : Nat) (h : n ≤ 64) : (Instr.makeSlice 39 (.int .i64 (n : Int)) (.int .i64 (n : Int))).run Tryz.prog w = .ok (.slice (some ⟨w.heap.size, 0, none⟩) n n) (w.alloc (.cells (intZeros n) 3)) := by
  obtain ⟨i0, hi, hz0, hz1, hz2⟩ := info_parts' info_int
  have := run_makeSlice (P := Tryz.prog) (w := w) 39 3 i0 (.int .i64 0) Tryz.underlying39 hi hz0 .i64 .i64 (n : Int) (n : Int) (by omega) (by omega) (by rw [hz1]; omega) (by rw [hz2]; omega) (by omega)
  rw [this, hz1]
  simp [intZeros]

theorem pol_cells {w : World} {g : Nat} {p : Rv.Pol} {m : Nat × Nat} (q : w.heap[g]? = some (.cells (polCells p) 33 m)) : w.cell? ⟨g, 0, none⟩ = some (.int .i64 p.kind) ∧ w.cell? ⟨g, 1, none⟩ = some (.int .i64 p.cap) ∧ w.cell? ⟨g, 2, none⟩ = some (.int .i64 p.num) ∧ w.cell? ⟨g, 3, none⟩ = some (.int .i64 p.den) ∧ w.cell? ⟨g, 4, none⟩ = some (.int .i64 p.width) ∧ w.cell? ⟨g, 5, none⟩ = some (.int .i64 p.count) ∧ w.cell? ⟨g, 6, none⟩ = some (.int .i64 p.keys) ∧ w.cell? ⟨g, 7, none⟩ = some (.int .i64 p.slots) ∧ w.cell? ⟨g, 8, none⟩ = some (.int .i64 p.every) ∧ w.cell? ⟨g, 9, none⟩ = some (.int .i64 p.seg) := by
  refine ⟨?_, ?_, ?_, ?_, ?_, ?_, ?_, ?_, ?_, ?_⟩ <;> (rw [cells_of q]; rfl)
theorem sums_put {w : World} {g : Nat} {Q : HP} {a b x y : Value} {t : TypeId} (h : Sat w (pt g (.cells #[a, b] t) * Q)) : Sat ((w.setCell ⟨g, 0, none⟩ x).setCell ⟨g, 1, none⟩ y) (pt g (.cells #[x, y] t) * Q) := (h.setCell (i := 0) x).setCell (i := 1) y
theorem set_size (w : World) (a : Addr) (v : Value) : (w.setCell a v).heap.size = w.heap.size := by simp [World.setCell]
/-- A window's value. -/
abbrev sumsV (s : Rv.Sums) (B : Option Addr) (c : Nat) : Value := .agg #[.int .i64 s.grid, .slice B s.l.length c]
def intsP (v : Value) (l : List Int) : HP := row 3 v (l.map intI)

theorem ints_row {w : World} {g n : Nat} {R : HP} (h : Sat w (pt g (.cells (intZeros n) 3) * R)) (hn : n ≤ 64) : Sat w (intsP (.slice (some ⟨g, 0, none⟩) n n) (List.replicate n 0) * R) := by
  have := h.to_row (intZeros_list n) (by simp only [List.length_map, List.length_replicate, maxLen]; omega)
  simpa [intsP] using this
theorem info_sums : (Tryz.prog.info? 224).map (·.size) = some 2 := by kernel_rfl
theorem fresh_fin {w : World} {R : HP} {p : Rv.Pol} {tick : Int} {n : Nat} {g g4 : Nat} {Q : HP} (hn : (n : Int) = p.count) (hl : n ≤ 64) (h : Sat w (pt g (.cells (intZeros n) 3) * (pt g4 (.cells #[.int .i64 (Rv.gridOf p tick), .slice (some ⟨g, 0, none⟩) n n] 224) * (Q * R)))) :
    sumsV (Rv.freshW p tick) (some ⟨g, 0, none⟩) n = .agg #[.int .i64 (Rv.gridOf p tick), .slice (some ⟨g, 0, none⟩) n n] ∧
    Sat w (intsP (.slice (some ⟨g, 0, none⟩) (Rv.freshW p tick).l.length n) (Rv.freshW p tick).l * R) ∧ w.heap[g4]? = some (.cells #[.int .i64 (Rv.gridOf p tick), .slice (some ⟨g, 0, none⟩) n n] 224 (0, 0)) := by
  have e : Rv.freshW p tick = ⟨Rv.gridOf p tick, List.replicate n 0⟩ := by unfold Rv.freshW; rw [← hn]; rfl
  rw [e]
  simp only [List.length_replicate]
  exact ⟨by simp [sumsV], (ints_row h hl).drop2.drop2, h.right.heap⟩

set_option maxHeartbeats 2000000 in
set_option maxRecDepth 100000 in
theorem fresh_any (R : HP) (p : Rv.Pol) (tick : Int) (w : World) (hR : Sat w R) (h : p.ok = true) (hk : p.kind = 2) :
    Calls Tryz.prog 156 #[.agg (polCells p), .int .i64 tick] w fun e w' => ∃ B c, e = .returned (sumsV (Rv.freshW p tick) B c) ∧ Sat w' (intsP (.slice B (Rv.freshW p tick).l.length c) (Rv.freshW p tick).l * R) ∧ Same w w' := by
  have Hok := Lib.hid h
  have Hk := Lib.hid hk
  obtain ⟨-, -, q1, q2⟩ := width_ok h hk
  have S0 := Lib.hid ((hR.alloc (.cells (polCells p) 33)).alloc (.cells #[.int .i64 0, .slice none 0 0] 224))
  have Z0 : Hid (Same w ((w.alloc (.cells (polCells p) 33)).alloc (.cells #[.int .i64 0, .slice none 0 0] 224))) := Lib.hid (Same.of (((Kept.refl (fun _ => False) w).alloc _).alloc _))
  clear h hk hR
  go_enter Tryz.func156, Tryz.ntmps156
  go_upto_region 1 with (fail)
  obtain ⟨w0, hw0⟩ : ∃ w0, w0 = (w.alloc (.cells (polCells p) 33)).alloc (.cells #[.int .i64 0, .slice none 0 0] 224) := ⟨_, rfl⟩
  change Code.wp _ _ _ _ ((w.alloc (.cells (polCells p) 33)).alloc (.cells #[.int .i64 0, .slice none 0 0] 224))
  rw [← hw0] at S0 Z0 ⊢
  rw [World.size_alloc] at S0
  clear hw0
  have q0 := Lib.hid S0.out.right.heap
  go_wp2_with ((with_reducible refine at_slot 5 ?_); refine wpList_load_row rfl 33 (.tmp 2) rfl w.heap.size (by rfl) 33 (polCells p) (0, 0) _ q0.out Tryz.underlying33 (by rfl) info_pol ?_)
  refine (wmeans_yes p _ Hok.out Hk.out).mono ?_
  rintro e w1 ⟨rfl, b1⟩
  have S1 := Lib.hid (S0.out.below b1)
  have Z1 := Lib.hid (Z0.out.then (Rv.Same.below b1))
  clear b1 S0 Z0 q0
  generalize w.heap.size + 1 = g4 at *
  generalize w.heap.size = g2 at *
  go_upto_region 3 with (fail)
  obtain ⟨n, hn⟩ : ∃ n : Nat, (n : Int) = p.count := ⟨p.count.toNat, by omega⟩
  have Hn := Lib.hid hn
  have hmk := fun w => make_ints w n (by omega)
  rw [hn] at hmk
  clear hn
  have K0 := Lib.hid (pol_cells S1.out.right.heap)
  have S1a := Lib.hid ((S1.out.alloc (.cells (intZeros n) 3)).drew)
  have K0b := Lib.hid (pol_cells S1a.out.right.right.heap)
  go_region_held3 (fun w' => w'.cell? ⟨g2, 0, none⟩ = some (.int .i64 p.kind) ∧ w'.cell? ⟨g2, 1, none⟩ = some (.int .i64 p.cap) ∧ w'.cell? ⟨g2, 2, none⟩ = some (.int .i64 p.num) ∧ w'.cell? ⟨g2, 3, none⟩ = some (.int .i64 p.den) ∧ w'.cell? ⟨g2, 4, none⟩ = some (.int .i64 p.width) ∧ w'.cell? ⟨g2, 5, none⟩ = some (.int .i64 p.count) ∧ w'.cell? ⟨g2, 6, none⟩ = some (.int .i64 p.keys) ∧ w'.cell? ⟨g2, 7, none⟩ = some (.int .i64 p.slots) ∧ w'.cell? ⟨g2, 8, none⟩ = some (.int .i64 p.every) ∧ w'.cell? ⟨g2, 9, none⟩ = some (.int .i64 p.seg)) (first | exact K1.out | exact K0.out | exact K0b.out | exact KE.out | go_keep)
    (first
      | (go_at_call 161; refine (grid_any p tick w1.drew Hok.out Hk.out).mono ?_; rintro e w2 ⟨rfl, b2⟩; have S2 := Lib.hid (S1.out.drew.below b2); have Z2 := Lib.hid (Z1.out.drew.then (Rv.Same.below b2)); have K1 := Lib.hid (pol_cells S2.out.right.heap); have f0 : w2.cell? ⟨g4, 0, none⟩ = some (.int .i64 0) := (cells_of S2.out.heap 0).trans rfl; have f1 : w2.cell? ⟨g4, 1, none⟩ = some (.slice none 0 0) := (cells_of S2.out.heap 1).trans rfl; have f2 : ∀ i, w2.frozen? ⟨g4, i, none⟩ = false := frozen_of S2.out.heap; have f3 : g4 < w2.heap.size := S2.out.lt; have f4 : g2 < w2.heap.size := S2.out.right.lt; have SE := Lib.hid ((sums_put (x := .int .i64 (Rv.gridOf p tick)) (y := .slice (some ⟨w2.heap.size, 0, none⟩) n n) S2.out).alloc (.cells (intZeros n) 3)); rw [set_size, set_size] at SE; have KE := Lib.hid (pol_cells SE.out.right.right.heap); clear b2)
      | (go_at_call 161; refine (grid_any p tick (w1.alloc (.cells (intZeros n) 3)).drew Hok.out Hk.out).mono ?_; rintro e w2 ⟨rfl, b2⟩; have S2 := Lib.hid (S1a.out.below b2).swap; have Z2 := Lib.hid ((Z1.out.drew.then (Same.of (Kept.alloc (Kept.refl (fun _ => False) _) _))).then (Rv.Same.below b2)); have K1 := Lib.hid (pol_cells S2.out.right.right.heap); have f0 : w2.cell? ⟨g4, 0, none⟩ = some (.int .i64 0) := (cells_of S2.out.heap 0).trans rfl; have f1 : w2.cell? ⟨g4, 1, none⟩ = some (.slice none 0 0) := (cells_of S2.out.heap 1).trans rfl; have f2 : ∀ i, w2.frozen? ⟨g4, i, none⟩ = false := frozen_of S2.out.heap; have f3 : g4 < w2.heap.size := S2.out.lt; have f4 : g2 < w2.heap.size := S2.out.right.right.lt; have SE := Lib.hid (sums_put (x := .int .i64 (Rv.gridOf p tick)) (y := .slice (some ⟨w1.heap.size, 0, none⟩) n n) S2.out); have KE := Lib.hid (pol_cells SE.out.right.right.heap); clear b2))
  all_goals
    first
    | have HF := Lib.hid (fresh_fin Hn.out (by have := Hn.out; omega) SE.out)
    | have HF := Lib.hid (fresh_fin Hn.out (by have := Hn.out; omega) SE.out.swap)
  all_goals
    first
    | (have ZF : Hid (Same w (((w2.setCell ⟨g4, 0, none⟩ (.int .i64 (Rv.gridOf p tick))).setCell ⟨g4, 1, none⟩ (.slice (some ⟨w2.heap.size, 0, none⟩) n n)).alloc (.cells (intZeros n) 3))) := Lib.hid (Z2.out.then (Same.of (((Kept.refl (fun _ => True) w2).setCell _ _ (.inl trivial)).setCell _ _ (.inl trivial) |>.alloc _)))
       clear S1 Z1 K0 S1a K0b S2 Z2 K1 f0 f1 f2 f3 f4 SE KE
       go_wp2_with fail
       exact bodyPost_ret (results_cell_row Tryz.results156 _ _ g4 224 _ (0, 0) _ (by rfl) HF.out.2.2 Tryz.underlying224 (by rfl) info_sums) rfl ⟨_, _, by rw [HF.out.1], HF.out.2.1, ZF.out⟩)
    | (have ZF : Hid (Same w ((w2.setCell ⟨g4, 0, none⟩ (.int .i64 (Rv.gridOf p tick))).setCell ⟨g4, 1, none⟩ (.slice (some ⟨w1.heap.size, 0, none⟩) n n))) := Lib.hid (Z2.out.then (Same.of (((Kept.refl (fun _ => True) w2).setCell _ _ (.inl trivial)).setCell _ _ (.inl trivial))))
       clear S1 Z1 K0 S1a K0b S2 Z2 K1 f0 f1 f2 f3 f4 SE KE
       go_wp2_with fail
       exact bodyPost_ret (results_cell_row Tryz.results156 _ _ g4 224 _ (0, 0) _ (by rfl) HF.out.2.2 Tryz.underlying224 (by rfl) info_sums) rfl ⟨_, _, by rw [HF.out.1], HF.out.2.1, ZF.out⟩)
end Go.Proofs.YtcmndglhileeoaaGreat
