/- A part of the proof: its texts in a row: TapeH, TapeK. Each text's own remark stands at its head. -/
import Derived.Test.YtcmndglhileeoaaGreatQTapeEToTapeI
/- The walks of package tape: begun of a right policy (not ended). -/
set_option linter.unusedSimpArgs false
set_option linter.unusedVariables false
namespace Go.Proofs.YtcmndglhileeoaaGreat
open Go.RowKit
open Rv (HP Sat Same pt allOf sat_all RdIn row own)

/-- Behind begun's maker. -/
def BegMid (R : HP) (w wx : World) (v : Value) (p : Rv.Pol) (g1 g2 : Nat) (B : Option Addr) (C : Nat) : Prop :=
  ∃ g7, v = .pointer (some ⟨g7, 0, none⟩) ∧ Sat wx (pt g7 (.cells (mkCells p none none Rv.Link.first (.slice none 0 0) 0 p.header.length) 65) * (bytesP (.slice B p.header.length C) p.header * (pt g2 (.cells mkZero 65) * (pt g1 (.cells (polCells p) 33) * R)))) ∧ Same w wx
theorem zero_mk : (Tryz.prog.info? 65).map (fun i => (i.zero, i.size)) = some (some (.agg mkZero), 19) := by kernel_rfl
set_option maxHeartbeats 2000000 in
set_option maxRecDepth 100000 in
theorem begun_ok (R : HP) (p : Rv.Pol) (w : World) (hR : Sat w R) (h : p.ok = true) :
    Calls Tryz.prog 20 #[.agg (polCells p)] w fun e w' => ∃ gc gl B C, e = .returned (.tuple #[.agg (mkCells p (some ⟨gc, 0, none⟩) (some ⟨gl, 0, none⟩) (Rv.Maker.begun p).link (.slice none 0 0) 0 p.header.length), .slice B p.header.length C, .int .i64 0]) ∧
      Sat w' (coderP gc (Rv.Coder.new p) * (ledP 1 gl (Rv.Ledger.new p) * (bytesP (.slice B p.header.length C) p.header * (1 * R)))) ∧ Same w w' := by
  have Hok := Lib.hid h
  have S0 : Hid (Sat ((w.alloc (.cells (polCells p) 33)).alloc (.cells mkZero 65)) (pt (w.heap.size + 1) (.cells mkZero 65) * (pt w.heap.size (.cells (polCells p) 33) * R))) := Lib.hid (by
    have := (hR.alloc (.cells (polCells p) 33)).alloc (.cells mkZero 65)
    rw [World.size_alloc] at this
    exact this)
  have Z0 : Hid (Same w ((w.alloc (.cells (polCells p) 33)).alloc (.cells mkZero 65))) := Lib.hid (Same.of (((Kept.refl (fun _ => False) w).alloc _).alloc _))
  clear h hR
  go_enter Tryz.func20, Tryz.ntmps20
  go_upto_region 1 with (fail)
  obtain ⟨w2, hw2⟩ : ∃ w2, w2 = ((w.alloc (.cells (polCells p) 33)).alloc (.cells mkZero 65)) := ⟨_, rfl⟩
  change Code.wp _ _ _ _ ((w.alloc (.cells (polCells p) 33)).alloc (.cells mkZero 65))
  rw [← hw2] at S0 Z0 ⊢
  clear hw2
  generalize w.heap.size + 1 = g2 at *
  generalize hg1 : w.heap.size = g1 at *
  have q1 := Lib.hid S0.out.right.heap
  go_wp2_with ((with_reducible refine at_slot 9 ?_); refine wpList_load_row rfl 33 (.tmp 1) rfl g1 (by rfl) 33 (polCells p) (0, 0) _ q1.out Tryz.underlying33 (by rfl) info_pol ?_)
  refine (header_ok _ p w2 S0.out Hok.out).mono ?_
  rintro e w3 ⟨B, C, rfl, s3, z3⟩
  have S3 := Lib.hid s3
  have Z3 := Lib.hid (Z0.out.then z3)
  clear s3 z3 S0 Z0 q1
  have HK0 : Hid (∀ (w' : World) (X : HP), Sat w' (pt g1 (.cells (polCells p) 33) * X) → w'.cell? ⟨g1, 0, none⟩ = some (.int .i64 p.kind) ∧ w'.cell? ⟨g1, 1, none⟩ = some (.int .i64 p.cap) ∧ w'.cell? ⟨g1, 2, none⟩ = some (.int .i64 p.num) ∧ w'.cell? ⟨g1, 3, none⟩ = some (.int .i64 p.den) ∧ w'.cell? ⟨g1, 4, none⟩ = some (.int .i64 p.width) ∧ w'.cell? ⟨g1, 5, none⟩ = some (.int .i64 p.count) ∧ w'.cell? ⟨g1, 6, none⟩ = some (.int .i64 p.keys) ∧ w'.cell? ⟨g1, 7, none⟩ = some (.int .i64 p.slots) ∧ w'.cell? ⟨g1, 8, none⟩ = some (.int .i64 p.every) ∧ w'.cell? ⟨g1, 9, none⟩ = some (.int .i64 p.seg)) := Lib.hid (fun w' X h => by
    have q := h.heap
    exact ⟨(cells_of q 0).trans rfl, (cells_of q 1).trans rfl, (cells_of q 2).trans rfl, (cells_of q 3).trans rfl, (cells_of q 4).trans rfl, (cells_of q 5).trans rfl, (cells_of q 6).trans rfl, (cells_of q 7).trans rfl, (cells_of q 8).trans rfl, (cells_of q 9).trans rfl⟩)
  have K0 := Lib.hid (HK0.out _ _ (S3.out.third.drew))
  have S3b : Hid (Sat (w3.alloc (.cells mkZero 65)).drew _) := Lib.hid (S3.out.alloc (.cells mkZero 65)).drew
  have K0b := Lib.hid (HK0.out _ _ (S3b.out.fourth))
  go_upto_region 4 with (fail)
  go_cut [7] (fun v wx => BegMid R w wx v p g1 g2 B C)
  case first =>
    refine wp_region_held_drew (S := fun w' => w'.cell? ⟨g1, 0, none⟩ = some (.int .i64 p.kind) ∧ w'.cell? ⟨g1, 1, none⟩ = some (.int .i64 p.cap) ∧ w'.cell? ⟨g1, 2, none⟩ = some (.int .i64 p.num) ∧ w'.cell? ⟨g1, 3, none⟩ = some (.int .i64 p.den) ∧ w'.cell? ⟨g1, 4, none⟩ = some (.int .i64 p.width) ∧ w'.cell? ⟨g1, 5, none⟩ = some (.int .i64 p.count) ∧ w'.cell? ⟨g1, 6, none⟩ = some (.int .i64 p.keys) ∧ w'.cell? ⟨g1, 7, none⟩ = some (.int .i64 p.slots) ∧ w'.cell? ⟨g1, 8, none⟩ = some (.int .i64 p.every) ∧ w'.cell? ⟨g1, 9, none⟩ = some (.int .i64 p.seg)) (by kernel_rfl) K0.out (fun hHeld => ?_)
    refine wpAnyH_take (i := 0) (oi := ⟨some 17, .load 33 (.tmp 1), 33, "tape.go:33", #[], none⟩) (v := ?_) rfl (by kernel_rfl) (by kernel_rfl) (by kernel_rfl) (fun _ _ _ h => h) (Or.inl ⟨by rfl, ?_⟩) (by assumption) ?_
    rotate_left
    · intro w hSw
      try dsimp only at hSw
      go_simp
      try with_reducible rfl
    try simp only [Act.put, List.setIfInBounds_toArray, List.set_cons_zero, List.set_cons_succ]
    refine wpAnyH_take (i := 2) (oi := ⟨some 19, .move (.tmp 5), 22, "tape.go:33", #[], none⟩) (v := ?_) rfl (by kernel_rfl) (by kernel_rfl) (by kernel_rfl) (fun _ _ _ h => h) (Or.inl ⟨by rfl, ?_⟩) (by assumption) ?_
    rotate_left
    · intro w hSw
      try dsimp only at hSw
      go_simp
      try with_reducible rfl
    try simp only [Act.put, List.setIfInBounds_toArray, List.set_cons_zero, List.set_cons_succ]
    refine wpAnyH_take (i := 3) (oi := ⟨some 20, .call { callee := .builtin .len, args := #[.tmp 19], argTypes := #[22] }, 3, "tape.go:33", #[⟨2, .data⟩], none⟩) (v := ?_) rfl (by kernel_rfl) (by kernel_rfl) (by kernel_rfl) (fun _ _ _ h => h) (Or.inl ⟨by rfl, ?_⟩) (by assumption) ?_
    rotate_left
    · intro w hSw
      try dsimp only at hSw
      go_simp
      try with_reducible rfl
    try simp only [Act.put, List.setIfInBounds_toArray, List.set_cons_zero, List.set_cons_succ]
    refine wpAnyH_ready (rs := [1, 5]) (by kernel_rfl) (by simp) ?_
    refine AllReadyH.cons (o := ⟨some 18, .call { callee := .value (.func 34), args := #[], argTypes := #[] }, 63, "tape.go:33", #[], none⟩) rfl (fun K hK => ?_) (AllReadyH.cons (o := ⟨some 7, .alloc 65, 0, "tape.go:33", #[], none⟩) rfl (fun K hK => ?_) AllReadyH.nil)
    · go_simp
      refine (first_any w3.drew).mono ?_
      rintro e w4 ⟨rfl, b4⟩
      have S4 := Lib.hid (S3.out.drew.below b4)
      have Z4 := Lib.hid (Z3.out.drew.then (Rv.Same.below b4))
      have K1 := Lib.hid (HK0.out _ _ S4.out.third)
      refine hK.out _ _ K1.out (fun hHeld2 => ?_)
      clear hK K hHeld b4
      try simp only [Act.put, List.setIfInBounds_toArray, List.set_cons_zero, List.set_cons_succ]
      refine wpAnyH_take (i := 4) (oi := ⟨some 21, .build 65 #[(0, .tmp 17), (3, .tmp 18), (6, .tmp 20)], 65, "tape.go:33", #[⟨0, .data⟩, ⟨1, .data⟩, ⟨3, .data⟩], none⟩) (v := ?_) rfl (by kernel_rfl) (by kernel_rfl) (by kernel_rfl) (fun _ _ _ h => h) (Or.inl ⟨by rfl, ?_⟩) (by assumption) ?_
      rotate_left
      · intro w hSw
        try dsimp only at hSw
        go_simp
        try with_reducible rfl
      try simp only [Act.put, List.setIfInBounds_toArray, List.set_cons_zero, List.set_cons_succ]
      have S5 := Lib.hid (S4.out.alloc (.cells mkZero 65))
      have K2 := Lib.hid (HK0.out _ _ S5.out.fourth)
      refine wpAnyH_ready (rs := [5]) (by kernel_rfl) (by simp) ?_
      refine AllReadyH.cons (o := ⟨some 7, .alloc 65, 0, "tape.go:33", #[], none⟩) rfl (fun K hK => ?_) AllReadyH.nil
      refine step_alloc rfl 65 rfl (.agg mkZero) (zero_of_info zero_mk).1 ?_
      refine hK.out _ _ K2.out (fun hHeld => ?_)
      clear hK K hHeld2
      try simp only [Act.put, List.setIfInBounds_toArray, List.set_cons_zero, List.set_cons_succ]
      have S6 := Lib.hid (sat_setRow (n := (mkCells p none none Rv.Link.first (.slice none 0 0) 0 p.header.length)) S5.out)
      have K3 := Lib.hid (HK0.out _ _ S6.out.fourth)
      refine wpAnyH_ready (rs := [6]) (by kernel_rfl) (by simp) ?_
      refine AllReadyH.cons (o := ⟨none, .store 65 (.tmp 7) (.tmp 21), 0, "tape.go:33", #[⟨5, .data⟩, ⟨4, .data⟩, ⟨1, .chain⟩, ⟨0, .phase⟩, ⟨1, .phase⟩, ⟨2, .phase⟩, ⟨3, .phase⟩, ⟨4, .phase⟩, ⟨5, .phase⟩], none⟩) rfl (fun K hK => ?_) AllReadyH.nil
      refine step_store_row rfl 65 (.tmp 7) (.tmp 21) rfl w4.heap.size (mkCells p none none Rv.Link.first (.slice none 0 0) 0 p.header.length) (by rfl) (by rfl) 65 mkZero S5.out.heap info_mk (by rfl) (by simp [Value.oneCell']) ?_
      refine hK.out _ _ K3.out (fun hHeld3 => ?_)
      clear hK K hHeld
      refine wpAnyH_done (by kernel_rfl) ?_ _
      clear hHeld3
      go_wp2_with fail
      go_meet
      case rel => exact ⟨_, rfl, S6.out, (Z4.out.then (Same.of ((Kept.refl (fun _ => False) _).alloc _))).then (same_setRow _ _ _)⟩
    · have S5 : Hid (Sat (w3.drew.alloc (.cells mkZero 65)) _) := Lib.hid (S3.out.drew.alloc (.cells mkZero 65))
      have K1 := Lib.hid (HK0.out _ _ S5.out.fourth)
      refine step_alloc rfl 65 rfl (.agg mkZero) (zero_of_info zero_mk).1 ?_
      refine hK.out _ _ K1.out (fun hHeld2 => ?_)
      clear hK K hHeld
      try simp only [Act.put, List.setIfInBounds_toArray, List.set_cons_zero, List.set_cons_succ]
      refine wpAnyH_ready (rs := [1]) (by kernel_rfl) (by simp) ?_
      refine AllReadyH.cons (o := ⟨some 18, .call { callee := .value (.func 34), args := #[], argTypes := #[] }, 63, "tape.go:33", #[], none⟩) rfl (fun K hK => ?_) AllReadyH.nil
      go_simp
      refine (first_any _).mono ?_
      rintro e w4 ⟨rfl, b4⟩
      have S6 := Lib.hid (S5.out.below b4)
      have Z6 : Hid (Same w w4) := Lib.hid ((Z3.out.drew.then (Same.of ((Kept.refl (fun _ => False) _).alloc _))).then (Rv.Same.below b4))
      have K2 := Lib.hid (HK0.out _ _ S6.out.fourth)
      refine hK.out _ _ K2.out (fun hHeld => ?_)
      clear hK K hHeld2 b4
      try simp only [Act.put, List.setIfInBounds_toArray, List.set_cons_zero, List.set_cons_succ]
      refine wpAnyH_take (i := 4) (oi := ⟨some 21, .build 65 #[(0, .tmp 17), (3, .tmp 18), (6, .tmp 20)], 65, "tape.go:33", #[⟨0, .data⟩, ⟨1, .data⟩, ⟨3, .data⟩], none⟩) (v := ?_) rfl (by kernel_rfl) (by kernel_rfl) (by kernel_rfl) (fun _ _ _ h => h) (Or.inl ⟨by rfl, ?_⟩) (by assumption) ?_
      rotate_left
      · intro w hSw
        try dsimp only at hSw
        go_simp
        try with_reducible rfl
      try simp only [Act.put, List.setIfInBounds_toArray, List.set_cons_zero, List.set_cons_succ]
      have S7 := Lib.hid (sat_setRow (n := (mkCells p none none Rv.Link.first (.slice none 0 0) 0 p.header.length)) S6.out)
      have K3 := Lib.hid (HK0.out _ _ S7.out.fourth)
      refine wpAnyH_ready (rs := [6]) (by kernel_rfl) (by simp) ?_
      refine AllReadyH.cons (o := ⟨none, .store 65 (.tmp 7) (.tmp 21), 0, "tape.go:33", #[⟨5, .data⟩, ⟨4, .data⟩, ⟨1, .chain⟩, ⟨0, .phase⟩, ⟨1, .phase⟩, ⟨2, .phase⟩, ⟨3, .phase⟩, ⟨4, .phase⟩, ⟨5, .phase⟩], none⟩) rfl (fun K hK => ?_) AllReadyH.nil
      refine step_store_row rfl 65 (.tmp 7) (.tmp 21) rfl w3.heap.size (mkCells p none none Rv.Link.first (.slice none 0 0) 0 p.header.length) (by rfl) (by rfl) 65 mkZero S6.out.heap info_mk (by rfl) (by simp [Value.oneCell']) ?_
      refine hK.out _ _ K3.out (fun hHeld3 => ?_)
      clear hK K hHeld
      refine wpAnyH_done (by kernel_rfl) ?_ _
      clear hHeld3
      go_wp2_with fail
      go_meet
      case rel => exact ⟨_, rfl, S7.out, Z6.out.then (same_setRow _ _ _)⟩
  case rest =>
    rename World => w5
    obtain ⟨g7, rfl, s5, z5⟩ := hcut
    have S5 := Lib.hid s5
    have Z5 := Lib.hid z5
    clear s5 z5 S3 S3b K0 K0b Z3
    have q1 := Lib.hid S5.out.fourth.heap
    go_wp2_with ((with_reducible refine at_slot 23 ?_); refine wpList_load_row rfl 33 (.tmp 1) rfl g1 (by rfl) 33 (polCells p) (0, 0) _ q1.out Tryz.underlying33 (by rfl) info_pol ?_)
    refine (rnew_ok _ p w5 S5.out Hok.out).mono ?_
    rintro e w6 ⟨gc, rfl, s6, z6⟩
    have S6 := Lib.hid s6.swap
    have Z6 := Lib.hid (Z5.out.then z6)
    have c10 : w6.cell? ⟨g7, 10, none⟩ = some (.pointer none) := (cells_of S6.out.heap 10).trans rfl
    have f10 : w6.frozen? ⟨g7, 10, none⟩ = false := frozen_of S6.out.heap 10
    clear s6 z6 S5 Z5 q1
    go_upto_region 6 with (fail)
    have S7 : Hid (Sat (w6.setCell ⟨g7, 10, none⟩ (.pointer (some ⟨gc, 0, none⟩))) (pt g7 (.cells (mkCells p (some ⟨gc, 0, none⟩) none Rv.Link.first (.slice none 0 0) 0 p.header.length) 65) * (coderP gc (Rv.Coder.new p) * (bytesP (.slice B p.header.length C) p.header * (pt g2 (.cells mkZero 65) * (pt g1 (.cells (polCells p) 33) * R)))))) := Lib.hid (S6.out.setCell (i := 10) (.pointer (some ⟨gc, 0, none⟩)))
    have Z7 : Hid (Same w (w6.setCell ⟨g7, 10, none⟩ (.pointer (some ⟨gc, 0, none⟩)))) := Lib.hid (Z6.out.then (Kept.setCell (Kept.refl _ _) _ _ (.inl trivial)))
    clear c10 f10 S6 Z6
    generalize w6.setCell ⟨g7, 10, none⟩ (.pointer (some ⟨gc, 0, none⟩)) = w7 at *
    have q1 := Lib.hid (Rv.Sat.heap (S7.out.perm (show _ = pt g1 (.cells (polCells p) 33) * (pt g7 (.cells (mkCells p (some ⟨gc, 0, none⟩) none Rv.Link.first (.slice none 0 0) 0 p.header.length) 65) * (coderP gc (Rv.Coder.new p) * (bytesP (.slice B p.header.length C) p.header * (pt g2 (.cells mkZero 65) * R)))) by ac_rfl)))
    go_wp2_with ((with_reducible refine at_slot 29 ?_); refine wpList_load_row rfl 33 (.tmp 1) rfl g1 (by rfl) 33 (polCells p) (0, 0) _ q1.out Tryz.underlying33 (by rfl) info_pol ?_)
    refine (lnew_ok _ p w7 S7.out Hok.out).mono ?_
    rintro e w8 ⟨gl, rfl, s8, z8⟩
    have S8 : Hid (Sat w8 (pt g7 (.cells (mkCells p (some ⟨gc, 0, none⟩) none Rv.Link.first (.slice none 0 0) 0 p.header.length) 65) * (ledP 1 gl (Rv.Ledger.new p) * (1 * (coderP gc (Rv.Coder.new p) * (bytesP (.slice B p.header.length C) p.header * (pt g2 (.cells mkZero 65) * (pt g1 (.cells (polCells p) 33) * R)))))))) := Lib.hid (s8.perm (by ac_rfl))
    have Z8 := Lib.hid (Z7.out.then z8)
    have c11 : w8.cell? ⟨g7, 11, none⟩ = some (.pointer none) := (cells_of S8.out.heap 11).trans rfl
    have f11 : w8.frozen? ⟨g7, 11, none⟩ = false := frozen_of S8.out.heap 11
    clear s8 z8 S7 Z7 q1
    go_upto_region 7 with (fail)
    have S9 : Hid (Sat (w8.setCell ⟨g7, 11, none⟩ (.pointer (some ⟨gl, 0, none⟩))) (pt g7 (.cells (mkCells p (some ⟨gc, 0, none⟩) (some ⟨gl, 0, none⟩) Rv.Link.first (.slice none 0 0) 0 p.header.length) 65) * (ledP 1 gl (Rv.Ledger.new p) * (1 * (coderP gc (Rv.Coder.new p) * (bytesP (.slice B p.header.length C) p.header * (pt g2 (.cells mkZero 65) * (pt g1 (.cells (polCells p) 33) * R)))))))) := Lib.hid (S8.out.setCell (i := 11) (.pointer (some ⟨gl, 0, none⟩)))
    have Z9 : Hid (Same w (w8.setCell ⟨g7, 11, none⟩ (.pointer (some ⟨gl, 0, none⟩)))) := Lib.hid (Z8.out.then (Kept.setCell (Kept.refl _ _) _ _ (.inl trivial)))
    clear c11 f11 S8 Z8
    generalize w8.setCell ⟨g7, 11, none⟩ (.pointer (some ⟨gl, 0, none⟩)) = wx at *
    have c14 : wx.cell? ⟨g7, 14, none⟩ = some (.int .i64 1) := (cells_of S9.out.heap 14).trans rfl
    have c15 : wx.cell? ⟨g7, 15, none⟩ = some (.int .i64 2) := (cells_of S9.out.heap 15).trans rfl
    obtain ⟨_, _, e', _, _, hrd⟩ := bytesP_shape (S9.out.perm (show _ = bytesP (.slice B p.header.length C) p.header * (pt g7 (.cells (mkCells p (some ⟨gc, 0, none⟩) (some ⟨gl, 0, none⟩) Rv.Link.first (.slice none 0 0) 0 p.header.length) 65) * (ledP 1 gl (Rv.Ledger.new p) * (1 * (coderP gc (Rv.Coder.new p) * (pt g2 (.cells mkZero 65) * (pt g1 (.cells (polCells p) 33) * R)))))) by ac_rfl))
    cases e'
    have HADD := Lib.hid (add_any Rv.Seal.start B p.header C wx hrd (by have := header_len p; omega) rfl)
    clear hrd
    go_wp2_with fail
    refine HADD.out.mono ?_
    rintro e w9 ⟨rfl, b9⟩
    have SA := Lib.hid (S9.out.below b9)
    have ZA := Lib.hid (Z9.out.then (Rv.Same.below b9))
    have k14 : w9.cell? ⟨g7, 14, none⟩ = some (.int .i64 1) := (cells_of SA.out.heap 14).trans rfl
    have k15 : w9.cell? ⟨g7, 15, none⟩ = some (.int .i64 2) := (cells_of SA.out.heap 15).trans rfl
    have f14 : w9.frozen? ⟨g7, 14, none⟩ = false := frozen_of SA.out.heap 14
    have f15 : w9.frozen? ⟨g7, 15, none⟩ = false := frozen_of SA.out.heap 15
    clear b9 S9 Z9 c14 c15 HADD
    go_upto_region 8 with (fail)
    have SB : Hid (Sat ((w9.setCell ⟨g7, 14, none⟩ (.int .i64 (Rv.Seal.start.adds p.header).re)).setCell ⟨g7, 15, none⟩ (.int .i64 (Rv.Seal.start.adds p.header).im)) (pt g7 (.cells (mkCells p (some ⟨gc, 0, none⟩) (some ⟨gl, 0, none⟩) (Rv.Maker.begun p).link (.slice none 0 0) 0 p.header.length) 65) * (ledP 1 gl (Rv.Ledger.new p) * (1 * (coderP gc (Rv.Coder.new p) * (bytesP (.slice B p.header.length C) p.header * (pt g2 (.cells mkZero 65) * (pt g1 (.cells (polCells p) 33) * R)))))))) := Lib.hid ((SA.out.setCell (i := 14) (.int .i64 (Rv.Seal.start.adds p.header).re)).setCell (i := 15) (.int .i64 (Rv.Seal.start.adds p.header).im))
    have ZB : Hid (Same w ((w9.setCell ⟨g7, 14, none⟩ (.int .i64 (Rv.Seal.start.adds p.header).re)).setCell ⟨g7, 15, none⟩ (.int .i64 (Rv.Seal.start.adds p.header).im))) := Lib.hid ((ZA.out.then (Kept.setCell (Kept.refl _ _) _ _ (.inl trivial))).then (Kept.setCell (Kept.refl _ _) _ _ (.inl trivial)))
    clear k14 k15 f14 f15 SA ZA
    generalize ((w9.setCell ⟨g7, 14, none⟩ (.int .i64 (Rv.Seal.start.adds p.header).re)).setCell ⟨g7, 15, none⟩ (.int .i64 (Rv.Seal.start.adds p.header).im)) = wb at *
    have q7 := Lib.hid SB.out.heap
    have SC : Hid (Sat wb (pt g2 (.cells mkZero 65) * (pt g7 (.cells (mkCells p (some ⟨gc, 0, none⟩) (some ⟨gl, 0, none⟩) (Rv.Maker.begun p).link (.slice none 0 0) 0 p.header.length) 65) * (pt g1 (.cells (polCells p) 33) * (coderP gc (Rv.Coder.new p) * (ledP 1 gl (Rv.Ledger.new p) * (bytesP (.slice B p.header.length C) p.header * (1 * R)))))))) := Lib.hid (SB.out.perm (by ac_rfl))
    go_wp2_with (first
      | ((with_reducible refine at_slot 44 ?_); refine wpList_load_row rfl 65 (.tmp 7) rfl g7 (by rfl) 65 (mkCells p (some ⟨gc, 0, none⟩) (some ⟨gl, 0, none⟩) (Rv.Maker.begun p).link (.slice none 0 0) 0 p.header.length) (0, 0) _ q7.out Tryz.underlying65 (by rfl) info_mk ?_)
      | ((with_reducible refine at_store 65 2 44 ?_); refine wpList_store_row rfl 65 (.tmp 2) (.tmp 44) rfl g2 (mkCells p (some ⟨gc, 0, none⟩) (some ⟨gl, 0, none⟩) (Rv.Maker.begun p).link (.slice none 0 0) 0 p.header.length) (by rfl) (by rfl) 65 mkZero SC.out.heap info_mk (by rfl) (by simp [Value.oneCell']) ?_; simp only [Act.put]))
    have SD := Lib.hid (sat_setRow (n := (mkCells p (some ⟨gc, 0, none⟩) (some ⟨gl, 0, none⟩) (Rv.Maker.begun p).link (.slice none 0 0) 0 p.header.length)) SC.out)
    refine bodyPost_ret (results_ctt Tryz.results20 _ _ g2 65 (mkCells p (some ⟨gc, 0, none⟩) (some ⟨gl, 0, none⟩) (Rv.Maker.begun p).link (.slice none 0 0) 0 p.header.length) (0, 0) _ (.slice B p.header.length C) (.int .i64 0) (by rfl) (by rfl) (by rfl) SD.out.heap Tryz.underlying65 (by rfl) info_mk) rfl ?_
    exact ⟨gc, gl, B, C, rfl, SD.out.right.right.right, ZB.out.then (same_setRow _ _ _)⟩
end Go.Proofs.YtcmndglhileeoaaGreat

/- The walks of package tape: what a writer and a reader are; New. -/
set_option linter.unusedSimpArgs false
set_option linter.unusedVariables false
namespace Go.Proofs.YtcmndglhileeoaaGreat
open Go.RowKit
open Rv (HP Sat Same pt allOf sat_all RdIn row own)

/-- A maker, and what it has of its own. -/
def mkrP (T : TypeId) (Q : HP) (g : Nat) (m : Rv.Maker) (ev : Value) : HP := fun h => ∃ gc gl sA sc, (makBox T g m.p gc gl m.link (.slice sA m.segment.length sc) m.records m.size ev * (ledP Q gl m.owed * (bytesP (.slice sA m.segment.length sc) m.segment * coderP gc m.coder))) h
theorem mkrP_open {w : World} {T : TypeId} {Q R : HP} {g : Nat} {m : Rv.Maker} {ev : Value} (h : Sat w (mkrP T Q g m ev * R)) :
    ∃ gc gl sA sc, Sat w (makBox T g m.p gc gl m.link (.slice sA m.segment.length sc) m.records m.size ev * (ledP Q gl m.owed * (bytesP (.slice sA m.segment.length sc) m.segment * (coderP gc m.coder * R)))) := by
  obtain ⟨a, b, ⟨gc, gl, sA, sc, ha⟩, hb, hd, h1, h2⟩ := h.parts
  exact ⟨gc, gl, sA, sc, (Rv.Sat.of_parts ha hb hd h1 h2).perm (by ac_rfl)⟩
theorem mkrP_shut {w : World} {T : TypeId} {Q R : HP} {g gc gl : Nat} {m : Rv.Maker} {ev : Value} {sA : Option Addr} {sc : Nat}
    (h : Sat w (makBox T g m.p gc gl m.link (.slice sA m.segment.length sc) m.records m.size ev * (ledP Q gl m.owed * (bytesP (.slice sA m.segment.length sc) m.segment * (coderP gc m.coder * R))))) : Sat w (mkrP T Q g m ev * R) :=
  (h.perm (show _ = (makBox T g m.p gc gl m.link (.slice sA m.segment.length sc) m.records m.size ev * (ledP Q gl m.owed * (bytesP (.slice sA m.segment.length sc) m.segment * coderP gc m.coder))) * R by ac_rfl)).imp fun a ha => ⟨gc, gl, sA, sc, ha⟩
theorem mkrP_ext {w : World} {T : TypeId} {Q Q' R : HP} {g : Nat} {m : Rv.Maker} {ev : Value} (h : Sat w (mkrP T Q g m ev * R)) (e : Ext Q Q') : Sat w (mkrP T Q' g m ev * R) := by
  obtain ⟨gc, gl, sA, sc, h⟩ := mkrP_open h
  exact mkrP_shut (gc := gc) (gl := gl) (sA := sA) (sc := sc) ((ledP_ext (h.swap) e).swap)
/-- A writer. -/
def wrtP (Q : HP) (g : Nat) (m : Rv.Maker) : HP := fun h => ∃ hA hc, (mkrP 69 Q g m (.slice hA m.p.header.length hc) * bytesP (.slice hA m.p.header.length hc) m.p.header) h
theorem wrtP_open {w : World} {Q R : HP} {g : Nat} {m : Rv.Maker} (h : Sat w (wrtP Q g m * R)) : ∃ hA hc, Sat w (mkrP 69 Q g m (.slice hA m.p.header.length hc) * (bytesP (.slice hA m.p.header.length hc) m.p.header * R)) := by
  obtain ⟨a, b, ⟨hA, hc, ha⟩, hb, hd, h1, h2⟩ := h.parts
  exact ⟨hA, hc, (Rv.Sat.of_parts ha hb hd h1 h2).perm (by ac_rfl)⟩
theorem wrtP_shut {w : World} {Q R : HP} {g : Nat} {m : Rv.Maker} {hA : Option Addr} {hc : Nat} (h : Sat w (mkrP 69 Q g m (.slice hA m.p.header.length hc) * (bytesP (.slice hA m.p.header.length hc) m.p.header * R))) : Sat w (wrtP Q g m * R) :=
  (h.perm (show _ = (mkrP 69 Q g m (.slice hA m.p.header.length hc) * bytesP (.slice hA m.p.header.length hc) m.p.header) * R by ac_rfl)).imp fun a ha => ⟨hA, hc, ha⟩
/-- A reader of these bytes. -/
def rdrP (Q : HP) (g : Nat) (m : Rv.Maker) (xs : Rv.Bs) : HP := fun h => ∃ A c, (mkrP 84 Q g m (.slice A xs.length c) * bytesP (.slice A xs.length c) xs) h
theorem rdrP_open {w : World} {Q R : HP} {g : Nat} {m : Rv.Maker} {xs : Rv.Bs} (h : Sat w (rdrP Q g m xs * R)) : ∃ A c, Sat w (mkrP 84 Q g m (.slice A xs.length c) * (bytesP (.slice A xs.length c) xs * R)) := by
  obtain ⟨a, b, ⟨hA, hc, ha⟩, hb, hd, h1, h2⟩ := h.parts
  exact ⟨hA, hc, (Rv.Sat.of_parts ha hb hd h1 h2).perm (by ac_rfl)⟩
theorem rdrP_shut {w : World} {Q R : HP} {g : Nat} {m : Rv.Maker} {xs : Rv.Bs} {A : Option Addr} {c : Nat} (h : Sat w (mkrP 84 Q g m (.slice A xs.length c) * (bytesP (.slice A xs.length c) xs * R))) : Sat w (rdrP Q g m xs * R) :=
  (h.perm (show _ = (mkrP 84 Q g m (.slice A xs.length c) * bytesP (.slice A xs.length c) xs) * R by ac_rfl)).imp fun a ha => ⟨A, c, ha⟩

set_option maxHeartbeats 2000000 in
set_option maxRecDepth 100000 in
theorem tnew_bad (p : Rv.Pol) (w : World) (h : p.ok = false) :
    Calls Tryz.prog 12 #[.agg (polCells p)] w fun e w' => e = .returned (.tuple #[.pointer none, .int .i64 40]) ∧ Below w.heap.size w w' := by
  have H := Lib.hid h
  have S0 : Hid (Sat (w.alloc (.cells (polCells p) 33)) (pt w.heap.size (.cells (polCells p) 33) * allOf w)) := Lib.hid ((sat_all w).alloc (.cells (polCells p) 33))
  have Z0 : Hid (Same w (w.alloc (.cells (polCells p) 33))) := Lib.hid (Same.of ((Kept.refl (fun _ => False) w).alloc _))
  have HB : Hid (∀ w', Same w w' → ∀ R, Sat w' (allOf w * R) → Below w.heap.size w w') := Lib.hid fun w' h1 R h2 => h1.to_below h2
  clear h
  go_enter Tryz.func12, Tryz.ntmps12
  go_upto_region 1 with (fail)
  generalize (w.alloc (.cells (polCells p) 33)) = w2 at *
  generalize hg1 : w.heap.size = g1 at *
  have q1 := Lib.hid S0.out.heap
  go_wp2_with ((with_reducible refine at_slot 8 ?_); refine wpList_load_row rfl 33 (.tmp 1) rfl g1 (by rfl) 33 (polCells p) (0, 0) _ q1.out Tryz.underlying33 (by rfl) info_pol ?_)
  refine (begun_bad p w2 H.out).mono ?_
  rintro e w3 ⟨rfl, b3⟩
  have S3 := Lib.hid ((S0.out.below b3).alloc (.cells mkZero 65))
  have Z3 : Hid (Same w (w3.alloc (.cells mkZero 65))) := Lib.hid ((Z0.out.then (Rv.Same.below b3)).then (Same.of ((Kept.refl (fun _ => False) w3).alloc _)))
  clear b3 S0 Z0 q1
  go_wp2_with ((with_reducible refine at_store 65 4 10 ?_); refine wpList_store_row rfl 65 (.tmp 4) (.tmp 10) rfl w3.heap.size mkZero (by rfl) (by rfl) 65 mkZero S3.out.heap info_mk (by rfl) (by simp [Value.oneCell']) ?_; simp only [Act.put])
  have S4 := Lib.hid (sat_setRow (n := mkZero) S3.out)
  go_ret2
  subst hg1
  exact ⟨rfl, HB.out _ (Z3.out.then (same_setRow _ _ _)) _ S4.out.right.right.one⟩

theorem info_wrt : (Tryz.prog.info? 69).map (·.size) = some 20 := by kernel_rfl
set_option maxHeartbeats 2000000 in
set_option maxRecDepth 100000 in
theorem tnew_ok (R : HP) (p : Rv.Pol) (w : World) (hR : Sat w R) (h : p.ok = true) :
    Calls Tryz.prog 12 #[.agg (polCells p)] w fun e w' => ∃ g, e = .returned (.tuple #[.pointer (some ⟨g, 0, none⟩), .int .i64 0]) ∧ Sat w' (wrtP 1 g (Rv.Maker.begun p) * (1 * R)) ∧ Same w w' := by
  have H := Lib.hid h
  have S0 : Hid (Sat (w.alloc (.cells (polCells p) 33)) (pt w.heap.size (.cells (polCells p) 33) * R)) := Lib.hid (hR.alloc (.cells (polCells p) 33))
  have Z0 : Hid (Same w (w.alloc (.cells (polCells p) 33))) := Lib.hid (Same.of ((Kept.refl (fun _ => False) w).alloc _))
  clear h hR
  go_enter Tryz.func12, Tryz.ntmps12
  go_upto_region 1 with (fail)
  generalize (w.alloc (.cells (polCells p) 33)) = w2 at *
  generalize hg1 : w.heap.size = g1 at *
  have q1 := Lib.hid S0.out.heap
  go_wp2_with ((with_reducible refine at_slot 8 ?_); refine wpList_load_row rfl 33 (.tmp 1) rfl g1 (by rfl) 33 (polCells p) (0, 0) _ q1.out Tryz.underlying33 (by rfl) info_pol ?_)
  refine (begun_ok _ p w2 S0.out H.out).mono ?_
  rintro e w3 ⟨gc, gl, B, C, rfl, s3, z3⟩
  have S3 := Lib.hid (s3.alloc (.cells mkZero 65))
  have Z3 : Hid (Same w (w3.alloc (.cells mkZero 65))) := Lib.hid ((Z0.out.then z3).then (Same.of ((Kept.refl (fun _ => False) w3).alloc _)))
  have S4 := Lib.hid (sat_setRow (n := (mkCells p (some ⟨gc, 0, none⟩) (some ⟨gl, 0, none⟩) (Rv.Maker.begun p).link (.slice none 0 0) 0 p.header.length)) S3.out)
  have Z4 := Lib.hid (Z3.out.then (same_setRow (w3.alloc (.cells mkZero 65)) w3.heap.size (mkCells p (some ⟨gc, 0, none⟩) (some ⟨gl, 0, none⟩) (Rv.Maker.begun p).link (.slice none 0 0) 0 p.header.length)))
  clear s3 z3 S0 Z0 q1
  go_wp2_with (first
    | ((with_reducible refine at_store 65 4 10 ?_); refine wpList_store_row rfl 65 (.tmp 4) (.tmp 10) rfl w3.heap.size (mkCells p (some ⟨gc, 0, none⟩) (some ⟨gl, 0, none⟩) (Rv.Maker.begun p).link (.slice none 0 0) 0 p.header.length) (by rfl) (by rfl) 65 mkZero S3.out.heap info_mk (by rfl) (by simp [Value.oneCell']) ?_; simp only [Act.put])
    | ((with_reducible refine at_slot 16 ?_); refine wpList_load_row rfl 65 (.tmp 4) rfl w3.heap.size (by rfl) 65 (mkCells p (some ⟨gc, 0, none⟩) (some ⟨gl, 0, none⟩) (Rv.Maker.begun p).link (.slice none 0 0) 0 p.header.length) (0, 0) _ S4.out.heap Tryz.underlying65 (by rfl) info_mk ?_))
  have hsz : ((w3.alloc (.cells mkZero 65)).setRow w3.heap.size (mkCells p (some ⟨gc, 0, none⟩) (some ⟨gl, 0, none⟩) (Rv.Maker.begun p).link (.slice none 0 0) 0 p.header.length)).heap.size = w3.heap.size + 1 := by simp
  have S5 := Lib.hid (S4.out.alloc (.cells (makCells p gc gl (Rv.Maker.begun p).link (.slice none 0 0) 0 p.header.length (.slice B p.header.length C)) 69))
  have Z5 := Lib.hid (Z4.out.then (Same.of ((Kept.refl (fun _ => False) ((w3.alloc (.cells mkZero 65)).setRow w3.heap.size (mkCells p (some ⟨gc, 0, none⟩) (some ⟨gl, 0, none⟩) (Rv.Maker.begun p).link (.slice none 0 0) 0 p.header.length))).alloc (.cells (makCells p gc gl (Rv.Maker.begun p).link (.slice none 0 0) 0 p.header.length (.slice B p.header.length C)) 69))))
  rw [hsz] at S5
  go_ret2
  refine ⟨w3.heap.size + 1, rfl, ?_, Z5.out⟩
  refine wrtP_shut (hA := B) (hc := C) (m := Rv.Maker.begun p) (mkrP_shut (gc := gc) (gl := gl) (sA := none) (sc := 0) ?_)
  have h1 := S5.out.drop2.perm (show _ = pt g1 (.cells (polCells p) 33) * (makBox 69 (w3.heap.size + 1) p gc gl (Rv.Maker.begun p).link (.slice none 0 0) 0 p.header.length (.slice B p.header.length C) * (ledP 1 gl (Rv.Ledger.new p) * (coderP gc (Rv.Coder.new p) * (bytesP (.slice B p.header.length C) p.header * (1 * R))))) by unfold makBox; ac_rfl)
  show Sat _ (makBox 69 (w3.heap.size + 1) p gc gl (Rv.Maker.begun p).link (.slice none 0 0) 0 p.header.length (.slice B p.header.length C) * (ledP 1 gl (Rv.Ledger.new p) * (bytesP (.slice none 0 0) [] * (coderP gc (Rv.Coder.new p) * (bytesP (.slice B p.header.length C) p.header * (1 * R))))))
  exact (h1.right.row_nil 5).perm (show bytesP (.slice none 0 0) [] * _ = _ by ac_rfl)
end Go.Proofs.YtcmndglhileeoaaGreat
