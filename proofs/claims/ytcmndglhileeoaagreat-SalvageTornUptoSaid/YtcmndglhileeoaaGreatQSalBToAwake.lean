/- A part of the proof: its texts in a row: SalB, Awake. Each text's own remark stands at its head. -/
import Derived.Test.YtcmndglhileeoaaGreatQSalA
/- The walks of package salvage: Scan. -/
set_option linter.unusedSimpArgs false
set_option linter.unusedVariables false
namespace Go.Proofs.YtcmndglhileeoaaGreat
open Go.RowKit
open Rv (HP Sat Same pt allOf sat_all RdIn row own Lcl)

theorem results_ttc {P : Program} {fn : Func} {q s r : Tmp} {ty2 : TypeId} (h : fn.results = #[.tmp q, .tmp s, .cell r ty2]) (tmps : Array Value) (w : World) (g2 : Nat) (t2 : TypeId) (c2 : Array Value) (f2 : Nat × Nat) (d2 : TypeDesc) (v u : Value)
    (hq : tmps.getD q undef = v) (hs : tmps.getD s undef = u) (hr : tmps.getD r undef = .pointer (some ⟨g2, 0, none⟩)) (hg2 : w.heap[g2]? = some (.cells c2 t2 f2))
    (hu2 : P.underlying ty2 = some d2) (hd2 : (match d2 with | .struct _ | .array _ _ => true | _ => false) = true) (hi2 : (P.info? ty2).map (·.size) = some c2.size) :
    (results fn tmps).run P w = .ok (.tuple #[v, u, .agg c2]) w := by
  have hq' : tmps[q]?.getD undef = v := by simpa using hq
  have hs' : tmps[s]?.getD undef = u := by simpa using hs
  have hr' : tmps[r]?.getD undef = .pointer (some ⟨g2, 0, none⟩) := by simpa using hr
  simp [results, h, hq', hs', hr', asAddr, run_loadVar_row w g2 t2 ty2 c2 f2 d2 hg2 hu2 hd2 hi2]

/-- What Scan tells. -/
def scanN (xs : Rv.Bs) : Nat := match Rv.scanned xs with | .error _ => 0 | .ok (_, _, n) => n
def scanK (xs : Rv.Bs) : Nat := match Rv.scanned xs with | .error _ => 0 | .ok (_, l, _) => l.length
def scanF (xs : Rv.Bs) : Rv.Fault := match Rv.scanned xs with | .error f => f | .ok _ => ⟨0, 0⟩

set_option maxHeartbeats 4000000 in
set_option maxRecDepth 100000 in
theorem scan_any (w : World) (R : HP) (A : Option Addr) (xs : List UInt8) (c : Nat) (hR : Sat w R) (hr : RdIn R A (u8s xs)) (hnil : A = none → c = 0) (hc : xs.length ≤ c) (hm : xs.length ≤ 140737488355328) :
    Calls Tryz.prog 9 #[.slice A xs.length c] w fun e w' => e = .returned (.tuple #[.int .i64 (scanN xs : Int), .int .i64 (scanK xs : Int), .agg (fltCells (scanF xs))]) ∧ Sat w' R ∧ Same w w' := by
  have S0 : Hid (Sat (w.alloc (.cells (fltCells ⟨0, 0⟩) 27)) (flP w.heap.size ⟨0, 0⟩ * R)) := Lib.hid (hR.alloc (.cells (fltCells ⟨0, 0⟩) 27))
  have Z0 : Hid (Same w (w.alloc (.cells (fltCells ⟨0, 0⟩) 27))) := Lib.hid (Same.of ((Kept.refl (fun _ => False) w).alloc _))
  have HS : Hid (∀ (w1 : World) (X : HP), Sat w1 (X * R) → Calls Tryz.prog 18 #[.slice A xs.length c] w1 (fun e w2 => ∃ (p : Rv.Pol) (B : Option Addr) (k : Nat), e = .returned (.tuple #[.agg (polCells p), .slice B (scanK xs) k, .int .i64 (scanN xs : Int), .agg (fltCells (scanF xs))]) ∧ Sat w2 (X * R) ∧ Same w1 w2)) := Lib.hid (fun w1 X h1 => by
    refine (scanned_any w1 (X * R) A xs c h1 (Rv.RdIn.right hr) hnil hc hm).mono ?_
    intro e w2 hq
    unfold scanK scanN scanF
    cases hs : Rv.scanned xs with
    | error f =>
      rw [hs] at hq
      obtain ⟨rfl, s2, z2⟩ := hq
      exact ⟨.zero, none, 0, rfl, s2, z2⟩
    | ok q =>
      obtain ⟨p, l, n⟩ := q
      rw [hs] at hq
      obtain ⟨B, k, rfl, s2, z2⟩ := hq
      exact ⟨p, B, k, rfl, s2.right, z2⟩)
  clear hR hr hnil
  generalize scanK xs = nk at *
  generalize scanN xs = nn at *
  generalize scanF xs = f at *
  go_enter Tryz.func9, Tryz.ntmps9
  go_upto_region 1 with (fail)
  generalize w.alloc (.cells (fltCells ⟨0, 0⟩) 27) = w1 at *
  generalize w.heap.size = g4 at *
  go_wp2_with fail
  refine (HS.out w1 _ S0.out).mono ?_
  rintro e w2 ⟨p, B, k, rfl, s2, z2⟩
  have S2 : Hid (Sat ((w2.alloc (.cells (polCells p) 33)).alloc (.cells (fltCells f) 27)) (flP g4 ⟨0, 0⟩ * (flP (w2.heap.size + 1) f * (plP w2.heap.size p * R)))) := Lib.hid (by
    have h1 := (s2.alloc (.cells (polCells p) 33)).alloc (.cells (fltCells f) 27)
    simp only [World.size_alloc] at h1
    exact (show Sat _ (flP (w2.heap.size + 1) f * (plP w2.heap.size p * (flP g4 ⟨0, 0⟩ * R))) from h1).perm (by ac_rfl))
  have Z2 : Hid (Same w ((w2.alloc (.cells (polCells p) 33)).alloc (.cells (fltCells f) 27))) := Lib.hid ((Z0.out.then z2).then (Same.of (((Kept.refl (fun _ => False) w2).alloc _).alloc _)))
  clear s2 z2 S0 Z0 HS
  go_upto_region 2 with (fail)
  obtain ⟨w3, hw3⟩ : ∃ w3, w3 = ((w2.alloc (.cells (polCells p) 33)).alloc (.cells (fltCells f) 27)) := ⟨_, rfl⟩
  change Code.wp _ _ _ _ ((w2.alloc (.cells (polCells p) 33)).alloc (.cells (fltCells f) 27))
  rw [← hw3] at S2 Z2 ⊢
  clear hw3
  generalize w2.heap.size + 1 = g8 at *
  obtain ⟨l0, l1⟩ := flt_facts S2.out.swap
  have q4 := Rv.Sat.heap S2.out
  have k0 : w3.cell? ⟨g4, 0, none⟩ = some (.int .i64 0) := (cells_of q4 0).trans rfl
  have k1 : w3.cell? ⟨g4, 1, none⟩ = some (.int .i64 0) := (cells_of q4 1).trans rfl
  have f0 : w3.frozen? ⟨g4, 0, none⟩ = false := frozen_of q4 0
  have f1 : w3.frozen? ⟨g4, 1, none⟩ = false := frozen_of q4 1
  have S3 : Hid (Sat (((w3.setCell ⟨g4, 0, none⟩ (.int .i64 f.code)).setCell ⟨g4, 1, none⟩ (.int .i64 f.at_)).drew) (flP g4 f * (flP g8 f * (plP w2.heap.size p * R)))) := Lib.hid ((S2.out.setCell (i := 0) (.int .i64 f.code)).setCell (i := 1) (.int .i64 f.at_)).drew
  clear q4
  go_region
  go_wp2_with fail
  exact bodyPost_ret (results_ttc Tryz.results9 _ _ g4 27 (fltCells f) (0, 0) _ (.int .i64 (nn : Int)) (.int .i64 (nk : Int)) (by rfl) (by rfl) (by rfl) S3.out.heap Tryz.underlying27 (by rfl) info_flt) rfl
    ⟨rfl, S3.out.right.right.right, ((Z2.out.then (Kept.setCell (Kept.refl _ _) _ _ (.inl trivial))).then (Kept.setCell (Kept.refl _ _) _ _ (.inl trivial))).drew⟩
end Go.Proofs.YtcmndglhileeoaaGreat

/- The walk of the laws' own check 'awake'. -/
set_option linter.unusedSimpArgs false
set_option linter.unusedVariables false
namespace Go.Proofs.YtcmndglhileeoaaGreat
open Go.RowKit
open Rv (HP Sat Same pt allOf sat_all RdIn row own Lcl)

/-! ### the plain part: the document's example, reckoned -/
def exP : Rv.Pol := ⟨1, 9, 1, 1, 0, 0, 3, 2, 2, 2⟩
def exA : Rv.Rec := ⟨5, ⟨#[97]⟩, 3, 1⟩
def exC : Rv.Rec := ⟨7, ⟨#[98]⟩, 1, 0⟩
def encB : Rv.Bs := match Rv.encode exP [exA, exA, exC] with
  | .ok b => b
  | .error _ => []
theorem enc_len43 : encB.length = 43 := by decide +kernel
theorem enc_ok : Rv.encode exP [exA, exA, exC] = .ok encB := by
  have h := enc_len43
  unfold encB at h ⊢
  split at h
  · rename_i b hb; rw [hb]
  · cases h
theorem ex_a : scanN (encB.take 42) = 38 ∧ scanK (encB.take 42) = 2 ∧ scanF (encB.take 42) = ⟨0, 0⟩ := by decide +kernel
theorem ex_b : scanN (encB.take 37) = 23 ∧ scanK (encB.take 37) = 1 ∧ scanF (encB.take 37) = ⟨0, 0⟩ := by decide +kernel
theorem ex_c : scanN [] = 0 ∧ scanK [] = 0 ∧ scanF [] = ⟨41, 0⟩ := by decide +kernel

set_option maxHeartbeats 1000000 in
set_option maxRecDepth 100000 in
theorem plain_any (w : World) : Calls Tryz.prog 17 #[] w fun e w' => e = .returned (.agg #[.int .i64 1, .int .i64 9, .int .i64 1, .int .i64 1, .int .i64 0, .int .i64 0, .int .i64 3, .int .i64 2, .int .i64 2, .int .i64 2]) ∧ Below w.heap.size w w' := by
  go_enter Tryz.func17, Tryz.ntmps17
  go_wp2_with fail
  exact bodyPost_ret (results_cell_row Tryz.results17 _ _ w.heap.size 33 #[.int .i64 1, .int .i64 9, .int .i64 1, .int .i64 1, .int .i64 0, .int .i64 0, .int .i64 3, .int .i64 2, .int .i64 2, .int .i64 2] (0, 0) _ (by rfl) (heap_alloc_new w _) Tryz.underlying33 (by rfl) info_pol) rfl ⟨rfl, (Below.refl _ _).alloc (Nat.le_refl _) _⟩

theorem pt_rd {g : Nat} {cs : Array Value} {t : TypeId} {vs : List Value} (h : cs.toList = vs) : RdIn (pt g (.cells cs t)) (some ⟨g, 0, none⟩) vs := fun w hw j u hu => by
  have q := Rv.Sat.heap hw.one
  refine ⟨_, rfl, ?_⟩
  rw [add_off, cells_of q j]
  rw [← h] at hu
  simpa using hu
def awkP (g1 g2 : Nat) : HP := pt g1 (.cells #[.int .i64 5, .string ⟨#[97]⟩, .int .i64 3, .int .i64 1] 44) * pt g2 (.cells #[.int .i64 7, .string ⟨#[98]⟩, .int .i64 1, .int .i64 0] 44)
theorem awk_facts {w : World} {R : HP} {g1 g2 : Nat} (h : Sat w (awkP g1 g2 * R)) :
    w.cell? ⟨g1, 0, none⟩ = some (.int .i64 5) ∧ w.cell? ⟨g1, 1, none⟩ = some (.string ⟨#[97]⟩) ∧ w.cell? ⟨g1, 2, none⟩ = some (.int .i64 3) ∧ w.cell? ⟨g1, 3, none⟩ = some (.int .i64 1) ∧
    w.cell? ⟨g2, 0, none⟩ = some (.int .i64 7) ∧ w.cell? ⟨g2, 1, none⟩ = some (.string ⟨#[98]⟩) ∧ w.cell? ⟨g2, 2, none⟩ = some (.int .i64 1) ∧ w.cell? ⟨g2, 3, none⟩ = some (.int .i64 0) := by
  unfold awkP at h
  rw [Rv.star_assoc] at h
  have q1 := h.heap
  have q2 := h.right.heap
  exact ⟨(cells_of q1 0).trans rfl, (cells_of q1 1).trans rfl, (cells_of q1 2).trans rfl, (cells_of q1 3).trans rfl, (cells_of q2 0).trans rfl, (cells_of q2 1).trans rfl, (cells_of q2 2).trans rfl, (cells_of q2 3).trans rfl⟩
def AwkMid (R : HP) (w wx : World) (g1 g2 : Nat) (v4 v3 v5 : Value) : Prop :=
  ∃ B C, v3 = .slice B 43 C ∧ v4 = .int .i64 0 ∧ v5 = .int .i64 0 ∧ Sat wx (awkP g1 g2 * (bytesP (.slice B 43 C) encB * R)) ∧ Same w wx

set_option maxHeartbeats 4000000 in
set_option maxRecDepth 100000 in
theorem awake_any (R : HP) (w : World) (hR : Sat w R) : Calls Tryz.prog 7 #[] w fun e w' => e = .returned (.bool true) ∧ Sat w' R ∧ Same w w' := by
  have S3 : Hid (Sat ((w.alloc (.cells #[.int .i64 5, .string ⟨#[97]⟩, .int .i64 3, .int .i64 1] 44)).alloc (.cells #[.int .i64 7, .string ⟨#[98]⟩, .int .i64 1, .int .i64 0] 44)) (awkP w.heap.size (w.heap.size + 1) * R)) := Lib.hid (by
    have h1 := (hR.alloc (.cells #[.int .i64 5, .string ⟨#[97]⟩, .int .i64 3, .int .i64 1] 44)).alloc (.cells #[.int .i64 7, .string ⟨#[98]⟩, .int .i64 1, .int .i64 0] 44)
    rw [World.size_alloc] at h1
    unfold awkP
    exact h1.perm (by ac_rfl))
  have Z3 : Hid (Same w ((w.alloc (.cells #[.int .i64 5, .string ⟨#[97]⟩, .int .i64 3, .int .i64 1] 44)).alloc (.cells #[.int .i64 7, .string ⟨#[98]⟩, .int .i64 1, .int .i64 0] 44))) := Lib.hid (Same.of (((Kept.refl (fun _ => False) w).alloc _).alloc _))
  have HENC : Hid (∀ (wx : World) (gR : Nat) (X : HP), Sat wx (pt gR (.cells #[.int .i64 5, .string ⟨#[97]⟩, .int .i64 3, .int .i64 1, .int .i64 5, .string ⟨#[97]⟩, .int .i64 3, .int .i64 1, .int .i64 7, .string ⟨#[98]⟩, .int .i64 1, .int .i64 0] 44) * X) → Calls Tryz.prog 16 #[.agg #[.int .i64 1, .int .i64 9, .int .i64 1, .int .i64 1, .int .i64 0, .int .i64 0, .int .i64 3, .int .i64 2, .int .i64 2, .int .i64 2], .slice (some ⟨gR, 0, none⟩) 3 3] wx fun e w' => ∃ B C, e = .returned (.tuple #[.slice B 43 C, .int .i64 0, .int .i64 0]) ∧ Sat w' (bytesP (.slice B 43 C) encB * X) ∧ Same wx w') := Lib.hid (by
    intro wx gR X h1
    refine (tencode_any wx (pt gR (.cells #[.int .i64 5, .string ⟨#[97]⟩, .int .i64 3, .int .i64 1, .int .i64 5, .string ⟨#[97]⟩, .int .i64 3, .int .i64 1, .int .i64 7, .string ⟨#[98]⟩, .int .i64 1, .int .i64 0] 44) * X) exP (some ⟨gR, 0, none⟩) [exA, exA, exC] 3 h1 (Rv.RdIn.left (pt_rd rfl)) (by simp) (by simp)).mono ?_
    intro e w' hq
    rw [enc_ok] at hq
    obtain ⟨B, C, rfl, s1, z1⟩ := hq
    rw [enc_len43] at s1 ⊢
    exact ⟨B, C, rfl, s1.drop2, z1⟩)
  clear hR
  go_enter Tryz.func7, Tryz.ntmps7
  go_upto_region 3 with (fail)
  generalize ((w.alloc (.cells #[.int .i64 5, .string ⟨#[97]⟩, .int .i64 3, .int .i64 1] 44)).alloc (.cells #[.int .i64 7, .string ⟨#[98]⟩, .int .i64 1, .int .i64 0] 44)) = w3 at *
  generalize w.heap.size + 1 = g2 at *
  generalize w.heap.size = g1 at *
  have S3d := Lib.hid S3.out.drew
  have Z3d := Lib.hid Z3.out.drew
  have K0 := Lib.hid (awk_facts S3.out)
  go_cut [3, 4, 5] (fun v3 v4 v5 wx => AwkMid R w wx g1 g2 v4 v3 v5)
  case first =>
    refine wp_region_held_drew (S := fun w => w.cell? ⟨g1, 0, none⟩ = some (.int .i64 5) ∧ w.cell? ⟨g1, 1, none⟩ = some (.string ⟨#[97]⟩) ∧ w.cell? ⟨g1, 2, none⟩ = some (.int .i64 3) ∧ w.cell? ⟨g1, 3, none⟩ = some (.int .i64 1) ∧
      w.cell? ⟨g2, 0, none⟩ = some (.int .i64 7) ∧ w.cell? ⟨g2, 1, none⟩ = some (.string ⟨#[98]⟩) ∧ w.cell? ⟨g2, 2, none⟩ = some (.int .i64 1) ∧ w.cell? ⟨g2, 3, none⟩ = some (.int .i64 0)) (by kernel_rfl) K0.out (fun hHeld => ?_)
    refine wpAnyH_take (i := 1) (oi := ⟨some 20, .load 44 (.tmp 1), 44, "law.go:23", #[], none⟩) (v := ?_) rfl (by kernel_rfl) (by kernel_rfl) (by kernel_rfl) (fun _ _ _ h => h) (Or.inl ⟨by rfl, ?_⟩) (by assumption) ?_
    rotate_left
    · intro w hSw
      try dsimp only at hSw
      go_simp
      try with_reducible rfl
    try simp only [Act.put, List.setIfInBounds_toArray, List.set_cons_zero, List.set_cons_succ]
    refine wpAnyH_take (i := 2) (oi := ⟨some 21, .load 44 (.tmp 1), 44, "law.go:23", #[], none⟩) (v := ?_) rfl (by kernel_rfl) (by kernel_rfl) (by kernel_rfl) (fun _ _ _ h => h) (Or.inl ⟨by rfl, ?_⟩) (by assumption) ?_
    rotate_left
    · intro w hSw
      try dsimp only at hSw
      go_simp
      try with_reducible rfl
    try simp only [Act.put, List.setIfInBounds_toArray, List.set_cons_zero, List.set_cons_succ]
    refine wpAnyH_take (i := 3) (oi := ⟨some 22, .load 44 (.tmp 2), 44, "law.go:23", #[], none⟩) (v := ?_) rfl (by kernel_rfl) (by kernel_rfl) (by kernel_rfl) (fun _ _ _ h => h) (Or.inl ⟨by rfl, ?_⟩) (by assumption) ?_
    rotate_left
    · intro w hSw
      try dsimp only at hSw
      go_simp
      try with_reducible rfl
    try simp only [Act.put, List.setIfInBounds_toArray, List.set_cons_zero, List.set_cons_succ]
    refine wpAnyH_ready (rs := [0, 4]) (by kernel_rfl) (by simp) ?_
    refine AllReadyH.cons (o := ⟨some 19, .call { callee := .value (.func 17), args := #[], argTypes := #[] }, 33, "law.go:23", #[], none⟩) rfl (fun K hK => ?_) (AllReadyH.cons (o := ⟨some 23, .buildSlice 34 3 #[(0, .tmp 20), (1, .tmp 21), (2, .tmp 22)], 34, "law.go:23", #[⟨1, .data⟩, ⟨2, .data⟩, ⟨3, .data⟩], none⟩) rfl (fun K hK => ?_) AllReadyH.nil)
    · go_simp
      refine (plain_any _).mono ?_
      rintro e w4 ⟨rfl, b4⟩
      have S4 := Lib.hid (S3d.out.below b4)
      have Z4 := Lib.hid (Z3d.out.then (Rv.Same.below b4))
      have K1 := Lib.hid (awk_facts S4.out)
      refine hK.out _ _ K1.out (fun hHeld2 => ?_)
      clear hK K hHeld b4
      try simp only [Act.put, List.setIfInBounds_toArray, List.set_cons_zero, List.set_cons_succ]
      refine wpAnyH_ready (rs := [4]) (by kernel_rfl) (by simp) ?_
      refine AllReadyH.cons (o := ⟨some 23, .buildSlice 34 3 #[(0, .tmp 20), (1, .tmp 21), (2, .tmp 22)], 34, "law.go:23", #[⟨1, .data⟩, ⟨2, .data⟩, ⟨3, .data⟩], none⟩) rfl (fun K hK => ?_) AllReadyH.nil
      have S5a := S4.out.alloc (.cells #[.int .i64 5, .string ⟨#[97]⟩, .int .i64 3, .int .i64 1, .int .i64 5, .string ⟨#[97]⟩, .int .i64 3, .int .i64 1, .int .i64 7, .string ⟨#[98]⟩, .int .i64 1, .int .i64 0] 44)
      have S5 : Hid (Sat (w4.alloc (.cells #[.int .i64 5, .string ⟨#[97]⟩, .int .i64 3, .int .i64 1, .int .i64 5, .string ⟨#[97]⟩, .int .i64 3, .int .i64 1, .int .i64 7, .string ⟨#[98]⟩, .int .i64 1, .int .i64 0] 44)) (awkP g1 g2 * (pt w4.heap.size (.cells #[.int .i64 5, .string ⟨#[97]⟩, .int .i64 3, .int .i64 1, .int .i64 5, .string ⟨#[97]⟩, .int .i64 3, .int .i64 1, .int .i64 7, .string ⟨#[98]⟩, .int .i64 1, .int .i64 0] 44) * R))) := Lib.hid (S5a.perm (by ac_rfl))
      have Z5 : Hid (Same w (w4.alloc (.cells #[.int .i64 5, .string ⟨#[97]⟩, .int .i64 3, .int .i64 1, .int .i64 5, .string ⟨#[97]⟩, .int .i64 3, .int .i64 1, .int .i64 7, .string ⟨#[98]⟩, .int .i64 1, .int .i64 0] 44))) := Lib.hid (Z4.out.then (Same.of ((Kept.refl (fun _ => False) w4).alloc _)))
      clear S5a
      have K2 := Lib.hid (awk_facts S5.out)
      go_simp
      refine hK.out _ _ K2.out (fun hHeld => ?_)
      clear hK K hHeld2
      try simp only [Act.put, List.setIfInBounds_toArray, List.set_cons_zero, List.set_cons_succ]
      refine wpAnyH_ready (rs := [5]) (by kernel_rfl) (by simp) ?_
      refine AllReadyH.cons (o := ⟨some 24, .call { callee := .value (.func 16), args := #[.tmp 19, .tmp 23], argTypes := #[33, 34] }, 49, "law.go:23", #[⟨0, .data⟩, ⟨4, .data⟩, ⟨0, .chain⟩], none⟩) rfl (fun K hK => ?_) AllReadyH.nil
      go_simp
      refine (HENC.out _ _ _ (S5.out.swap)).mono ?_
      rintro e w6 ⟨B, C, rfl, s6, z6⟩
      have S6 : Hid (Sat w6 (awkP g1 g2 * (bytesP (.slice B 43 C) encB * R))) := Lib.hid (s6.perm (by ac_rfl))
      have Z6 := Lib.hid (Z5.out.then z6)
      have K3 := Lib.hid (awk_facts S6.out)
      refine hK.out _ _ K3.out (fun hHeld2 => ?_)
      clear hK K hHeld s6 z6
      try simp only [Act.put, List.setIfInBounds_toArray, List.set_cons_zero, List.set_cons_succ]
      refine wpAnyH_take (i := 6) (oi := ⟨some 18, .move (.tmp 24), 49, "law.go:23", #[⟨5, .data⟩], none⟩) (v := ?_) rfl (by kernel_rfl) (by kernel_rfl) (by kernel_rfl) (fun _ _ _ h => h) (Or.inl ⟨by rfl, ?_⟩) (by assumption) ?_
      rotate_left
      · intro w hSw
        try dsimp only at hSw
        go_simp
        try with_reducible rfl
      try simp only [Act.put, List.setIfInBounds_toArray, List.set_cons_zero, List.set_cons_succ]
      refine wpAnyH_take (i := 7) (oi := ⟨some 25, .extract (.tmp 18) 0, 22, "law.go:23", #[⟨6, .data⟩], none⟩) (v := ?_) rfl (by kernel_rfl) (by kernel_rfl) (by kernel_rfl) (fun _ _ _ h => h) (Or.inl ⟨by rfl, ?_⟩) (by assumption) ?_
      rotate_left
      · intro w hSw
        try dsimp only at hSw
        go_simp
        try with_reducible rfl
      try simp only [Act.put, List.setIfInBounds_toArray, List.set_cons_zero, List.set_cons_succ]
      refine wpAnyH_take (i := 8) (oi := ⟨some 26, .extract (.tmp 18) 1, 3, "law.go:23", #[⟨6, .data⟩, ⟨10, .gcOnly .lateStores⟩], none⟩) (v := ?_) rfl (by kernel_rfl) (by kernel_rfl) (by kernel_rfl) (fun _ _ _ h => h) (Or.inl ⟨by rfl, ?_⟩) (by assumption) ?_
      rotate_left
      · intro w hSw
        try dsimp only at hSw
        go_simp
        try with_reducible rfl
      try simp only [Act.put, List.setIfInBounds_toArray, List.set_cons_zero, List.set_cons_succ]
      refine wpAnyH_take (i := 9) (oi := ⟨some 27, .extract (.tmp 18) 2, 25, "law.go:23", #[⟨6, .data⟩, ⟨11, .gcOnly .lateStores⟩], none⟩) (v := ?_) rfl (by kernel_rfl) (by kernel_rfl) (by kernel_rfl) (fun _ _ _ h => h) (Or.inl ⟨by rfl, ?_⟩) (by assumption) ?_
      rotate_left
      · intro w hSw
        try dsimp only at hSw
        go_simp
        try with_reducible rfl
      try simp only [Act.put, List.setIfInBounds_toArray, List.set_cons_zero, List.set_cons_succ]
      refine wpAnyH_take (i := 10) (oi := ⟨some 3, .assign (.tmp 25), 22, "law.go:23", #[⟨7, .data⟩, ⟨5, .chain⟩, ⟨0, .phase⟩, ⟨1, .phase⟩, ⟨2, .phase⟩, ⟨3, .phase⟩, ⟨4, .phase⟩, ⟨5, .phase⟩, ⟨6, .phase⟩, ⟨7, .phase⟩, ⟨8, .textOnly .lateStores⟩, ⟨9, .textOnly .lateStores⟩], none⟩) (v := ?_) rfl (by kernel_rfl) (by kernel_rfl) (by kernel_rfl) (fun _ _ _ h => h) (Or.inl ⟨by rfl, ?_⟩) (by assumption) ?_
      rotate_left
      · intro w hSw
        try dsimp only at hSw
        go_simp
        try with_reducible rfl
      try simp only [Act.put, List.setIfInBounds_toArray, List.set_cons_zero, List.set_cons_succ]
      refine wpAnyH_take (i := 11) (oi := ⟨some 4, .assign (.tmp 26), 3, "law.go:23", #[⟨8, .data⟩, ⟨10, .chain⟩, ⟨0, .phase⟩, ⟨1, .phase⟩, ⟨2, .phase⟩, ⟨3, .phase⟩, ⟨4, .phase⟩, ⟨5, .phase⟩, ⟨6, .phase⟩, ⟨7, .phase⟩, ⟨8, .phase⟩, ⟨9, .textOnly .lateStores⟩, ⟨10, .phase⟩], none⟩) (v := ?_) rfl (by kernel_rfl) (by kernel_rfl) (by kernel_rfl) (fun _ _ _ h => h) (Or.inl ⟨by rfl, ?_⟩) (by assumption) ?_
      rotate_left
      · intro w hSw
        try dsimp only at hSw
        go_simp
        try with_reducible rfl
      try simp only [Act.put, List.setIfInBounds_toArray, List.set_cons_zero, List.set_cons_succ]
      refine wpAnyH_take (i := 12) (oi := ⟨some 5, .assign (.tmp 27), 25, "law.go:23", #[⟨9, .data⟩, ⟨11, .chain⟩, ⟨0, .phase⟩, ⟨1, .phase⟩, ⟨2, .phase⟩, ⟨3, .phase⟩, ⟨4, .phase⟩, ⟨5, .phase⟩, ⟨6, .phase⟩, ⟨7, .phase⟩, ⟨8, .phase⟩, ⟨9, .phase⟩, ⟨10, .phase⟩, ⟨11, .phase⟩], none⟩) (v := ?_) rfl (by kernel_rfl) (by kernel_rfl) (by kernel_rfl) (fun _ _ _ h => h) (Or.inl ⟨by rfl, ?_⟩) (by assumption) ?_
      rotate_left
      · intro w hSw
        try dsimp only at hSw
        go_simp
        try with_reducible rfl
      try simp only [Act.put, List.setIfInBounds_toArray, List.set_cons_zero, List.set_cons_succ]
      refine wpAnyH_done (by kernel_rfl) ?_ _
      clear hHeld2
      go_wp2_with fail
      go_meet
      case rel => exact ⟨B, C, rfl, rfl, rfl, S6.out, Z6.out⟩
    · have S4a := S3d.out.alloc (.cells #[.int .i64 5, .string ⟨#[97]⟩, .int .i64 3, .int .i64 1, .int .i64 5, .string ⟨#[97]⟩, .int .i64 3, .int .i64 1, .int .i64 7, .string ⟨#[98]⟩, .int .i64 1, .int .i64 0] 44)
      have S4 : Hid (Sat (w3.drew.alloc (.cells #[.int .i64 5, .string ⟨#[97]⟩, .int .i64 3, .int .i64 1, .int .i64 5, .string ⟨#[97]⟩, .int .i64 3, .int .i64 1, .int .i64 7, .string ⟨#[98]⟩, .int .i64 1, .int .i64 0] 44)) (awkP g1 g2 * (pt w3.drew.heap.size (.cells #[.int .i64 5, .string ⟨#[97]⟩, .int .i64 3, .int .i64 1, .int .i64 5, .string ⟨#[97]⟩, .int .i64 3, .int .i64 1, .int .i64 7, .string ⟨#[98]⟩, .int .i64 1, .int .i64 0] 44) * R))) := Lib.hid (S4a.perm (by ac_rfl))
      have Z4 : Hid (Same w (w3.drew.alloc (.cells #[.int .i64 5, .string ⟨#[97]⟩, .int .i64 3, .int .i64 1, .int .i64 5, .string ⟨#[97]⟩, .int .i64 3, .int .i64 1, .int .i64 7, .string ⟨#[98]⟩, .int .i64 1, .int .i64 0] 44))) := Lib.hid (Z3d.out.then (Same.of ((Kept.refl (fun _ => False) w3.drew).alloc _)))
      clear S4a
      have K1 := Lib.hid (awk_facts S4.out)
      go_simp
      refine hK.out _ _ K1.out (fun hHeld2 => ?_)
      clear hK K hHeld
      try simp only [Act.put, List.setIfInBounds_toArray, List.set_cons_zero, List.set_cons_succ]
      refine wpAnyH_ready (rs := [0]) (by kernel_rfl) (by simp) ?_
      refine AllReadyH.cons (o := ⟨some 19, .call { callee := .value (.func 17), args := #[], argTypes := #[] }, 33, "law.go:23", #[], none⟩) rfl (fun K hK => ?_) AllReadyH.nil
      go_simp
      refine (plain_any _).mono ?_
      rintro e w5 ⟨rfl, b4⟩
      have S5 := Lib.hid (S4.out.below b4)
      have Z5 := Lib.hid (Z4.out.then (Rv.Same.below b4))
      have K2 := Lib.hid (awk_facts S5.out)
      refine hK.out _ _ K2.out (fun hHeld => ?_)
      clear hK K hHeld2 b4
      try simp only [Act.put, List.setIfInBounds_toArray, List.set_cons_zero, List.set_cons_succ]
      refine wpAnyH_ready (rs := [5]) (by kernel_rfl) (by simp) ?_
      refine AllReadyH.cons (o := ⟨some 24, .call { callee := .value (.func 16), args := #[.tmp 19, .tmp 23], argTypes := #[33, 34] }, 49, "law.go:23", #[⟨0, .data⟩, ⟨4, .data⟩, ⟨0, .chain⟩], none⟩) rfl (fun K hK => ?_) AllReadyH.nil
      go_simp
      refine (HENC.out _ _ _ (S5.out.swap)).mono ?_
      rintro e w6 ⟨B, C, rfl, s6, z6⟩
      have S6 : Hid (Sat w6 (awkP g1 g2 * (bytesP (.slice B 43 C) encB * R))) := Lib.hid (s6.perm (by ac_rfl))
      have Z6 := Lib.hid (Z5.out.then z6)
      have K3 := Lib.hid (awk_facts S6.out)
      refine hK.out _ _ K3.out (fun hHeld2 => ?_)
      clear hK K hHeld s6 z6
      try simp only [Act.put, List.setIfInBounds_toArray, List.set_cons_zero, List.set_cons_succ]
      refine wpAnyH_take (i := 6) (oi := ⟨some 18, .move (.tmp 24), 49, "law.go:23", #[⟨5, .data⟩], none⟩) (v := ?_) rfl (by kernel_rfl) (by kernel_rfl) (by kernel_rfl) (fun _ _ _ h => h) (Or.inl ⟨by rfl, ?_⟩) (by assumption) ?_
      rotate_left
      · intro w hSw
        try dsimp only at hSw
        go_simp
        try with_reducible rfl
      try simp only [Act.put, List.setIfInBounds_toArray, List.set_cons_zero, List.set_cons_succ]
      refine wpAnyH_take (i := 7) (oi := ⟨some 25, .extract (.tmp 18) 0, 22, "law.go:23", #[⟨6, .data⟩], none⟩) (v := ?_) rfl (by kernel_rfl) (by kernel_rfl) (by kernel_rfl) (fun _ _ _ h => h) (Or.inl ⟨by rfl, ?_⟩) (by assumption) ?_
      rotate_left
      · intro w hSw
        try dsimp only at hSw
        go_simp
        try with_reducible rfl
      try simp only [Act.put, List.setIfInBounds_toArray, List.set_cons_zero, List.set_cons_succ]
      refine wpAnyH_take (i := 8) (oi := ⟨some 26, .extract (.tmp 18) 1, 3, "law.go:23", #[⟨6, .data⟩, ⟨10, .gcOnly .lateStores⟩], none⟩) (v := ?_) rfl (by kernel_rfl) (by kernel_rfl) (by kernel_rfl) (fun _ _ _ h => h) (Or.inl ⟨by rfl, ?_⟩) (by assumption) ?_
      rotate_left
      · intro w hSw
        try dsimp only at hSw
        go_simp
        try with_reducible rfl
      try simp only [Act.put, List.setIfInBounds_toArray, List.set_cons_zero, List.set_cons_succ]
      refine wpAnyH_take (i := 9) (oi := ⟨some 27, .extract (.tmp 18) 2, 25, "law.go:23", #[⟨6, .data⟩, ⟨11, .gcOnly .lateStores⟩], none⟩) (v := ?_) rfl (by kernel_rfl) (by kernel_rfl) (by kernel_rfl) (fun _ _ _ h => h) (Or.inl ⟨by rfl, ?_⟩) (by assumption) ?_
      rotate_left
      · intro w hSw
        try dsimp only at hSw
        go_simp
        try with_reducible rfl
      try simp only [Act.put, List.setIfInBounds_toArray, List.set_cons_zero, List.set_cons_succ]
      refine wpAnyH_take (i := 10) (oi := ⟨some 3, .assign (.tmp 25), 22, "law.go:23", #[⟨7, .data⟩, ⟨5, .chain⟩, ⟨0, .phase⟩, ⟨1, .phase⟩, ⟨2, .phase⟩, ⟨3, .phase⟩, ⟨4, .phase⟩, ⟨5, .phase⟩, ⟨6, .phase⟩, ⟨7, .phase⟩, ⟨8, .textOnly .lateStores⟩, ⟨9, .textOnly .lateStores⟩], none⟩) (v := ?_) rfl (by kernel_rfl) (by kernel_rfl) (by kernel_rfl) (fun _ _ _ h => h) (Or.inl ⟨by rfl, ?_⟩) (by assumption) ?_
      rotate_left
      · intro w hSw
        try dsimp only at hSw
        go_simp
        try with_reducible rfl
      try simp only [Act.put, List.setIfInBounds_toArray, List.set_cons_zero, List.set_cons_succ]
      refine wpAnyH_take (i := 11) (oi := ⟨some 4, .assign (.tmp 26), 3, "law.go:23", #[⟨8, .data⟩, ⟨10, .chain⟩, ⟨0, .phase⟩, ⟨1, .phase⟩, ⟨2, .phase⟩, ⟨3, .phase⟩, ⟨4, .phase⟩, ⟨5, .phase⟩, ⟨6, .phase⟩, ⟨7, .phase⟩, ⟨8, .phase⟩, ⟨9, .textOnly .lateStores⟩, ⟨10, .phase⟩], none⟩) (v := ?_) rfl (by kernel_rfl) (by kernel_rfl) (by kernel_rfl) (fun _ _ _ h => h) (Or.inl ⟨by rfl, ?_⟩) (by assumption) ?_
      rotate_left
      · intro w hSw
        try dsimp only at hSw
        go_simp
        try with_reducible rfl
      try simp only [Act.put, List.setIfInBounds_toArray, List.set_cons_zero, List.set_cons_succ]
      refine wpAnyH_take (i := 12) (oi := ⟨some 5, .assign (.tmp 27), 25, "law.go:23", #[⟨9, .data⟩, ⟨11, .chain⟩, ⟨0, .phase⟩, ⟨1, .phase⟩, ⟨2, .phase⟩, ⟨3, .phase⟩, ⟨4, .phase⟩, ⟨5, .phase⟩, ⟨6, .phase⟩, ⟨7, .phase⟩, ⟨8, .phase⟩, ⟨9, .phase⟩, ⟨10, .phase⟩, ⟨11, .phase⟩], none⟩) (v := ?_) rfl (by kernel_rfl) (by kernel_rfl) (by kernel_rfl) (fun _ _ _ h => h) (Or.inl ⟨by rfl, ?_⟩) (by assumption) ?_
      rotate_left
      · intro w hSw
        try dsimp only at hSw
        go_simp
        try with_reducible rfl
      try simp only [Act.put, List.setIfInBounds_toArray, List.set_cons_zero, List.set_cons_succ]
      refine wpAnyH_done (by kernel_rfl) ?_ _
      clear hHeld2
      go_wp2_with fail
      go_meet
      case rel => exact ⟨B, C, rfl, rfl, rfl, S6.out, Z6.out⟩
  case rest =>
    rename World => w4
    obtain ⟨B, C, rfl, rfl, rfl, s4, z4⟩ := hcut
    have S4 := Lib.hid s4.swap
    have Z4 := Lib.hid z4
    obtain ⟨A', C', e1, h1, h2, h3⟩ := bytesP_shape s4.right
    injection e1 with e2 e3 e4
    subst e4
    rw [enc_len43] at h1
    have hC : (43 : Int) ≤ (C : Int) := by omega
    clear s4 z4 S3 Z3 S3d Z3d K0 HENC h2 h3 e2 e3
    have HSC : Hid (∀ (wx : World) (n : Nat) (X : HP), n ≤ 43 → Sat wx (bytesP (.slice B 43 C) encB * X) → Calls Tryz.prog 9 #[.slice B n C] wx fun e w' => e = .returned (.tuple #[.int .i64 (scanN (encB.take n) : Int), .int .i64 (scanK (encB.take n) : Int), .agg (fltCells (scanF (encB.take n)))]) ∧ Sat w' (bytesP (.slice B 43 C) encB * X) ∧ Same wx w') := Lib.hid (by
      intro wx n X hn h4
      have hl : (encB.take n).length = n := by rw [List.length_take, enc_len43]; omega
      have h5 := scan_any wx (bytesP (.slice B 43 C) encB * X) B (encB.take n) C h4 (Rv.RdIn.left (by have := (Rv.RdIn.row (e := 5) (A := B) (n := 43) (c := C) (vs := u8s encB)).take n; unfold u8s at this ⊢; rw [List.map_take]; exact this)) (bytesP_own h4).nilcap (by omega) (by omega)
      rw [hl] at h5
      exact h5)
    have HS42 : Hid (∀ (wx : World) (X : HP), Sat wx (bytesP (.slice B 43 C) encB * X) → Calls Tryz.prog 9 #[.slice B 42 C] wx fun e w' => e = .returned (.tuple #[.int .i64 38, .int .i64 2, .agg (fltCells ⟨0, 0⟩)]) ∧ Sat w' (bytesP (.slice B 43 C) encB * X) ∧ Same wx w') := Lib.hid (by
      intro wx X h4
      have h5 := HSC.out wx 42 X (by omega) h4
      rw [ex_a.1, ex_a.2.1, ex_a.2.2] at h5
      exact h5)
    have HS37 : Hid (∀ (wx : World) (X : HP), Sat wx (bytesP (.slice B 43 C) encB * X) → Calls Tryz.prog 9 #[.slice B 37 C] wx fun e w' => e = .returned (.tuple #[.int .i64 23, .int .i64 1, .agg (fltCells ⟨0, 0⟩)]) ∧ Sat w' (bytesP (.slice B 43 C) encB * X) ∧ Same wx w') := Lib.hid (by
      intro wx X h4
      have h5 := HSC.out wx 37 X (by omega) h4
      rw [ex_b.1, ex_b.2.1, ex_b.2.2] at h5
      exact h5)
    have HS0 : Hid (∀ (wx : World) (X : HP), Sat wx X → Calls Tryz.prog 9 #[.slice none 0 0] wx fun e w' => e = .returned (.tuple #[.int .i64 0, .int .i64 0, .agg (fltCells ⟨41, 0⟩)]) ∧ Sat w' X ∧ Same wx w') := Lib.hid (by
      intro wx X h4
      have h5 := scan_any wx X none [] 0 h4 (fun w hw j u hu => by cases hu) (by simp) (by simp) (by simp)
      rw [ex_c.1, ex_c.2.1, ex_c.2.2] at h5
      exact h5)
    clear HSC
    go_wp2_with fail
    refine (HS42.out _ _ S4.out).mono ?_
    rintro e w5 ⟨rfl, s5, z5⟩
    have S5 : Hid (Sat (w5.alloc (.cells (fltCells ⟨0, 0⟩) 27)) (bytesP (.slice B 43 C) encB * (flP w5.heap.size ⟨0, 0⟩ * (awkP g1 g2 * R)))) := Lib.hid ((show Sat _ (flP w5.heap.size ⟨0, 0⟩ * _) from s5.alloc (.cells (fltCells ⟨0, 0⟩) 27)).perm (by ac_rfl))
    have Z5 := Lib.hid ((Z4.out.then z5).then (Same.of ((Kept.refl (fun _ => False) w5).alloc (.cells (fltCells ⟨0, 0⟩) 27))))
    clear s5 z5 S4 Z4
    go_upto_region 8 with (fail)
    generalize w5.alloc (.cells (fltCells ⟨0, 0⟩) 27) = w6 at *
    generalize w5.heap.size = g9 at *
    go_wp2_with fail
    refine (HS37.out _ _ S5.out).mono ?_
    rintro e w7 ⟨rfl, s5, z5⟩
    have S7 : Hid (Sat (w7.alloc (.cells (fltCells ⟨0, 0⟩) 27)) (bytesP (.slice B 43 C) encB * (flP w7.heap.size ⟨0, 0⟩ * (flP g9 ⟨0, 0⟩ * (awkP g1 g2 * R))))) := Lib.hid ((show Sat _ (flP w7.heap.size ⟨0, 0⟩ * _) from s5.alloc (.cells (fltCells ⟨0, 0⟩) 27)).perm (by ac_rfl))
    have Z7 := Lib.hid ((Z5.out.then z5).then (Same.of ((Kept.refl (fun _ => False) w7).alloc (.cells (fltCells ⟨0, 0⟩) 27))))
    clear s5 z5 S5 Z5
    go_upto_region 9 with (fail)
    generalize w7.alloc (.cells (fltCells ⟨0, 0⟩) 27) = w8 at *
    generalize w7.heap.size = g12 at *
    go_wp2_with fail
    refine (HS0.out _ _ S7.out).mono ?_
    rintro e w9 ⟨rfl, s5, z5⟩
    have S9 : Hid (Sat (w9.alloc (.cells (fltCells ⟨41, 0⟩) 27)) (flP w9.heap.size ⟨41, 0⟩ * (flP g12 ⟨0, 0⟩ * (flP g9 ⟨0, 0⟩ * (bytesP (.slice B 43 C) encB * (awkP g1 g2 * R)))))) := Lib.hid ((show Sat _ (flP w9.heap.size ⟨41, 0⟩ * _) from s5.alloc (.cells (fltCells ⟨41, 0⟩) 27)).perm (by ac_rfl))
    have Z9 := Lib.hid ((Z7.out.then z5).then (Same.of ((Kept.refl (fun _ => False) w9).alloc (.cells (fltCells ⟨41, 0⟩) 27))))
    clear s5 z5 S7 Z7
    go_upto_region 10 with (fail)
    generalize w9.alloc (.cells (fltCells ⟨41, 0⟩) 27) = wa at *
    generalize w9.heap.size = g15 at *
    obtain ⟨a0, a1⟩ := flt_facts S9.out
    obtain ⟨b0, b1⟩ := flt_facts S9.out.right
    obtain ⟨c0, c1⟩ := flt_facts S9.out.right.right
    go_wp2_with fail
    go_ret
    exact ⟨rfl, S9.out.right.right.right.right.right, Z9.out⟩
end Go.Proofs.YtcmndglhileeoaaGreat
