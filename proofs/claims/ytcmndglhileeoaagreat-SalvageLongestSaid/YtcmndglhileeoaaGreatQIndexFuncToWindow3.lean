/- A part of the proof: its texts in a row: IndexFunc, Window2, Window3. Each text's own remark stands at its head. -/
import Derived.Test.YtcmndglhileeoaaGreatQBucketToWindow
import Derived.Test.YtcmndglhileeoaaGreatQDClone
import Derived.LoopTactic
/- The walks of slices.IndexFunc and ContainsFunc at numbers, of a function that only computes; the two such functions. -/
set_option linter.unusedSimpArgs false
set_option linter.unusedVariables false
namespace Go.Proofs.YtcmndglhileeoaaGreat
open Go.RowKit
open Rv (HP Sat Same pt allOf sat_all RdIn row own)

/-- A function value that only computes. -/
def Comp (K : Nat) (f : Int → Bool) : Prop := ∀ (n : Int) (w : World), Calls Tryz.prog K #[.int .i64 n] w fun e w' => e = .returned (.bool (f n)) ∧ w = w'
def idxF (f : Int → Bool) (l : List Int) : Int := if l.any f then (l.findIdx f : Nat) else -1
theorem idxF_any (f : Int → Bool) (l : List Int) : decide (0 ≤ idxF f l) = l.any f := by
  unfold idxF
  cases h : l.any f
  · simp
  · simp

theorem idxF_at {f : Int → Bool} {l : List Int} {k : Nat} {n : Int} (hk : k < l.length) (hn : l[k]? = some n) (hf : f n = true) (hno : ∀ j m, j < k → l[j]? = some m → f m = false) : idxF f l = (k : Int) := by
  unfold idxF
  have ha : l.any f = true := List.any_eq_true.2 ⟨n, List.mem_of_getElem? hn, hf⟩
  rw [ha, if_pos rfl]
  have hk2 : l[k] = n := (List.getElem?_eq_some_iff.1 hn).2
  have : l.findIdx f = k := by
    rw [List.findIdx_eq hk]
    refine ⟨by rw [hk2]; exact hf, fun j hj => ?_⟩
    exact hno j _ hj (List.getElem?_eq_getElem (by omega))
  rw [this]
theorem idxF_none {f : Int → Bool} {l : List Int} (h : ∀ n ∈ l, f n = false) : idxF f l = -1 := by
  unfold idxF
  rw [if_neg]
  rw [List.any_eq_true]
  rintro ⟨n, hn, hf⟩
  rw [h n hn] at hf
  cases hf

theorem wrong_comp : Comp 219 Rv.wrongN := by
  intro n w
  unfold Rv.wrongN
  by_cases h0 : n < 0
  · have d0 : decide (n < 0) = true := by simpa using h0
    rw [d0]
    go_enter Tryz.func219, Tryz.ntmps219
    go_wp2
    go_ret
    exact ⟨rfl, rfl⟩
  · have d0 : decide (n < 0) = false := by simpa using h0
    by_cases h1 : 1099511627776 < n
    · have d1 : decide (1099511627776 < n) = true := by simpa using h1
      rw [d0, show decide (n > 1099511627776) = true from d1]
      go_enter Tryz.func219, Tryz.ntmps219
      go_wp2
      go_ret
      exact ⟨rfl, rfl⟩
    · have d1 : decide (1099511627776 < n) = false := by simpa using h1
      rw [d0, show decide (n > 1099511627776) = false from d1]
      go_enter Tryz.func219, Tryz.ntmps219
      go_wp2
      go_ret
      exact ⟨rfl, rfl⟩
theorem nz_comp : Comp 141 (fun n => n != 0) := by
  intro n w
  go_enter Tryz.func141, Tryz.ntmps141
  go_wp2
  go_ret
  exact ⟨rfl, rfl⟩

set_option maxHeartbeats 1000000 in
set_option maxRecDepth 100000 in
theorem indexF_wrong (A : Option Addr) (l : List Int) (c : Nat) (w : World) (hr : RdV w A (l.map intI)) (hl : l.length ≤ 4096) :
    Calls Tryz.prog 155 #[.slice A l.length c, .func (.func 219) #[] #[]] w fun e w' => e = .returned (.int .i64 (idxF Rv.wrongN l)) ∧ w = w' := by
  have HR := Lib.hid hr
  have HF := Lib.hid (wrong_comp)
  clear hr
  go_enter Tryz.func155, Tryz.ntmps155
  go_wp2_with fail
  go_loopw [8] (fun i wr => ∃ k : Nat, k ≤ l.length ∧ i = .int .i64 k ∧ Hid (∀ j n, j < k → l[j]? = some n → Rv.wrongN n = false) ∧ wr = w) (fun i _ => l.length - (intOf i).toNat)
  case atStart => exact ⟨0, by omega, rfl, Lib.hid (fun j n h => by omega), rfl⟩
  case round =>
    obtain ⟨k, hk, rfl, Hno, rfl⟩ := hrel
    by_cases hlt : k < l.length
    · obtain ⟨n, hn⟩ := some_at hlt
      obtain ⟨ad, rfl, hc⟩ := HR.out k (intI n) (by simp [hn])
      have Hn := Lib.hid hn
      clear hn
      cases hfn : Rv.wrongN n with
      | true =>
        have HX : Hid (idxF Rv.wrongN l = (k : Int)) := Lib.hid (idxF_at hlt Hn.out hfn Hno.out)
        go_wp2_with (go_at_call 219; refine (HF.out n wr).mono ?_; rw [hfn]; rintro e w' ⟨rfl, rfl⟩)
        go_ret
        exact ⟨ret_int HX.out.symm, rfl⟩
      | false =>
        have HX : Hid (∀ j m, j < k + 1 → l[j]? = some m → Rv.wrongN m = false) := Lib.hid (fun j m hj hm => by
          by_cases e : j < k
          · exact Hno.out j m e hm
          · obtain rfl : j = k := by omega
            rw [Hn.out] at hm
            cases hm
            exact hfn)
        go_wp2_with (go_at_call 219; refine (HF.out n wr).mono ?_; rw [hfn]; rintro e w' ⟨rfl, rfl⟩)
        go_roundw
        case rel => exact ⟨k + 1, by omega, by go_num, HX, trivial⟩
        case measure => simp [intOf]; omega
    · obtain rfl : k = l.length := by omega
      have HX : Hid (idxF Rv.wrongN l = -1) := Lib.hid (idxF_none (fun n hn => by
        obtain ⟨j, hj⟩ := List.getElem?_of_mem hn
        exact Hno.out j n (List.getElem?_eq_some_iff.1 hj).1 hj))
      go_wp2_with fail
      go_ret
      exact ⟨ret_int HX.out.symm, rfl⟩

theorem contains_wrong (A : Option Addr) (l : List Int) (c : Nat) (w : World) (hr : RdV w A (l.map intI)) (hl : l.length ≤ 4096) (b : Bool) (hb : l.any Rv.wrongN = b) :
    Calls Tryz.prog 140 #[.slice A l.length c, .func (.func 219) #[] #[]] w fun e w' => e = .returned (.bool b) ∧ w = w' := by
  have H := Lib.hid (indexF_wrong A l c w hr hl)
  have hd : decide (0 ≤ idxF Rv.wrongN l) = b := by rw [idxF_any]; exact hb
  generalize idxF Rv.wrongN l = r at *
  clear hr hb
  cases b <;>
  · go_enter Tryz.func140, Tryz.ntmps140
    go_wp2_with fail
    refine H.out.mono ?_
    rintro e w' ⟨rfl, rfl⟩
    go_wp2_with fail
    go_ret
    exact ⟨rfl, rfl⟩

set_option maxHeartbeats 1000000 in
set_option maxRecDepth 100000 in
theorem indexF_nz (A : Option Addr) (l : List Int) (c : Nat) (w : World) (hr : RdV w A (l.map intI)) (hl : l.length ≤ 4096) :
    Calls Tryz.prog 155 #[.slice A l.length c, .func (.func 141) #[] #[]] w fun e w' => e = .returned (.int .i64 (idxF (fun n : Int => n != 0) l)) ∧ w = w' := by
  have HR := Lib.hid hr
  have HF := Lib.hid (nz_comp)
  clear hr
  go_enter Tryz.func155, Tryz.ntmps155
  go_wp2_with fail
  go_loopw [8] (fun i wr => ∃ k : Nat, k ≤ l.length ∧ i = .int .i64 k ∧ Hid (∀ j n, j < k → l[j]? = some n → (fun n : Int => n != 0) n = false) ∧ wr = w) (fun i _ => l.length - (intOf i).toNat)
  case atStart => exact ⟨0, by omega, rfl, Lib.hid (fun j n h => by omega), rfl⟩
  case round =>
    obtain ⟨k, hk, rfl, Hno, rfl⟩ := hrel
    by_cases hlt : k < l.length
    · obtain ⟨n, hn⟩ := some_at hlt
      obtain ⟨ad, rfl, hc⟩ := HR.out k (intI n) (by simp [hn])
      have Hn := Lib.hid hn
      clear hn
      cases hfn : (fun n : Int => n != 0) n with
      | true =>
        have HX : Hid (idxF (fun n : Int => n != 0) l = (k : Int)) := Lib.hid (idxF_at hlt Hn.out hfn Hno.out)
        go_wp2_with (go_at_call 141; refine (HF.out n wr).mono ?_; rw [hfn]; rintro e w' ⟨rfl, rfl⟩)
        go_ret
        exact ⟨ret_int HX.out.symm, rfl⟩
      | false =>
        have HX : Hid (∀ j m, j < k + 1 → l[j]? = some m → (fun n : Int => n != 0) m = false) := Lib.hid (fun j m hj hm => by
          by_cases e : j < k
          · exact Hno.out j m e hm
          · obtain rfl : j = k := by omega
            rw [Hn.out] at hm
            cases hm
            exact hfn)
        go_wp2_with (go_at_call 141; refine (HF.out n wr).mono ?_; rw [hfn]; rintro e w' ⟨rfl, rfl⟩)
        go_roundw
        case rel => exact ⟨k + 1, by omega, by go_num, HX, trivial⟩
        case measure => simp [intOf]; omega
    · obtain rfl : k = l.length := by omega
      have HX : Hid (idxF (fun n : Int => n != 0) l = -1) := Lib.hid (idxF_none (fun n hn => by
        obtain ⟨j, hj⟩ := List.getElem?_of_mem hn
        exact Hno.out j n (List.getElem?_eq_some_iff.1 hj).1 hj))
      go_wp2_with fail
      go_ret
      exact ⟨ret_int HX.out.symm, rfl⟩

theorem contains_nz (A : Option Addr) (l : List Int) (c : Nat) (w : World) (hr : RdV w A (l.map intI)) (hl : l.length ≤ 4096) (b : Bool) (hb : l.any (fun n : Int => n != 0) = b) :
    Calls Tryz.prog 140 #[.slice A l.length c, .func (.func 141) #[] #[]] w fun e w' => e = .returned (.bool b) ∧ w = w' := by
  have H := Lib.hid (indexF_nz A l c w hr hl)
  have hd : decide (0 ≤ idxF (fun n : Int => n != 0) l) = b := by rw [idxF_any]; exact hb
  generalize idxF (fun n : Int => n != 0) l = r at *
  clear hr hb
  cases b <;>
  · go_enter Tryz.func140, Tryz.ntmps140
    go_wp2_with fail
    refine H.out.mono ?_
    rintro e w' ⟨rfl, rfl⟩
    go_wp2_with fail
    go_ret
    exact ⟨rfl, rfl⟩
end Go.Proofs.YtcmndglhileeoaaGreat

/- The walks of package window: counts. -/
set_option linter.unusedSimpArgs false
set_option linter.unusedVariables false
namespace Go.Proofs.YtcmndglhileeoaaGreat
open Go.RowKit
open Rv (HP Sat Same pt allOf sat_all RdIn row own)

/-- A window as it should be. -/
structure SOk (p : Rv.Pol) (s : Rv.Sums) : Prop where
  g0 : 0 ≤ s.grid
  g1 : s.grid ≤ Rv.gridOf p 1099511627776
  len : (s.l.length : Int) = p.count
  all : ∀ n ∈ s.l, 0 ≤ n ∧ n ≤ 1099511627776
theorem SOk.wrong {p : Rv.Pol} {s : Rv.Sums} (h : SOk p s) : s.l.any Rv.wrongN = false := by
  rw [List.any_eq_false]
  intro n hn
  have := h.all n hn
  simp [Rv.wrongN]; omega
theorem SOk.counts {p : Rv.Pol} {s : Rv.Sums} (h : SOk p s) : Rv.countsW p s = s := by
  unfold Rv.countsW
  rw [if_neg]
  rintro (h1 | h1 | h1 | h1)
  · have := h.g0; omega
  · have := h.g1; omega
  · exact h1 h.len
  · rw [h.wrong] at h1; cases h1

theorem pol_sums {w : World} {g2 g3 : Nat} {p : Rv.Pol} {s : Rv.Sums} {A : Option Addr} {c : Nat} {Q R : HP} (h : Sat w (Q * (pt g3 (.cells #[.int .i64 s.grid, .slice A s.l.length c] 224) * (pt g2 (.cells (polCells p) 33) * R)))) :
    w.cell? ⟨g2, 0, none⟩ = some (.int .i64 p.kind) ∧ w.cell? ⟨g2, 1, none⟩ = some (.int .i64 p.cap) ∧ w.cell? ⟨g2, 2, none⟩ = some (.int .i64 p.num) ∧ w.cell? ⟨g2, 3, none⟩ = some (.int .i64 p.den) ∧ w.cell? ⟨g2, 4, none⟩ = some (.int .i64 p.width) ∧ w.cell? ⟨g2, 5, none⟩ = some (.int .i64 p.count) ∧ w.cell? ⟨g2, 6, none⟩ = some (.int .i64 p.keys) ∧ w.cell? ⟨g2, 7, none⟩ = some (.int .i64 p.slots) ∧ w.cell? ⟨g2, 8, none⟩ = some (.int .i64 p.every) ∧ w.cell? ⟨g2, 9, none⟩ = some (.int .i64 p.seg) ∧ w.cell? ⟨g3, 0, none⟩ = some (.int .i64 s.grid) ∧ w.cell? ⟨g3, 1, none⟩ = some (.slice A s.l.length c) := by
  obtain ⟨h0, h1, h2, h3, h4, h5, h6, h7, h8, h9⟩ := pol_cells h.right.right.heap
  exact ⟨h0, h1, h2, h3, h4, h5, h6, h7, h8, h9, (cells_of h.right.heap 0).trans rfl, (cells_of h.right.heap 1).trans rfl⟩

theorem sclone_int {w : World} {R : HP} (h : Sat w R) (A : Option Addr) (l : List Int) (c : Nat) (hr : RdV w A (l.map intI)) (hnil : A = none → c = 0) (hl : l.length ≤ 4096) :
    Calls Tryz.prog 80 #[.slice A l.length c] w fun e w' => ∃ B C, e = .returned (.slice B l.length C) ∧ Sat w' (intsP (.slice B l.length C) l * R) ∧ Below w.heap.size w w' := by
  refine (clone_int w A l.length c (l.map intI) (by simp) hr (by simp [Value.oneCell']) hnil (by omega)).mono ?_
  rintro e w' ⟨B, C, rfl, ho, hb⟩
  exact ⟨B, C, rfl, h.row_new hb (ho.mono (Nat.zero_le _)) (fun k hk => (ho.block k hk).1), hb⟩
theorem sums_cells {w : World} {g : Nat} {x y : Value} {t : TypeId} (h : w.heap[g]? = some (.cells #[x, y] t (0, 0))) : w.cell? ⟨g, 0, none⟩ = some x ∧ w.cell? ⟨g, 1, none⟩ = some y ∧ (∀ i, w.frozen? ⟨g, i, none⟩ = false) := ⟨(cells_of h 0).trans rfl, (cells_of h 1).trans rfl, frozen_of h⟩

set_option maxHeartbeats 2000000 in
set_option maxRecDepth 100000 in
theorem counts_any (R : HP) (p : Rv.Pol) (s : Rv.Sums) (A : Option Addr) (c : Nat) (w : World) (hR : Sat w R) (hr : RdIn R A (s.l.map intI)) (hnil : A = none → c = 0) (hs : SOk p s) (h : p.ok = true) (hk : p.kind = 2) :
    Calls Tryz.prog 217 #[.agg (polCells p), sumsV s A c] w fun e w' => ∃ B c', e = .returned (sumsV s B c') ∧ Sat w' (intsP (.slice B s.l.length c') s.l * R) ∧ Same w w' := by
  have Hok := Lib.hid h
  have Hk := Lib.hid hk
  have Hs := Lib.hid hs
  have Hr := Lib.hid hr
  have Hnil := Lib.hid hnil
  have hlen := hs.len
  obtain ⟨-, -, q1, q2⟩ := width_ok h hk
  have g1 : decide (s.grid < 0) = false := by have := hs.g0; simp; omega
  have g2 : decide (Rv.gridOf p 1099511627776 < s.grid) = false := by have := hs.g1; simp; omega
  have S0 := Lib.hid (((hR.alloc (.cells (polCells p) 33)).alloc (.cells #[.int .i64 s.grid, .slice A s.l.length c] 224)).alloc (.cells #[.int .i64 0, .slice none 0 0] 224))
  have Z0 : Hid (Same w (((w.alloc (.cells (polCells p) 33)).alloc (.cells #[.int .i64 s.grid, .slice A s.l.length c] 224)).alloc (.cells #[.int .i64 0, .slice none 0 0] 224))) := Lib.hid (Same.of ((((Kept.refl (fun _ => False) w).alloc _).alloc _).alloc _))
  clear h hk hR hs hr hnil
  go_enter Tryz.func217, Tryz.ntmps217
  go_upto_region 2 with (fail)
  obtain ⟨w0, hw0⟩ : ∃ w0, w0 = ((w.alloc (.cells (polCells p) 33)).alloc (.cells #[.int .i64 s.grid, .slice A s.l.length c] 224)).alloc (.cells #[.int .i64 0, .slice none 0 0] 224) := ⟨_, rfl⟩
  change Code.wp _ _ _ _ (((w.alloc (.cells (polCells p) 33)).alloc (.cells #[.int .i64 s.grid, .slice A s.l.length c] 224)).alloc (.cells #[.int .i64 0, .slice none 0 0] 224))
  rw [← hw0] at S0 Z0 ⊢
  simp only [World.size_alloc] at S0
  clear hw0
  have hc1 : ((s.l.length : Int) != p.count) = false := by rw [hlen]; simp
  generalize w.heap.size + 1 + 1 = g4 at *
  generalize w.heap.size + 1 = g3 at *
  generalize w.heap.size = g2 at *
  have K0 := Lib.hid (pol_sums S0.out)
  go_region_held3 (fun w' => w'.cell? ⟨g2, 0, none⟩ = some (.int .i64 p.kind) ∧ w'.cell? ⟨g2, 1, none⟩ = some (.int .i64 p.cap) ∧ w'.cell? ⟨g2, 2, none⟩ = some (.int .i64 p.num) ∧ w'.cell? ⟨g2, 3, none⟩ = some (.int .i64 p.den) ∧ w'.cell? ⟨g2, 4, none⟩ = some (.int .i64 p.width) ∧ w'.cell? ⟨g2, 5, none⟩ = some (.int .i64 p.count) ∧ w'.cell? ⟨g2, 6, none⟩ = some (.int .i64 p.keys) ∧ w'.cell? ⟨g2, 7, none⟩ = some (.int .i64 p.slots) ∧ w'.cell? ⟨g2, 8, none⟩ = some (.int .i64 p.every) ∧ w'.cell? ⟨g2, 9, none⟩ = some (.int .i64 p.seg) ∧ w'.cell? ⟨g3, 0, none⟩ = some (.int .i64 s.grid) ∧ w'.cell? ⟨g3, 1, none⟩ = some (.slice A s.l.length c)) (first | exact K1.out | exact K0.out | go_keep)
    (first
      | (go_at_call 161; refine (grid_any p 1099511627776 w0.drew Hok.out Hk.out).mono ?_; rintro e w2 ⟨rfl, b2⟩; have S2 := Lib.hid (S0.out.drew.below b2); have Z2 := Lib.hid (Z0.out.drew.then (Rv.Same.below b2)); have K1 := Lib.hid (pol_sums S2.out); clear b2)
      | (go_at_call 140; refine (contains_wrong A s.l c w2 (Hr.out w2 S2.out.right.right.right) (by omega) false Hs.out.wrong).mono ?_; rintro e w' ⟨rfl, rfl⟩))
  clear K0 K1 S0 Z0
  go_upto_region 4 with (fail)
  have K0 : Hid (w2.cell? ⟨g3, 0, none⟩ = some (.int .i64 s.grid) ∧ w2.cell? ⟨g3, 1, none⟩ = some (.slice A s.l.length c)) := Lib.hid ⟨(sums_cells S2.out.right.heap).1, (sums_cells S2.out.right.heap).2.1⟩
  go_region_held3 (fun w' => w'.cell? ⟨g3, 0, none⟩ = some (.int .i64 s.grid) ∧ w'.cell? ⟨g3, 1, none⟩ = some (.slice A s.l.length c)) (first | exact K1.out | exact K0.out | exact KE.out | go_keep)
    (first
      | (go_at_call 80; refine (sclone_int S2.out.drew A s.l c (Hr.out w2.drew S2.out.right.right.right) Hnil.out (by omega)).mono ?_; rintro e w3 ⟨B, C, rfl, s3, b3⟩; have S3 := Lib.hid s3.swap; have Z3 := Lib.hid (Z2.out.drew.then (Rv.Same.below b3)); have K1 : Hid (w3.cell? ⟨g3, 0, none⟩ = some (.int .i64 s.grid) ∧ w3.cell? ⟨g3, 1, none⟩ = some (.slice A s.l.length c)) := Lib.hid ⟨(sums_cells S3.out.right.right.heap).1, (sums_cells S3.out.right.right.heap).2.1⟩; obtain ⟨f0, f1, f2⟩ := sums_cells S3.out.heap; have S4 := Lib.hid (sums_put (x := .int .i64 s.grid) (y := .slice B s.l.length C) S3.out); have KE : Hid (((w3.setCell ⟨g4, 0, none⟩ (.int .i64 s.grid)).setCell ⟨g4, 1, none⟩ (.slice B s.l.length C)).cell? ⟨g3, 0, none⟩ = some (.int .i64 s.grid) ∧ ((w3.setCell ⟨g4, 0, none⟩ (.int .i64 s.grid)).setCell ⟨g4, 1, none⟩ (.slice B s.l.length C)).cell? ⟨g3, 1, none⟩ = some (.slice A s.l.length c)) := Lib.hid ⟨(sums_cells S4.out.right.right.heap).1, (sums_cells S4.out.right.right.heap).2.1⟩; clear b3 s3))
  have Z4 : Hid (Same w ((w3.setCell ⟨g4, 0, none⟩ (.int .i64 s.grid)).setCell ⟨g4, 1, none⟩ (.slice B s.l.length C))) := Lib.hid (Z3.out.then (((Kept.refl (fun _ => True) w3).setCell _ _ (.inl trivial)).setCell _ _ (.inl trivial)))
  clear K0 K1 KE f0 f1 f2 S2 Z2 S3 Z3
  go_wp2_with fail
  exact bodyPost_ret (results_cell_row Tryz.results217 _ _ g4 224 _ (0, 0) _ (by rfl) S4.out.heap Tryz.underlying224 (by rfl) info_sums) rfl ⟨B, C, rfl, S4.out.right.drop2.drop2, Z4.out⟩
end Go.Proofs.YtcmndglhileeoaaGreat

/- The walks of package window: Move. -/
set_option linter.unusedSimpArgs false
set_option linter.unusedVariables false
namespace Go.Proofs.YtcmndglhileeoaaGreat
open Go.RowKit
open Rv (HP Sat Same pt allOf sat_all RdIn row own)

/-- copy to the head of a row of one's own, as one step of a region that draws. -/
theorem step_copy_sat {P : Program} {ops : Array Oper} {o : Oper} {a : Act} {w : World} {K : Act → World → Prop} {Q : Exit → Act → World → Prop} {E : Prop} {R : HP} (hgd : o.guard = none) (d s : Operand) (dT sT : TypeId)
    (ho : o.op = .call { callee := .builtin .copy, args := #[d, s], argTypes := #[dT, sT] }) (elem : TypeId) (hu : P.underlying dT = some (.slice elem)) (hsz : (P.info? elem).map (·.size) = some 1)
    (B : Option Addr) (sp : Option Addr) (dLen dCap sLen sCap : Nat) (hd : a.eval d = .slice B dLen dCap) (hs : a.eval s = .slice sp sLen sCap)
    (vs cs : List Value) (HS : Sat w (row elem (.slice B dLen dCap) vs * R)) (hvs : vs.length = dLen) (h0 : 0 < dLen) (hcs : cs.length = sLen) (hle : sLen ≤ dLen) (hpos : 0 < sLen) (HR : Rv.RdIn R sp cs) (h1 : ∀ v ∈ cs, v.oneCell' = true)
    (h : ∀ w', Hid (Sat w' (row elem (.slice B dLen dCap) (cs ++ vs.drop cs.length) * R)) → Hid (Same w w') → K (a.put o.dst (goInt cs.length)) w') :
    if Region.wanted o (yielded ops a.tmps) = true then Oper.wp P o a w K Q else E := by
  have ho1 := Rv.Sat.row_own HS
  obtain ⟨g, cur, rfl, -, hlt, hg, -, hc1, hc2, hsz2, ht⟩ := ho1.row (by omega)
  obtain ⟨u, hu0⟩ := some_at (xs := cs) (i := 0) (by omega)
  have hrd := HR w HS.right
  obtain ⟨ad, rfl, -⟩ := hrd 0 u hu0
  refine step_copy_kept hgd d s dT sT ho elem hu hsz (some ⟨g, 0, none⟩) (some ad) dLen dCap sLen sCap hd hs g 0 cur elem hg cs (by rw [hcs]; exact (Nat.min_eq_left hle).symm)
    (fun _ => ⟨rfl, ad, rfl, fun j v hv => by obtain ⟨ad', e, hc⟩ := hrd j v hv; cases e; exact hc⟩) (by rw [hsz2]; omega) h1 ?_
  intro w' h2 h3
  have hk : Kept (fun k => (Value.slice (some ⟨g, 0, none⟩) dLen dCap).ownBlock = some k) w w' := Kept.of_grown h3.out (fun k hk _ => by cases hk; rfl)
  refine h w' (Lib.hid (HS.row_turn hk ?_ (fun k hk => .inl hk))) (Lib.hid (Rv.Same.of hk))
  have hcl : cur.toList.length = dCap := by rw [Array.length_toList, hsz2]
  have hlen : (cs ++ vs.drop cs.length).length = dLen := by rw [List.length_append, List.length_drop]; omega
  have e : (splice cur.toList 0 cs).take dLen = cs ++ vs.drop cs.length := by
    unfold splice
    simp only [List.take_zero, List.nil_append, Nat.zero_add]
    rw [List.take_append, List.take_of_length_le (by omega), ← ht, List.drop_take, hvs]
  have := OwnV.of_row (w := w') (e := elem) (vs := cs ++ vs.drop cs.length) (c := dCap) (Nat.zero_le g) h2.out (by omega) hc2 (by rw [List.size_toArray, length_splice _ _ _ (by omega), hcl]) (by rw [hlen]; exact e)
  rw [hlen] at this
  exact this

theorem sat_setRow {w : World} {g : Nat} {cs n : Array Value} {t : TypeId} {m : Nat × Nat} {R : HP} (h : Sat w (pt g (.cells cs t m) * R)) : Sat (w.setRow g n) (pt g (.cells n t m) * R) := h.put (setRow_heap _ _ _ _ _ _ h.heap) (fun k hk => setRow_other _ _ _ _ hk)
theorem same_setRow (w : World) (g : Nat) (n : Array Value) : Same w (w.setRow g n) := ⟨rfl, rfl, rfl, by simp, fun _ _ h => absurd trivial h⟩

theorem _root_.Rv.RdIn.drop {R : HP} {ad : Addr} {vs : List Value} (h : RdIn R (some ad) vs) (k : Nat) : RdIn R (some (ad.add k)) (vs.drop k) := fun w hw j u hu => by
  rw [List.getElem?_drop] at hu
  obtain ⟨ad', e, hc⟩ := h w hw _ u hu
  cases e
  exact ⟨_, rfl, by rw [add_add]; exact hc⟩
theorem move_stay {p : Rv.Pol} {s : Rv.Sums} {tick : Int} (hs : SOk p s) (h : Rv.gridOf p tick ≤ s.grid) : Rv.moveW p s tick = s := by
  unfold Rv.moveW; rw [hs.counts]; exact if_pos h
theorem move_far {p : Rv.Pol} {s : Rv.Sums} {tick : Int} (hs : SOk p s) (h : s.grid < Rv.gridOf p tick) (h2 : p.count ≤ Rv.gridOf p tick - s.grid) : Rv.moveW p s tick = Rv.freshW p tick := by
  unfold Rv.moveW; rw [hs.counts]; simp only; rw [if_neg (by omega), if_neg (by omega)]
theorem move_near {p : Rv.Pol} {s : Rv.Sums} {tick : Int} (hs : SOk p s) (h : s.grid < Rv.gridOf p tick) {k : Nat} (hk : Rv.gridOf p tick - s.grid = (k : Int)) (h2 : (k : Int) < p.count) : Rv.moveW p s tick = ⟨Rv.gridOf p tick, s.l.drop k ++ List.replicate k 0⟩ := by
  unfold Rv.moveW; rw [hs.counts]; simp only; rw [if_neg (by omega), hk, if_pos h2]; simp
theorem fresh_list {p : Rv.Pol} {s : Rv.Sums} {tick : Int} (hs : SOk p s) : Rv.freshW p tick = ⟨Rv.gridOf p tick, List.replicate s.l.length 0⟩ := by
  unfold Rv.freshW; rw [← hs.len]; rfl

def MoveRes (R : HP) (w : World) (s : Rv.Sums) (e : Ending) (w' : World) : Prop := ∃ B c', e = .returned (sumsV s B c') ∧ Sat w' (intsP (.slice B s.l.length c') s.l * R) ∧ Same w w'

set_option maxHeartbeats 4000000 in
set_option maxRecDepth 100000 in
theorem wmove_any (R : HP) (p : Rv.Pol) (s : Rv.Sums) (tick : Int) (A : Option Addr) (c : Nat) (w : World) (hR : Sat w R) (hr : RdIn R A (s.l.map intI)) (hnil : A = none → c = 0) (hs : SOk p s) (h : p.ok = true) (hk : p.kind = 2) :
    Calls Tryz.prog 215 #[.agg (polCells p), sumsV s A c, .int .i64 tick] w (MoveRes R w (Rv.moveW p s tick)) := by
  have Hok := Lib.hid h
  have Hk := Lib.hid hk
  have Hs := Lib.hid hs
  have Hr := Lib.hid hr
  have Hnil := Lib.hid hnil
  have hlen := Lib.hid hs.len
  obtain ⟨-, -, q1, q2⟩ := width_ok h hk
  have S0 := Lib.hid (((hR.alloc (.cells (polCells p) 33)).alloc (.cells #[.int .i64 s.grid, .slice A s.l.length c] 224)).alloc (.cells #[.int .i64 0, .slice none 0 0] 224))
  have Z0 : Hid (Same w (((w.alloc (.cells (polCells p) 33)).alloc (.cells #[.int .i64 s.grid, .slice A s.l.length c] 224)).alloc (.cells #[.int .i64 0, .slice none 0 0] 224))) := Lib.hid (Same.of ((((Kept.refl (fun _ => False) w).alloc _).alloc _).alloc _))
  clear h hk hR hs hr hnil
  go_enter Tryz.func215, Tryz.ntmps215
  go_upto_region 1 with (fail)
  obtain ⟨w0, hw0⟩ : ∃ w0, w0 = ((w.alloc (.cells (polCells p) 33)).alloc (.cells #[.int .i64 s.grid, .slice A s.l.length c] 224)).alloc (.cells #[.int .i64 0, .slice none 0 0] 224) := ⟨_, rfl⟩
  change Code.wp _ _ _ _ (((w.alloc (.cells (polCells p) 33)).alloc (.cells #[.int .i64 s.grid, .slice A s.l.length c] 224)).alloc (.cells #[.int .i64 0, .slice none 0 0] 224))
  rw [← hw0] at S0 Z0 ⊢
  simp only [World.size_alloc] at S0
  clear hw0
  generalize w.heap.size + 1 + 1 = g6 at *
  generalize w.heap.size + 1 = g4 at *
  generalize w.heap.size = g3 at *
  have q3 := Lib.hid S0.out.right.right.heap
  go_wp2_with ((with_reducible refine at_slot 10 ?_); refine wpList_load_row rfl 33 (.tmp 3) rfl g3 (by rfl) 33 (polCells p) (0, 0) _ q3.out Tryz.underlying33 (by rfl) info_pol ?_)
  refine (wmeans_yes p _ Hok.out Hk.out).mono ?_
  rintro e w1 ⟨rfl, b1⟩
  have S1 := Lib.hid (S0.out.below b1)
  have Z1 := Lib.hid (Z0.out.then (Rv.Same.below b1))
  clear b1 S0 Z0 q3
  have q3 := Lib.hid S1.out.right.right.heap
  have q4 := Lib.hid S1.out.right.heap
  go_wp2_with (first | ((with_reducible refine at_slot 14 ?_); refine wpList_load_row rfl 33 (.tmp 3) rfl g3 (by rfl) 33 (polCells p) (0, 0) _ q3.out Tryz.underlying33 (by rfl) info_pol ?_) | ((with_reducible refine at_slot 15 ?_); refine wpList_load_row rfl 224 (.tmp 4) rfl g4 (by rfl) 224 #[.int .i64 s.grid, .slice A s.l.length c] (0, 0) _ q4.out Tryz.underlying224 (by rfl) info_sums ?_))
  refine (counts_any _ p s A c w1 S1.out (Rv.RdIn.right (Rv.RdIn.right (Rv.RdIn.right Hr.out))) Hnil.out Hs.out Hok.out Hk.out).mono ?_
  rintro e w2 ⟨B, C, rfl, s2, z2⟩
  have S2 := Lib.hid s2
  have Z2 := Lib.hid (Z1.out.then z2)
  clear s2 z2 S1 Z1 q3 q4
  have q4 := Lib.hid S2.out.right.right.heap
  go_upto_region 4 with ((with_reducible refine at_store 224 4 16 ?_); refine wpList_store_row rfl 224 (.tmp 4) (.tmp 16) rfl g4 #[.int .i64 s.grid, .slice B s.l.length C] (by rfl) (by rfl) 224 #[.int .i64 s.grid, .slice A s.l.length c] q4.out info_sums (by rfl) (by simp [Value.oneCell']) ?_)
  have S3 : Hid (Sat (w2.setRow g4 #[.int .i64 s.grid, .slice B s.l.length C]) (pt g4 (.cells #[.int .i64 s.grid, .slice B s.l.length C] 224) * (intsP (.slice B s.l.length C) s.l * (pt g6 (.cells #[.int .i64 0, .slice none 0 0] 224) * (pt g3 (.cells (polCells p) 33) * R))))) := Lib.hid (sat_setRow (S2.out.perm (show _ = pt g4 (.cells #[.int .i64 s.grid, .slice A s.l.length c] 224) * (intsP (.slice B s.l.length C) s.l * (pt g6 (.cells #[.int .i64 0, .slice none 0 0] 224) * (pt g3 (.cells (polCells p) 33) * R))) by ac_rfl)))
  have Z3 : Hid (Same w (w2.setRow g4 #[.int .i64 s.grid, .slice B s.l.length C])) := Lib.hid (Z2.out.then (same_setRow _ _ _))
  clear S2 Z2 q4
  generalize w2.setRow g4 #[.int .i64 s.grid, .slice B s.l.length C] = w3 at *
  have q3 := Lib.hid S3.out.right.right.right.heap
  go_wp2_with ((with_reducible refine at_slot 17 ?_); refine wpList_load_row rfl 33 (.tmp 3) rfl g3 (by rfl) 33 (polCells p) (0, 0) _ q3.out Tryz.underlying33 (by rfl) info_pol ?_)
  refine (grid_any p tick w3 Hok.out Hk.out).mono ?_
  rintro e w4 ⟨rfl, b4⟩
  have S4 := Lib.hid (S3.out.below b4)
  have Z4 := Lib.hid (Z3.out.then (Rv.Same.below b4))
  clear b4 S3 Z3 q3
  obtain ⟨to, hto⟩ : ∃ to, Rv.gridOf p tick = to := ⟨_, rfl⟩
  rw [hto]
  have Hto := Lib.hid hto
  clear hto
  have d0 : w4.cell? ⟨g4, 0, none⟩ = some (.int .i64 s.grid) := (sums_cells S4.out.heap).1
  by_cases hle : to ≤ s.grid
  · have HX : Hid (Rv.moveW p s tick = s) := Lib.hid (move_stay Hs.out (by rw [Hto.out]; exact hle))
    have e1 : decide (to ≤ s.grid) = true := by simpa using hle
    have q4 := Lib.hid S4.out.heap
    have q6 := Lib.hid S4.out.right.right.heap
    have S5 := Lib.hid (sat_setRow (n := #[.int .i64 s.grid, .slice B s.l.length C]) (S4.out.perm (show _ = pt g6 (.cells #[.int .i64 0, .slice none 0 0] 224) * (intsP (.slice B s.l.length C) s.l * (pt g4 (.cells #[.int .i64 s.grid, .slice B s.l.length C] 224) * (pt g3 (.cells (polCells p) 33) * R))) by ac_rfl)))
    clear hle
    go_wp2_with (first | ((with_reducible refine at_slot 24 ?_); refine wpList_load_row rfl 224 (.tmp 4) rfl g4 (by rfl) 224 #[.int .i64 s.grid, .slice B s.l.length C] (0, 0) _ q4.out Tryz.underlying224 (by rfl) info_sums ?_) | ((with_reducible refine at_store 224 6 24 ?_); refine wpList_store_row rfl 224 (.tmp 6) (.tmp 24) rfl g6 #[.int .i64 s.grid, .slice B s.l.length C] (by rfl) (by rfl) 224 #[.int .i64 0, .slice none 0 0] q6.out info_sums (by rfl) (by simp [Value.oneCell']) ?_))
    rw [HX.out]
    exact bodyPost_ret (results_cell_row Tryz.results215 _ _ g6 224 _ (0, 0) _ (by rfl) S5.out.heap Tryz.underlying224 (by rfl) info_sums) rfl ⟨B, C, rfl, S5.out.right.drop2.drop2, Z4.out.then (same_setRow _ _ _)⟩
  · have e1 : decide (to ≤ s.grid) = false := by simpa using hle
    have q3 := Lib.hid S4.out.right.right.right.heap
    go_wp2_with ((with_reducible refine at_slot 25 ?_); refine wpList_load_row rfl 33 (.tmp 3) rfl g3 (by rfl) 33 (polCells p) (0, 0) _ q3.out Tryz.underlying33 (by rfl) info_pol ?_)
    refine (fresh_any _ p tick w4 S4.out Hok.out Hk.out).mono ?_
    rw [fresh_list Hs.out, Hto.out]
    rintro e w5 ⟨B', C', rfl, s5, z5⟩
    simp only [sumsV, List.length_replicate] at s5 ⊢
    have S6 := Lib.hid (s5.alloc (.cells #[.int .i64 to, .slice B' s.l.length C'] 224))
    have Z6 := Lib.hid ((Z4.out.then z5).then (Same.of (Kept.alloc (Kept.refl (fun _ => False) _) (.cells #[.int .i64 to, .slice B' s.l.length C'] 224))))
    clear s5 z5 S4 Z4 q3 d0
    have hw1 : IntKind.i64.wrap (to - s.grid) = to - s.grid := IntWalk.i64_in _ (by
      have := Hs.out.g0
      have h1 := clipN_bd 1099511627776 tick (by omega)
      have h2 := width_ok Hok.out Hk.out
      have h3 : to ≤ Rv.clipN 1099511627776 tick := by rw [← Hto.out]; unfold Rv.gridOf; exact Int.ediv_le_self _ h1.1
      omega)
    go_upto_region 8 with (fail)
    generalize w5.alloc (.cells #[.int .i64 to, .slice B' s.l.length C'] 224) = w6 at *
    generalize w5.heap.size = g8 at *
    clear w5
    have d0 : w6.cell? ⟨g4, 0, none⟩ = some (.int .i64 s.grid) := (sums_cells S6.out.right.right.heap).1
    have d5 : w6.cell? ⟨g3, 5, none⟩ = some (.int .i64 p.count) := (cells_of S6.out.right.right.right.right.right.heap 5).trans rfl
    by_cases hfar : p.count ≤ to - s.grid
    · have HX : Hid (Rv.moveW p s tick = ⟨to, List.replicate s.l.length 0⟩) := Lib.hid (by rw [move_far Hs.out (by rw [Hto.out]; omega) (by rw [Hto.out]; exact hfar), fresh_list Hs.out, Hto.out])
      have e2 : decide (to - s.grid < p.count) = false := by simp; omega
      have q8 := Lib.hid S6.out.heap
      have q6 := Lib.hid S6.out.right.right.right.right.heap
      have S7 := Lib.hid (sat_setRow (n := #[.int .i64 to, .slice B' s.l.length C']) (S6.out.perm (show _ = pt g6 (.cells #[.int .i64 0, .slice none 0 0] 224) * (intsP (.slice B' s.l.length C') (List.replicate s.l.length 0) * (pt g8 (.cells #[.int .i64 to, .slice B' s.l.length C'] 224) * (pt g4 (.cells #[.int .i64 s.grid, .slice B s.l.length C] 224) * (intsP (.slice B s.l.length C) s.l * (pt g3 (.cells (polCells p) 33) * R))))) by ac_rfl)))
      clear hfar hle
      go_wp2_with (first | ((with_reducible refine at_slot 43 ?_); refine wpList_load_row rfl 224 (.tmp 8) rfl g8 (by rfl) 224 #[.int .i64 to, .slice B' s.l.length C'] (0, 0) _ q8.out Tryz.underlying224 (by rfl) info_sums ?_) | ((with_reducible refine at_store 224 6 43 ?_); refine wpList_store_row rfl 224 (.tmp 6) (.tmp 43) rfl g6 #[.int .i64 to, .slice B' s.l.length C'] (by rfl) (by rfl) 224 #[.int .i64 0, .slice none 0 0] q6.out info_sums (by rfl) (by simp [Value.oneCell']) ?_))
      rw [HX.out]
      exact bodyPost_ret (results_cell_row Tryz.results215 _ _ g6 224 _ (0, 0) _ (by rfl) S7.out.heap Tryz.underlying224 (by rfl) info_sums) rfl ⟨B', C', by simp, by simpa using S7.out.right.drop2.drop2.drop2.drop2, Z6.out.then (same_setRow _ _ _)⟩
    · have e2 : decide (to - s.grid < p.count) = true := by simp; omega
      obtain ⟨k, hk⟩ : ∃ k : Nat, to - s.grid = (k : Int) := ⟨(to - s.grid).toNat, by omega⟩
      have HX : Hid (Rv.moveW p s tick = ⟨to, s.l.drop k ++ List.replicate k 0⟩) := Lib.hid (by rw [move_near Hs.out (by rw [Hto.out]; omega) (by rw [Hto.out]; exact hk) (by omega), Hto.out])
      go_upto_region 10 with (fail)
      have hsh := (Rv.Sat.row_own (S6.out.right.right.right.left.one)).shape
      obtain ⟨A1, C1, he1, hc1, -, hr1⟩ := hsh
      injection he1 with he1 he2 he3
      subst he1; subst he3
      obtain ⟨u, hu⟩ := some_at (xs := s.l.map intI) (i := 0) (by have := hlen.out; simp; omega)
      obtain ⟨ad, rfl, -⟩ := hr1 0 u hu
      have hkn : k < s.l.length := by have := hlen.out; omega
      have hkc : s.l.length ≤ C := by simpa using hc1
      have d1 : w6.cell? ⟨g8, 1, none⟩ = some (.slice B' s.l.length C') := (sums_cells S6.out.heap).2.1
      have d2 : w6.cell? ⟨g4, 1, none⟩ = some (.slice (some ad) s.l.length C) := (sums_cells S6.out.right.right.heap).2.1
      have hs1 : ¬ C = k := by omega
      have hs0 : (0 : Int) ≤ (k : Int) := by omega
      have hs2 : (k : Int) ≤ (s.l.length : Int) := by omega
      have S7 : Hid (Sat w6.drew (intsP (.slice B' s.l.length C') (List.replicate s.l.length 0) * (pt g8 (.cells #[.int .i64 to, .slice B' s.l.length C'] 224) * (pt g4 (.cells #[.int .i64 s.grid, .slice (some ad) s.l.length C] 224) * (intsP (.slice (some ad) s.l.length C) s.l * (pt g6 (.cells #[.int .i64 0, .slice none 0 0] 224) * (pt g3 (.cells (polCells p) 33) * R))))))) := Lib.hid (S6.out.drew.perm (by ac_rfl))
      have HRd : Hid (RdIn (pt g8 (.cells #[.int .i64 to, .slice B' s.l.length C'] 224) * (pt g4 (.cells #[.int .i64 s.grid, .slice (some ad) s.l.length C] 224) * (intsP (.slice (some ad) s.l.length C) s.l * (pt g6 (.cells #[.int .i64 0, .slice none 0 0] 224) * (pt g3 (.cells (polCells p) 33) * R))))) (some (ad.add k)) ((s.l.drop k).map intI)) := Lib.hid (by
        rw [List.map_drop]
        exact (Rv.RdIn.right (Rv.RdIn.right (Rv.RdIn.left Rv.RdIn.row))).drop k)
      have hone : ∀ v ∈ (s.l.drop k).map intI, v.oneCell' = true := fun v hv => by obtain ⟨y, _, rfl⟩ := List.mem_map.1 hv; rfl
      have Hone := Lib.hid hone
      have hpos : 0 < s.l.length - k := by omega
      have hposn : 0 < s.l.length := by omega
      have hle2 : s.l.length - k ≤ s.l.length := by omega
      have hinfo : (Tryz.prog.info? 3).map (·.size) = some 1 := by kernel_rfl
      have HI := Lib.hid hinfo
      clear hr1 hu he2 hc1 hone hinfo S6 d0 d5 e2 hk hle hfar
      go_region_law (refine step_copy_sat rfl (.tmp 37) (.tmp 41) 39 39 rfl 3 Tryz.underlying39 HI.out B' (some (ad.add k)) s.l.length C' (s.l.length - k) (C - k) (by rfl) (by rfl) ((List.replicate s.l.length 0).map intI) ((s.l.drop k).map intI) S7.out (by simp) hposn (by simp) hle2 hpos HRd.out Hone.out ?_; intro w7 s7 z7)
      all_goals
        have e : (s.l.drop k).map intI ++ ((List.replicate s.l.length 0).map intI).drop ((s.l.drop k).map intI).length = (s.l.drop k ++ List.replicate k 0).map intI := by
          rw [← List.map_drop, ← List.map_append, List.length_map, List.length_drop, List.drop_replicate, show s.l.length - (s.l.length - k) = k by omega]
        rw [e] at s7
        have hl : (s.l.drop k ++ List.replicate k 0).length = s.l.length := by simp; omega
        have q8 := Lib.hid s7.out.right.heap
        have q6 := Lib.hid s7.out.right.right.right.right.heap
        have S8 := Lib.hid (sat_setRow (n := #[.int .i64 to, .slice B' s.l.length C']) (s7.out.perm (show _ = pt g6 (.cells #[.int .i64 0, .slice none 0 0] 224) * (intsP (.slice B' s.l.length C') (s.l.drop k ++ List.replicate k 0) * (pt g8 (.cells #[.int .i64 to, .slice B' s.l.length C'] 224) * (pt g4 (.cells #[.int .i64 s.grid, .slice (some ad) s.l.length C] 224) * (intsP (.slice (some ad) s.l.length C) s.l * (pt g3 (.cells (polCells p) 33) * R))))) by unfold intsP; ac_rfl)))
        have Z8 := Lib.hid ((Z6.out.drew.then z7.out).then (same_setRow w7 g6 #[.int .i64 to, .slice B' s.l.length C']))
        have Hl := Lib.hid hl
        clear e hl s7 z7 S7 HRd Hone hposn hpos hle2 hs0 hs1 hs2 d1 d2
        go_wp2_with (first | ((with_reducible refine at_slot 43 ?_); refine wpList_load_row rfl 224 (.tmp 8) rfl g8 (by rfl) 224 #[.int .i64 to, .slice B' s.l.length C'] (0, 0) _ q8.out Tryz.underlying224 (by rfl) info_sums ?_) | ((with_reducible refine at_store 224 6 43 ?_); refine wpList_store_row rfl 224 (.tmp 6) (.tmp 43) rfl g6 #[.int .i64 to, .slice B' s.l.length C'] (by rfl) (by rfl) 224 #[.int .i64 0, .slice none 0 0] q6.out info_sums (by rfl) (by simp [Value.oneCell']) ?_))
        rw [HX.out]
        exact bodyPost_ret (results_cell_row Tryz.results215 _ _ g6 224 _ (0, 0) _ (by rfl) S8.out.heap Tryz.underlying224 (by rfl) info_sums) rfl
          ⟨B', C', by simp only [sumsV]; rw [Hl.out], by show Sat _ (intsP (.slice B' (s.l.drop k ++ List.replicate k 0).length C') _ * R); rw [Hl.out]; exact S8.out.right.drop2.drop2.drop2.drop2, Z8.out⟩
end Go.Proofs.YtcmndglhileeoaaGreat
