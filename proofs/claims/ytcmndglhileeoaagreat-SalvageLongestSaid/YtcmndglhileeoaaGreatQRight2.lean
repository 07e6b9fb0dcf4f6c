/- The walks of package policy: Right, of a policy of a kind. -/
import Derived.Test.YtcmndglhileeoaaGreatQRight
import Derived.Test.YtcmndglhileeoaaGreatQSep
import Derived.Deep.QuietTactic
set_option linter.unusedSimpArgs false
set_option linter.unusedVariables false
namespace Go.Proofs.YtcmndglhileeoaaGreat
open Go.RowKit
open Rv (HP Sat Same pt allOf sat_all RdIn)

def tabOf (kind : Int) : List (Nat × Int × Int) := if kind = 1 then tab1 else tab2
/-- What fields tells: of the policy at g. -/
structure TabOf (F : Array Value) (g : Nat) (T : List (Nat × Int × Int)) : Prop where
  size : F.size = 24
  one : F.all (·.oneCell') = true
  len : T.length = 8
  at_ : ∀ (k off : Nat) (lo hi : Int), T[k]? = some (off, lo, hi) → ∀ w, (Instr.index 131 (.agg F) (.int .i64 (k : Int))).run Tryz.prog w = .ok (.agg #[fp g off, .int .i64 lo, .int .i64 hi]) w
  cells : ∀ (k off : Nat) (lo hi : Int), T[k]? = some (off, lo, hi) → F[3 * k]? = some (fp g off) ∧ F[3 * k + 1]? = some (.int .i64 lo) ∧ F[3 * k + 2]? = some (.int .i64 hi)
theorem tab_one (g : Nat) : TabOf (fields1 g) g tab1 := ⟨rfl, by simp [Value.oneCell'], rfl, fun k off lo hi h w => index1 g k off lo hi h w, fun k off lo hi h => by
  have hk : k < 8 := (List.getElem?_eq_some_iff.1 h).1
  have hs : k = 0 ∨ k = 1 ∨ k = 2 ∨ k = 3 ∨ k = 4 ∨ k = 5 ∨ k = 6 ∨ k = 7 := by omega
  rcases hs with rfl | rfl | rfl | rfl | rfl | rfl | rfl | rfl <;> simp [tab1] at h <;> obtain ⟨rfl, rfl, rfl⟩ := h <;> exact ⟨rfl, rfl, rfl⟩⟩
theorem tab_two (g : Nat) : TabOf (fields2 g) g tab2 := ⟨rfl, by simp [Value.oneCell'], rfl, fun k off lo hi h w => index2 g k off lo hi h w, fun k off lo hi h => by
  have hk : k < 8 := (List.getElem?_eq_some_iff.1 h).1
  have hs : k = 0 ∨ k = 1 ∨ k = 2 ∨ k = 3 ∨ k = 4 ∨ k = 5 ∨ k = 6 ∨ k = 7 := by omega
  rcases hs with rfl | rfl | rfl | rfl | rfl | rfl | rfl | rfl <;> simp [tab2] at h <;> obtain ⟨rfl, rfl, rfl⟩ := h <;> exact ⟨rfl, rfl, rfl⟩⟩
theorem fields_tab (g : Nat) (w : World) (k : Int) (h : k = 1 ∨ k = 2) (hc : w.cell? ⟨g, 0, none⟩ = some (.int .i64 k)) :
    Calls Tryz.prog 53 #[.pointer (some ⟨g, 0, none⟩)] w fun e w' => ∃ F, TabOf F g (tabOf k) ∧ e = .returned (.tuple #[.agg F, .bool true]) ∧ Below w.heap.size w w' := by
  rcases h with rfl | rfl
  · exact (fields_one g w hc).mono fun _ _ h => ⟨_, tab_one g, h.1, h.2⟩
  · exact (fields_two g w hc).mono fun _ _ h => ⟨_, tab_two g, h.1, h.2⟩

def fld (p : Rv.Pol) : Nat → Int
  | 0 => p.kind | 1 => p.cap | 2 => p.num | 3 => p.den | 4 => p.width | 5 => p.count | 6 => p.keys | 7 => p.slots | 8 => p.every | 9 => p.seg | _ => 0
theorem fields_map (p : Rv.Pol) (h : p.kind = 1 ∨ p.kind = 2) : p.fields = (tabOf p.kind).map fun t => (fld p t.1, t.2.1, t.2.2) := by
  unfold Rv.Pol.fields tabOf
  rcases h with h | h
  · rw [if_pos h, if_pos h]; rfl
  · have h1 : p.kind ≠ 1 := by omega
    rw [if_neg h1, if_neg h1]; rfl
theorem cell_fld (p : Rv.Pol) (off : Nat) (h : off < 10) : (polCells p)[off]? = some (.int .i64 (fld p off)) := by
  have : off = 0 ∨ off = 1 ∨ off = 2 ∨ off = 3 ∨ off = 4 ∨ off = 5 ∨ off = 6 ∨ off = 7 ∨ off = 8 ∨ off = 9 := by omega
  rcases this with rfl | rfl | rfl | rfl | rfl | rfl | rfl | rfl | rfl | rfl <;> rfl
theorem tab_off {kind : Int} {k off : Nat} {lo hi : Int} (h : (tabOf kind)[k]? = some (off, lo, hi)) : off < 10 := by
  have h2 := List.mem_of_getElem? h
  unfold tabOf at h2
  split at h2 <;> simp [tab1, tab2] at h2 <;> omega
theorem tab_len (kind : Int) : (tabOf kind).length = 8 := by unfold tabOf; split <;> rfl

/-- The first k fields are in their bounds. -/
def InFor (p : Rv.Pol) (k : Nat) : Prop := ∀ j, j < k → ∀ (off : Nat) (lo hi : Int), (tabOf p.kind)[j]? = some (off, lo, hi) → lo ≤ fld p off ∧ fld p off ≤ hi
theorem all_iff (p : Rv.Pol) (h : p.kind = 1 ∨ p.kind = 2) : (p.fields.all fun f => Rv.inB f.1 f.2.1 f.2.2) = true ↔ InFor p 8 := by
  rw [fields_map p h, List.all_eq_true]
  constructor
  · intro ha j hj off lo hi ht
    have := ha _ (List.mem_map.2 ⟨_, List.mem_of_getElem? ht, rfl⟩)
    simpa [Rv.inB] using this
  · intro hf x hx
    obtain ⟨⟨off, lo, hi⟩, ht, rfl⟩ := List.mem_map.1 hx
    obtain ⟨j, hj⟩ := List.getElem?_of_mem ht
    have := hf j (by have := (List.getElem?_eq_some_iff.1 hj).1; rw [tab_len] at this; exact this) off lo hi hj
    simpa [Rv.inB] using this

theorem _root_.Go.RowKit.Below.drewN {B : Nat} {a w : World} (h : Below B a w) (n : Nat) : Below B a (w.drewN n) := ⟨h.os, h.tape, h.output, h.size, h.block⟩
def RightRes (w : World) (p : Rv.Pol) (e : Ending) (w' : World) : Prop := e = .returned (.int .i64 p.right) ∧ Below w.heap.size w w'
theorem right_40 {p : Rv.Pol} (h : p.ok = false) : p.right = 40 := by unfold Rv.Pol.right; rw [h]; rfl
theorem right_0 {p : Rv.Pol} (h : p.ok = true) : p.right = 0 := by unfold Rv.Pol.right; rw [h]; rfl
theorem ok_out {p : Rv.Pol} (h : p.kind = 1 ∨ p.kind = 2) {k off : Nat} {lo hi : Int} (ht : (tabOf p.kind)[k]? = some (off, lo, hi)) (hv : fld p off < lo ∨ hi < fld p off) : p.ok = false := by
  unfold Rv.Pol.ok
  have : (p.fields.all fun f => Rv.inB f.1 f.2.1 f.2.2) = false := by
    cases ha : (p.fields.all fun f => Rv.inB f.1 f.2.1 f.2.2) with
    | false => rfl
    | true =>
      have h1 := (all_iff p h).1 ha k (by have := (List.getElem?_eq_some_iff.1 ht).1; rw [tab_len] at this; exact this) off lo hi ht
      omega
  rw [this, Bool.and_false]

theorem ok_one {p : Rv.Pol} (h : p.kind = 1) : p.ok = (!(p.width != 0) && !(p.count != 0) && (p.fields.all fun f => Rv.inB f.1 f.2.1 f.2.2)) := by
  unfold Rv.Pol.ok
  have e1 : decide (p.kind = 1) = true := by simp [h]
  have e2 : decide (p.kind = 2) = false := by simp [h]
  rw [e1, e2]
  simp only [Bool.true_and, Bool.false_and, Bool.or_false, bne, Bool.not_not]
  rfl
theorem ok_two {p : Rv.Pol} (h : p.kind = 2) : p.ok = (!(p.num != 0) && !(p.den != 0) && (p.fields.all fun f => Rv.inB f.1 f.2.1 f.2.2)) := by
  unfold Rv.Pol.ok
  have e1 : decide (p.kind = 2) = true := by simp [h]
  have e2 : decide (p.kind = 1) = false := by simp [h]
  rw [e1, e2]
  simp only [Bool.true_and, Bool.false_and, Bool.false_or, bne, Bool.not_not]
  rfl

/-- What stands in the loop of Right. -/
def RightMid (w wr : World) (p : Rv.Pol) : Prop := Sat wr (pt w.heap.size (.cells (polCells p) 33) * allOf w) ∧ Same w wr
theorem RightMid.below {w wr : World} {p : Rv.Pol} (h : RightMid w wr p) : Below w.heap.size w wr := h.2.to_below (h.1.perm (Rv.star_comm _ _))

set_option maxHeartbeats 4000000 in
set_option maxRecDepth 100000 in
theorem right_one (p : Rv.Pol) (w : World) (h1 : p.kind = 1) (b1 b2 : Bool) (hb1 : (p.width != 0) = b1) (hb2 : (p.count != 0) = b2) :
    Calls Tryz.prog 54 #[.agg (polCells p)] w (RightRes w p) := by
  have S0 := Lib.hid ((sat_all w).alloc (.cells (polCells p) 33))
  have HB := Lib.hid (fun o => (Below.refl w.heap.size w).alloc (Nat.le_refl _) o)
  have H1 := Lib.hid h1
  have Hb1 := Lib.hid hb1
  have Hb2 := Lib.hid hb2
  clear h1 hb1 hb2
  go_enter Tryz.func54, Tryz.ntmps54
  go_wp2_with fail
  refine (fields_tab w.heap.size _ p.kind (.inl H1.out) (by go_simp)).mono ?_
  rintro e w1 ⟨F, HT, rfl, b1⟩
  have HF := Lib.hid HT
  have hi : Hid ((Tryz.prog.info? 131).map (·.size) = some F.size) := Lib.hid (by rw [HT.size]; exact (zero_of_info zero131).2)
  have ho : Hid (zeros8.size = F.size) := Lib.hid (by rw [HT.size]; rfl)
  have h1c := Lib.hid HT.one
  clear HT
  have B1 := Lib.hid (below_then (HB.out _) (by simp) b1)
  have S1 := Lib.hid ((S0.out.below b1).alloc (.cells zeros8 131))
  clear b1 S0 HB
  go_upto_region 2 with (first
    | (refine wpList_alloc (o := ⟨some 3, .alloc _, _, _, _, _⟩) rfl 131 rfl (.agg zeros8) (zero_of_info zero131).1 ?_)
    | (refine wpList_store_row (o := ⟨none, .store _ _ _, _, _, _, _⟩) rfl 131 (.tmp 3) (.tmp 9) rfl w1.heap.size F (by rfl) (by rfl) 131 zeros8 (heap_alloc_new w1 _) hi.out ho.out h1c.out ?_; have S2 := Lib.hid (S1.out.put (setRow_heap _ w1.heap.size _ F 131 (0, 0) (heap_alloc_new w1 _)) (fun k hk => setRow_other _ _ _ _ hk)); have R := Lib.hid (below_setRow (B1.out.alloc B1.out.size (.cells zeros8 131)) B1.out.size F); change wpList _ _ _ _ _ ((w1.alloc (.cells zeros8 131)).setRow w1.heap.size F); generalize (w1.alloc (.cells zeros8 131)).setRow w1.heap.size F = w9 at *; clear B1 S1; generalize w1.heap.size = gf at *; clear w1))
  have q9 := S2.out.right.heap
  have d0 : w9.cell? ⟨w.heap.size, 0, none⟩ = some (.int .i64 1) := by rw [cells_of q9]; show some (Value.int .i64 p.kind) = _; rw [H1.out]
  have d4 : w9.cell? ⟨w.heap.size, 4, none⟩ = some (.int .i64 p.width) := by rw [cells_of q9]; rfl
  have d5 : w9.cell? ⟨w.heap.size, 5, none⟩ = some (.int .i64 p.count) := by rw [cells_of q9]; rfl
  have M9 : Hid (RightMid w w9 p) := Lib.hid ⟨S2.out.right, Same.below R.out⟩
  have G9 := Lib.hid S2.out.heap
  clear S2 R q9
  cases b1 with
  | true =>
    have e1 := Hb1.out
    clear hi ho h1c HF G9
    go_wp2_with fail
    go_ret
    exact ⟨by rw [right_40 (by rw [ok_one H1.out, Hb1.out]; rfl)]; rfl, M9.out.below⟩
  | false =>
    cases b2 with
    | true =>
      have e1 := Hb1.out
      have e2 := Hb2.out
      clear hi ho h1c HF G9
      go_wp2_with fail
      go_ret
      exact ⟨by rw [right_40 (by rw [ok_one H1.out, Hb1.out, Hb2.out]; rfl)]; rfl, M9.out.below⟩
    | false =>
      have e1 := Hb1.out
      have e2 := Hb2.out
      go_upto_region 4 with (fail)
      clear e1 e2 d0 d4 d5
      go_wp2_with (refine wpList_load_row (o := ⟨some 43, _, _, _, _, _⟩) rfl 131 (.tmp 3) rfl gf (by rfl) 131 F (0, 0) _ G9.out Tryz.underlying131 (by rfl) hi.out ?_)
      have HT := Lib.hid HF.out.at_
      rw [show tabOf p.kind = tabOf p.kind from rfl] at HT
      have Hok : Hid (p.ok = (p.fields.all fun f => Rv.inB f.1 f.2.1 f.2.2)) := Lib.hid (by rw [ok_one H1.out, Hb1.out, Hb2.out]; rfl)
      clear hi ho h1c HF G9 Hb1 Hb2
      go_loopw [44] (fun i wr => ∃ k : Nat, k ≤ 8 ∧ i = .int .i64 k ∧ InFor p k ∧ RightMid w wr p) (fun i _ => 8 - (intOf i).toNat)
      case atStart => exact ⟨0, by omega, rfl, fun j hj => by omega, M9.out⟩
      case round =>
        obtain ⟨k, hk, rfl, hin, hm⟩ := hrel
        have Hin := Lib.hid hin
        have Hm := Lib.hid hm
        clear hin hm M9
        by_cases hlt : k < 8
        · obtain ⟨⟨off, lo, hi⟩, ht⟩ := some_at (xs := tabOf p.kind) (i := k) (by rw [tab_len]; exact hlt)
          have hidx := HT.out k off lo hi ht
          have Ht := Lib.hid ht
          have hoff := tab_off ht
          clear ht
          have hc : wr.cell? ⟨w.heap.size, off, none⟩ = some (.int .i64 (fld p off)) := by rw [cells_of Hm.out.1.heap]; exact cell_fld p off hoff
          have hsz : w.heap.size < wr.heap.size := Hm.out.1.lt
          go_upto_region 7 with (fail)
          have Hm2 : Hid (RightMid w (wr.alloc (.cells #[fp w.heap.size off, .int .i64 lo, .int .i64 hi] 130)) p) := Lib.hid ⟨(Hm.out.1.alloc _).right, Same.then Hm.out.2 (Same.of (Kept.alloc (Kept.refl (fun _ => False) _) _))⟩
          have hc2 : (wr.alloc (.cells #[fp w.heap.size off, .int .i64 lo, .int .i64 hi] 130)).cell? ⟨w.heap.size, off, none⟩ = some (.int .i64 (fld p off)) := by rw [cells_of Hm2.out.1.heap]; exact cell_fld p off hoff
          clear hc hidx Hm
          by_cases hlo : fld p off < lo
          · have e1 : decide (fld p off < lo) = true := by simpa using hlo
            go_quiet (fail)
            go_wp2_with fail
            go_ret
            exact ⟨by rw [right_40 (ok_out (.inl H1.out) Ht.out (.inl hlo))]; rfl, Hm2.out.below.drewN nq⟩
          · have e1 : decide (fld p off < lo) = false := by simpa using hlo
            by_cases hhi : hi < fld p off
            · have e2 : decide (hi < fld p off) = true := by simpa using hhi
              go_quiet (fail)
              go_wp2_with fail
              go_ret
              exact ⟨by rw [right_40 (ok_out (.inl H1.out) Ht.out (.inr hhi))]; rfl, Hm2.out.below.drewN nq⟩
            · have e2 : decide (hi < fld p off) = false := by simpa using hhi
              go_quiet (fail)
              go_wp2_with fail
              go_roundw
              case rel =>
                refine ⟨k + 1, by omega, by go_num, ?_, ⟨Hm2.out.1, Hm2.out.2.drewN nq⟩⟩
                intro j hj o l h hjt
                by_cases hjk : j < k
                · exact Hin.out j hjk o l h hjt
                · obtain rfl : j = k := by omega
                  rw [Ht.out] at hjt
                  injection hjt with hjt
                  injection hjt with h1 h2
                  injection h2 with h2 h3
                  subst h1; subst h2; subst h3
                  omega
              case measure => simp [intOf]; omega
        · obtain rfl : k = 8 := by omega
          go_wp2_with fail
          go_ret
          exact ⟨by rw [right_0 (by rw [Hok.out]; exact (all_iff p (.inl H1.out)).2 Hin.out)]; rfl, Hm.out.below⟩
set_option maxHeartbeats 4000000 in
set_option maxRecDepth 100000 in
theorem right_two (p : Rv.Pol) (w : World) (h1 : p.kind = 2) (b1 b2 : Bool) (hb1 : (p.num != 0) = b1) (hb2 : (p.den != 0) = b2) :
    Calls Tryz.prog 54 #[.agg (polCells p)] w (RightRes w p) := by
  have S0 := Lib.hid ((sat_all w).alloc (.cells (polCells p) 33))
  have HB := Lib.hid (fun o => (Below.refl w.heap.size w).alloc (Nat.le_refl _) o)
  have H1 := Lib.hid h1
  have Hb1 := Lib.hid hb1
  have Hb2 := Lib.hid hb2
  clear h1 hb1 hb2
  go_enter Tryz.func54, Tryz.ntmps54
  go_wp2_with fail
  refine (fields_tab w.heap.size _ p.kind (.inr H1.out) (by go_simp)).mono ?_
  rintro e w1 ⟨F, HT, rfl, b1⟩
  have HF := Lib.hid HT
  have hi : Hid ((Tryz.prog.info? 131).map (·.size) = some F.size) := Lib.hid (by rw [HT.size]; exact (zero_of_info zero131).2)
  have ho : Hid (zeros8.size = F.size) := Lib.hid (by rw [HT.size]; rfl)
  have h1c := Lib.hid HT.one
  clear HT
  have B1 := Lib.hid (below_then (HB.out _) (by simp) b1)
  have S1 := Lib.hid ((S0.out.below b1).alloc (.cells zeros8 131))
  clear b1 S0 HB
  go_upto_region 2 with (first
    | (refine wpList_alloc (o := ⟨some 3, .alloc _, _, _, _, _⟩) rfl 131 rfl (.agg zeros8) (zero_of_info zero131).1 ?_)
    | (refine wpList_store_row (o := ⟨none, .store _ _ _, _, _, _, _⟩) rfl 131 (.tmp 3) (.tmp 9) rfl w1.heap.size F (by rfl) (by rfl) 131 zeros8 (heap_alloc_new w1 _) hi.out ho.out h1c.out ?_; have S2 := Lib.hid (S1.out.put (setRow_heap _ w1.heap.size _ F 131 (0, 0) (heap_alloc_new w1 _)) (fun k hk => setRow_other _ _ _ _ hk)); have R := Lib.hid (below_setRow (B1.out.alloc B1.out.size (.cells zeros8 131)) B1.out.size F); change wpList _ _ _ _ _ ((w1.alloc (.cells zeros8 131)).setRow w1.heap.size F); generalize (w1.alloc (.cells zeros8 131)).setRow w1.heap.size F = w9 at *; clear B1 S1; generalize w1.heap.size = gf at *; clear w1))
  have q9 := S2.out.right.heap
  have d0 : w9.cell? ⟨w.heap.size, 0, none⟩ = some (.int .i64 2) := by rw [cells_of q9]; show some (Value.int .i64 p.kind) = _; rw [H1.out]
  have d4 : w9.cell? ⟨w.heap.size, 2, none⟩ = some (.int .i64 p.num) := by rw [cells_of q9]; rfl
  have d5 : w9.cell? ⟨w.heap.size, 3, none⟩ = some (.int .i64 p.den) := by rw [cells_of q9]; rfl
  have M9 : Hid (RightMid w w9 p) := Lib.hid ⟨S2.out.right, Same.below R.out⟩
  have G9 := Lib.hid S2.out.heap
  clear S2 R q9
  cases b1 with
  | true =>
    have e1 := Hb1.out
    clear hi ho h1c HF G9
    go_wp2_with fail
    go_ret
    exact ⟨by rw [right_40 (by rw [ok_two H1.out, Hb1.out]; rfl)]; rfl, M9.out.below⟩
  | false =>
    cases b2 with
    | true =>
      have e1 := Hb1.out
      have e2 := Hb2.out
      clear hi ho h1c HF G9
      go_wp2_with fail
      go_ret
      exact ⟨by rw [right_40 (by rw [ok_two H1.out, Hb1.out, Hb2.out]; rfl)]; rfl, M9.out.below⟩
    | false =>
      have e1 := Hb1.out
      have e2 := Hb2.out
      go_upto_region 4 with (fail)
      clear e1 e2 d0 d4 d5
      go_wp2_with (refine wpList_load_row (o := ⟨some 43, _, _, _, _, _⟩) rfl 131 (.tmp 3) rfl gf (by rfl) 131 F (0, 0) _ G9.out Tryz.underlying131 (by rfl) hi.out ?_)
      have HT := Lib.hid HF.out.at_
      rw [show tabOf p.kind = tabOf p.kind from rfl] at HT
      have Hok : Hid (p.ok = (p.fields.all fun f => Rv.inB f.1 f.2.1 f.2.2)) := Lib.hid (by rw [ok_two H1.out, Hb1.out, Hb2.out]; rfl)
      clear hi ho h1c HF G9 Hb1 Hb2
      go_loopw [44] (fun i wr => ∃ k : Nat, k ≤ 8 ∧ i = .int .i64 k ∧ InFor p k ∧ RightMid w wr p) (fun i _ => 8 - (intOf i).toNat)
      case atStart => exact ⟨0, by omega, rfl, fun j hj => by omega, M9.out⟩
      case round =>
        obtain ⟨k, hk, rfl, hin, hm⟩ := hrel
        have Hin := Lib.hid hin
        have Hm := Lib.hid hm
        clear hin hm M9
        by_cases hlt : k < 8
        · obtain ⟨⟨off, lo, hi⟩, ht⟩ := some_at (xs := tabOf p.kind) (i := k) (by rw [tab_len]; exact hlt)
          have hidx := HT.out k off lo hi ht
          have Ht := Lib.hid ht
          have hoff := tab_off ht
          clear ht
          have hc : wr.cell? ⟨w.heap.size, off, none⟩ = some (.int .i64 (fld p off)) := by rw [cells_of Hm.out.1.heap]; exact cell_fld p off hoff
          have hsz : w.heap.size < wr.heap.size := Hm.out.1.lt
          go_upto_region 7 with (fail)
          have Hm2 : Hid (RightMid w (wr.alloc (.cells #[fp w.heap.size off, .int .i64 lo, .int .i64 hi] 130)) p) := Lib.hid ⟨(Hm.out.1.alloc _).right, Same.then Hm.out.2 (Same.of (Kept.alloc (Kept.refl (fun _ => False) _) _))⟩
          have hc2 : (wr.alloc (.cells #[fp w.heap.size off, .int .i64 lo, .int .i64 hi] 130)).cell? ⟨w.heap.size, off, none⟩ = some (.int .i64 (fld p off)) := by rw [cells_of Hm2.out.1.heap]; exact cell_fld p off hoff
          clear hc hidx Hm
          by_cases hlo : fld p off < lo
          · have e1 : decide (fld p off < lo) = true := by simpa using hlo
            go_quiet (fail)
            go_wp2_with fail
            go_ret
            exact ⟨by rw [right_40 (ok_out (.inr H1.out) Ht.out (.inl hlo))]; rfl, Hm2.out.below.drewN nq⟩
          · have e1 : decide (fld p off < lo) = false := by simpa using hlo
            by_cases hhi : hi < fld p off
            · have e2 : decide (hi < fld p off) = true := by simpa using hhi
              go_quiet (fail)
              go_wp2_with fail
              go_ret
              exact ⟨by rw [right_40 (ok_out (.inr H1.out) Ht.out (.inr hhi))]; rfl, Hm2.out.below.drewN nq⟩
            · have e2 : decide (hi < fld p off) = false := by simpa using hhi
              go_quiet (fail)
              go_wp2_with fail
              go_roundw
              case rel =>
                refine ⟨k + 1, by omega, by go_num, ?_, ⟨Hm2.out.1, Hm2.out.2.drewN nq⟩⟩
                intro j hj o l h hjt
                by_cases hjk : j < k
                · exact Hin.out j hjk o l h hjt
                · obtain rfl : j = k := by omega
                  rw [Ht.out] at hjt
                  injection hjt with hjt
                  injection hjt with h1 h2
                  injection h2 with h2 h3
                  subst h1; subst h2; subst h3
                  omega
              case measure => simp [intOf]; omega
        · obtain rfl : k = 8 := by omega
          go_wp2_with fail
          go_ret
          exact ⟨by rw [right_0 (by rw [Hok.out]; exact (all_iff p (.inr H1.out)).2 Hin.out)]; rfl, Hm.out.below⟩

theorem pright_any (p : Rv.Pol) (w : World) : Calls Tryz.prog 54 #[.agg (polCells p)] w (RightRes w p) := by
  by_cases h1 : p.kind = 1
  · exact right_one p w h1 _ _ rfl rfl
  · by_cases h2 : p.kind = 2
    · exact right_two p w h2 _ _ rfl rfl
    · refine (right_none p w h1 h2).mono ?_
      rintro e w' ⟨rfl, hb⟩
      refine ⟨?_, hb⟩
      rw [right_40]
      unfold Rv.Pol.ok
      rw [decide_eq_false h1, decide_eq_false h2]
      rfl
end Go.Proofs.YtcmndglhileeoaaGreat
