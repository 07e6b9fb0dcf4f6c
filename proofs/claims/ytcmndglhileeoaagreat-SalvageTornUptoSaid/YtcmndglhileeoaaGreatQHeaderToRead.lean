/- A part of the proof: its texts in a row: Header, Read. Each text's own remark stands at its head. -/
import Derived.Test.YtcmndglhileeoaaGreatQRight2
import Derived.Test.YtcmndglhileeoaaGreatQSepRToSepB
import Derived.Test.YtcmndglhileeoaaGreatQSealToChain
import Derived.Test.YtcmndglhileeoaaGreatQPlain
import Derived.Lib.SlBytesConst
/- The walks of package policy: Header. -/
set_option linter.unusedSimpArgs false
set_option linter.unusedVariables false
namespace Go.Proofs.YtcmndglhileeoaaGreat
open Go.RowKit
open Rv (HP Sat Same pt allOf sat_all RdIn row own)

theorem info_pol : (Tryz.prog.info? 33).map (·.size) = some 10 := by kernel_rfl

set_option maxHeartbeats 1000000 in
set_option maxRecDepth 100000 in
theorem header_bad (p : Rv.Pol) (w : World) (h : p.ok = false) :
    Calls Tryz.prog 33 #[.agg (polCells p)] w fun e w' => e = .returned (.tuple #[.slice none 0 0, .int .i64 40]) ∧ Below w.heap.size w w' := by
  have HB := Lib.hid (fun o => (Below.refl w.heap.size w).alloc (Nat.le_refl _) o)
  have HR := Lib.hid (right_40 h)
  clear h
  go_enter Tryz.func33, Tryz.ntmps33
  go_wp2_with (refine wpList_load_row (o := ⟨some 16, _, _, _, _, _⟩) rfl 33 (.tmp 1) rfl w.heap.size (by rfl) 33 (polCells p) (0, 0) _ (heap_alloc_new w _) Tryz.underlying33 (by rfl) info_pol ?_)
  refine (pright_any p _).mono ?_
  rintro e w1 ⟨rfl, b1⟩
  rw [HR.out]
  have B1 := Lib.hid (below_then (HB.out _) (by simp) b1)
  clear b1
  go_wp2_with fail
  go_ret2
  exact ⟨rfl, B1.out⟩
theorem kind_ok {p : Rv.Pol} (h : p.ok = true) : p.kind = 1 ∨ p.kind = 2 := by
  unfold Rv.Pol.ok at h
  by_cases h1 : p.kind = 1
  · exact .inl h1
  · by_cases h2 : p.kind = 2
    · exact .inr h2
    · rw [decide_eq_false h1, decide_eq_false h2] at h; simp at h
/-- The header's bytes behind k fields. -/
def hdrK (p : Rv.Pol) (k : Nat) : List UInt8 := [82, 69, 69, 76] ++ ((p.fields.take k).map fun f => Rv.numB f.1).flatten
theorem hdr_succ {p : Rv.Pol} (h : p.kind = 1 ∨ p.kind = 2) {k off : Nat} {lo hi : Int} (ht : (tabOf p.kind)[k]? = some (off, lo, hi)) : hdrK p (k + 1) = hdrK p k ++ Rv.numB (fld p off) := by
  unfold hdrK
  have : p.fields[k]? = some (fld p off, lo, hi) := by rw [fields_map p h, List.getElem?_map, ht]; rfl
  obtain ⟨hk, he⟩ := List.getElem?_eq_some_iff.1 this
  rw [List.take_succ_eq_append_getElem hk, he]
  simp
theorem hdr_len (p : Rv.Pol) (k : Nat) : (hdrK p k).length ≤ 4 + 9 * k := by
  unfold hdrK
  have : ∀ (l : List (Int × Int × Int)), ((l.map fun f => Rv.numB f.1).flatten).length ≤ 9 * l.length := by
    intro l
    induction l with
    | nil => simp
    | cons a r ih =>
      simp only [List.map_cons, List.flatten_cons, List.length_append, List.length_cons]
      have := Rv.numB_len a.1
      omega
  have h1 := this (p.fields.take k)
  have h2 : (p.fields.take k).length ≤ k := List.length_take_le _ _
  simp only [List.length_append, List.length_cons, List.length_nil]
  omega
theorem hdr_all (p : Rv.Pol) (h : p.kind = 1 ∨ p.kind = 2) : hdrK p 8 = p.body := by
  unfold hdrK Rv.Pol.body
  rw [List.take_of_length_le (by rw [fields_map p h, List.length_map, tab_len]; omega)]

theorem fld_bounds {p : Rv.Pol} (h : p.ok = true) {k off : Nat} {lo hi : Int} (ht : (tabOf p.kind)[k]? = some (off, lo, hi)) : 0 ≤ fld p off ∧ fld p off ≤ 1048576 := by
  have h1 : (p.fields.all fun f => Rv.inB f.1 f.2.1 f.2.2) = true := by
    unfold Rv.Pol.ok at h
    exact (Bool.and_eq_true_iff.1 h).2
  have h2 := (all_iff p (kind_ok h)).1 h1 k (by have := (List.getElem?_eq_some_iff.1 ht).1; rw [tab_len] at this; exact this) off lo hi ht
  have h3 : 0 ≤ lo ∧ hi ≤ 1048576 := by
    have h4 := List.mem_of_getElem? ht
    unfold tabOf at h4
    split at h4 <;> simp [tab1, tab2] at h4 <;> omega
  omega
theorem numB_pos {n : Int} (h0 : 0 ≤ n) (h1 : n ≤ 4611686018427387903) : 0 < (Rv.numB n).length := by
  unfold Rv.numB
  rw [mayN_yes h0 h1, if_pos rfl]
  rw [Rv.numN]
  split <;> simp
/-- What stands in the loop of Header. -/
def HdrMid (R : HP) (w wr : World) (p : Rv.Pol) (v : Value) (xs : List UInt8) : Prop := AppOk wr (pt w.heap.size (.cells (polCells p) 33) * R) v xs ∧ Same w wr
theorem HdrMid.begin {R : HP} {w w1 : World} {p : Rv.Pol} (h : Sat w1 (pt w.heap.size (.cells (polCells p) 33) * R)) (hs : Same w w1) :
    HdrMid R w (w1.alloc (.cells #[.int .u8 82, .int .u8 69, .int .u8 69, .int .u8 76] 5 (4, 5))) p (.slice (some ⟨w1.heap.size, 0, none⟩) 4 4) (hdrK p 0) := by
  refine ⟨.inr ⟨(h.alloc _).right, _, rfl, fun j c hj => ⟨_, rfl, ?_⟩⟩, Same.then hs (Same.of (Kept.alloc (Kept.refl (fun _ => False) _) _))⟩
  rw [add_zero_off, cells_of (heap_alloc_new w1 _)]
  have hl : j < 4 := (List.getElem?_eq_some_iff.1 hj).1
  have : j = 0 ∨ j = 1 ∨ j = 2 ∨ j = 3 := by omega
  rcases this with rfl | rfl | rfl | rfl <;> (cases hj; rfl)
def HeaderOk (R : HP) (w : World) (p : Rv.Pol) (e : Ending) (w' : World) : Prop :=
  ∃ B C, e = .returned (.tuple #[.slice B p.header.length C, .int .i64 0]) ∧ Sat w' (bytesP (.slice B p.header.length C) p.header * R) ∧ Same w w'

set_option maxHeartbeats 4000000 in
set_option maxRecDepth 100000 in
theorem header_ok (R : HP) (p : Rv.Pol) (w : World) (hR : Sat w R) (h : p.ok = true) : Calls Tryz.prog 33 #[.agg (polCells p)] w (HeaderOk R w p) := by
  have S0 := Lib.hid (hR.alloc (.cells (polCells p) 33))
  have HK := Lib.hid (kind_ok h)
  have Hok := Lib.hid h
  have HR := Lib.hid (right_0 h)
  clear h hR
  go_enter Tryz.func33, Tryz.ntmps33
  go_wp2_with (refine wpList_load_row (o := ⟨some 16, _, _, _, _, _⟩) rfl 33 (.tmp 1) rfl w.heap.size (by rfl) 33 (polCells p) (0, 0) _ (heap_alloc_new w _) Tryz.underlying33 (by rfl) info_pol ?_)
  refine (pright_any p _).mono ?_
  rintro e w1 ⟨rfl, b1⟩
  rw [HR.out]
  have M1 : Hid (Sat w1 (pt w.heap.size (.cells (polCells p) 33) * R) ∧ Same w w1) := Lib.hid ⟨S0.out.below b1, Same.then (Same.of (Kept.alloc (Kept.refl (fun _ => False) _) _)) (Rv.Same.below b1)⟩
  clear b1 S0
  have kc := fun (w : World) (C : Array Value) (n c : Nat) => Lib.run_convert_bytes_const (P := Tryz.prog) w 22 5 C n c Tryz.underlying22 Tryz.underlying5
  go_upto_region 5 with (fail)
  clear kc
  have M2 := Lib.hid (HdrMid.begin M1.out.1 M1.out.2)
  clear M1
  generalize w1.alloc (.cells #[.int .u8 82, .int .u8 69, .int .u8 69, .int .u8 76] 5 (4, 5)) = w2 at *
  generalize Value.slice (some ⟨w1.heap.size, 0, none⟩) 4 4 = v2 at *
  clear w1
  have hk0 : w2.cell? ⟨w.heap.size, 0, none⟩ = some (.int .i64 p.kind) := by rw [cells_of M2.out.1.base.heap]; rfl
  go_wp2_with fail
  refine (fields_tab w.heap.size _ p.kind HK.out hk0).mono ?_
  rintro e w3 ⟨F, HT, rfl, b1⟩
  clear hk0
  have HF := Lib.hid HT
  have hi : Hid ((Tryz.prog.info? 131).map (·.size) = some F.size) := Lib.hid (by rw [HT.size]; exact (zero_of_info zero131).2)
  have ho : Hid (zeros8.size = F.size) := Lib.hid (by rw [HT.size]; rfl)
  have h1c := Lib.hid HT.one
  clear HT
  have M3 : Hid (HdrMid R w w3 p v2 (hdrK p 0)) := Lib.hid ⟨M2.out.1.below b1, M2.out.2.then (Rv.Same.below b1)⟩
  clear b1 M2
  have hW : Hid (∀ (w9 : World), w9 = (w3.alloc (.cells zeros8 131)).setRow w3.heap.size F → HdrMid R w w9 p v2 (hdrK p 0) ∧ w9.heap[w3.heap.size]? = some (.cells F 131 (0, 0))) := Lib.hid (by
    rintro w9 rfl
    have b : Below w3.heap.size w3 ((w3.alloc (.cells zeros8 131)).setRow w3.heap.size F) := below_setRow ((Below.refl _ _).alloc (Nat.le_refl _) _) (Nat.le_refl _) F
    exact ⟨⟨M3.out.1.below b, M3.out.2.then (Rv.Same.below b)⟩, setRow_heap _ w3.heap.size _ F 131 (0, 0) (heap_alloc_new w3 _)⟩)
  go_upto_region 6 with (first
    | (refine wpList_alloc (o := ⟨some 6, .alloc _, _, _, _, _⟩) rfl 131 rfl (.agg zeros8) (zero_of_info zero131).1 ?_)
    | (refine wpList_store_row (o := ⟨none, .store _ _ _, _, _, _, _⟩) rfl 131 (.tmp 6) (.tmp 25) rfl w3.heap.size F (by rfl) (by rfl) 131 zeros8 (heap_alloc_new w3 _) hi.out ho.out h1c.out ?_; obtain ⟨w9, hw9⟩ : ∃ w9, w9 = (w3.alloc (.cells zeros8 131)).setRow w3.heap.size F := ⟨_, rfl⟩; have M9 := Lib.hid (hW.out w9 hw9); change wpList _ _ _ _ _ ((w3.alloc (.cells zeros8 131)).setRow w3.heap.size F); rw [← hw9]; clear hw9 hW M3; generalize w3.heap.size = gf at *; clear w3))
  have G9 := Lib.hid M9.out.2
  have M10 := Lib.hid M9.out.1
  clear M9 ho h1c
  go_wp2_with (refine wpList_load_row (o := ⟨some 27, _, _, _, _, _⟩) rfl 131 (.tmp 6) rfl gf (by rfl) 131 F (0, 0) _ G9.out Tryz.underlying131 (by rfl) hi.out ?_)
  clear G9 hi
  go_loopw [5, 28] (fun v i wr => ∃ k : Nat, k ≤ 8 ∧ i = .int .i64 k ∧ HdrMid R w wr p v (hdrK p k)) (fun _ i _ => 8 - (intOf i).toNat)
  case atStart => exact ⟨0, by omega, rfl, M10.out⟩
  case round =>
    obtain ⟨k, hk, rfl, hm⟩ := hrel
    have Hm := Lib.hid hm
    clear hm M10
    by_cases hlt : k < 8
    · obtain ⟨⟨off, lo, hi⟩, ht⟩ := some_at (xs := tabOf p.kind) (i := k) (by rw [tab_len]; exact hlt)
      have hidx := HF.out.at_ k off lo hi ht
      have Ht := Lib.hid ht
      have hoff := tab_off ht
      clear ht
      have hsz : w.heap.size < wr.heap.size := Hm.out.1.base.lt
      go_upto_region 9 with (fail)
      obtain ⟨hv0, hv1⟩ := fld_bounds Hok.out Ht.out
      obtain ⟨wb, hwb⟩ : ∃ wb, wb = wr.alloc (.cells #[fp w.heap.size off, .int .i64 lo, .int .i64 hi] 130) := ⟨_, rfl⟩
      have Hm2 : Hid (HdrMid R w wb p u5 (hdrK p k)) := Lib.hid (by rw [hwb]; exact ⟨Hm.out.1.below ((Below.refl _ _).alloc (Nat.le_refl _) _), Hm.out.2.then (Same.of (Kept.alloc (Kept.refl (fun _ => False) _) _))⟩)
      have hc2 : wb.cell? ⟨w.heap.size, off, none⟩ = some (.int .i64 (fld p off)) := by rw [cells_of Hm2.out.1.base.heap]; exact cell_fld p off hoff
      have hc3 : wb.cell? ⟨wr.heap.size, 0, none⟩ = some (.pointer (some ⟨w.heap.size, off, none⟩)) := by rw [hwb]; rw [cells_of (heap_alloc_new wr _)]; rfl
      change Code.wp _ _ _ _ (wr.alloc (.cells #[fp w.heap.size off, .int .i64 lo, .int .i64 hi] 130))
      rw [← hwb]
      clear hidx Hm hwb
      go_wp2_with fail
      refine (number_yes (fld p off) wb hv0 (by omega)).mono ?_
      rintro e w4 ⟨v4, rfl, o4, b4⟩
      have Hm4 : Hid (AppOk w4 (bytesP v4 (Rv.numB (fld p off)) * (pt w.heap.size (.cells (polCells p) 33) * R)) u5 (hdrK p k)) := Lib.hid (Hm2.out.1.add b4 (fun R' hR' => bytesP_new hR' o4 b4))
      have Hs4 : Hid (Same w w4) := Lib.hid (Hm2.out.2.then (Rv.Same.below b4))
      have Hr4 := Lib.hid o4.shape
      have Hl4 := Lib.hid (numB_pos hv0 (show fld p off ≤ 4611686018427387903 by omega))
      have hl5 := hdr_len p k
      have hl6 := Rv.numB_len (fld p off)
      obtain ⟨A4, c4, rfl, -, -, hr4⟩ := Hr4.out
      have HR4 := Lib.hid hr4
      clear Hm2 hc2 hc3 o4 b4 Hr4 hr4
      go_wp2_with (at_builtin; refine sapp_ok rfl (.tmp 39) (.tmp 40) 22 rfl Tryz.underlying22 infoB u5 (hdrK p k) (Rv.numB (fld p off)) A4 _ c4 (by rfl) (by rfl) rfl Hl4.out Hm4.out HR4.out (hdrK p (k + 1)).length (by rw [hdr_succ HK.out Ht.out, List.length_append]) (by rw [hdr_succ HK.out Ht.out, List.length_append]; omega) ?_; intro B5 c5 w5 h5 s5; rw [← hdr_succ HK.out Ht.out] at h5; have H5 := Lib.hid h5; have S5 := Lib.hid s5; clear h5 s5)
      go_roundw
      case rel => exact ⟨k + 1, by omega, by go_num, .inl (H5.out.perm (show bytesP _ _ * (bytesP (.slice A4 _ c4) _ * _) = bytesP (.slice A4 _ c4) _ * (bytesP _ _ * _) by ac_rfl)).right, Hs4.out.then S5.out⟩
      case measure => simp [intOf]; omega
    · obtain rfl : k = 8 := by omega
      have Hm1 : Hid (HdrMid R w wr p u5 p.body) := Lib.hid (by rw [← hdr_all p HK.out]; exact Hm.out)
      have hl8 : p.body.length ≤ 76 := by rw [← hdr_all p HK.out]; exact hdr_len p 8
      clear Hm hlt
      obtain ⟨A5, c5, rfl, -, -, -⟩ := Hm1.out.1.shape
      go_wp2_with fail
      refine (start_any wr).mono ?_
      rintro e w4 ⟨rfl, b4⟩
      have Hm4 : Hid (HdrMid R w w4 p (.slice A5 p.body.length c5) p.body) := Lib.hid ⟨Hm1.out.1.below b4, Hm1.out.2.then (Rv.Same.below b4)⟩
      clear Hm1 b4
      obtain ⟨A', c', he, -, hr4, -⟩ := Hm4.out.1.shape
      injection he with he1 he2 he3
      subst he1; subst he3
      have HR4 := Lib.hid hr4
      clear hr4 he2
      go_wp2_with fail
      refine (add_any Rv.Seal.start A5 p.body c5 w4 HR4.out (by omega) (by rfl)).mono ?_
      rintro e w5 ⟨rfl, b5⟩
      have Hm5 : Hid (HdrMid R w w5 p (.slice A5 p.body.length c5) p.body) := Lib.hid ⟨Hm4.out.1.below b5, Hm4.out.2.then (Rv.Same.below b5)⟩
      clear Hm4 b5 HR4
      obtain ⟨sl, hsl⟩ : ∃ s, s = Rv.Seal.start.adds p.body := ⟨_, rfl⟩
      rw [← hsl]
      have Hsr : Hid (sl.right = true) := Lib.hid (by rw [hsl]; exact adds_right (by rfl) _)
      have Hsl := Lib.hid hsl
      clear hsl
      have Hsb : Hid (0 < sl.bytes.length) := Lib.hid (by unfold Rv.Seal.bytes; rw [if_pos Hsr.out]; simp [Rv.b3])
      have hb6 := Rv.Seal.bytes_len sl
      go_wp2_with fail
      refine (bytes_any sl _ Hsr.out).mono ?_
      rintro e w6 ⟨v6, rfl, o6, b6⟩
      have Hh : Hid (p.header = p.body ++ sl.bytes) := Lib.hid (by unfold Rv.Pol.header; rw [if_pos Hok.out, Hsl.out])
      have b56 : Below w5.heap.size w5 w6 := below_then ((Below.refl _ _).alloc (Nat.le_refl _) _) (by simp) b6
      have o56 : OwnB w6 w5.heap.size v6 sl.bytes := o6.mono (by simp)
      have Hm6 : Hid (AppOk w6 (bytesP v6 sl.bytes * (pt w.heap.size (.cells (polCells p) 33) * R)) (.slice A5 p.body.length c5) p.body) := Lib.hid (Hm5.out.1.add b56 (fun R' hR' => bytesP_new hR' o56 b56))
      have Hs6 : Hid (Same w w6) := Lib.hid (Hm5.out.2.then (Rv.Same.below b56))
      obtain ⟨A6, c6, rfl, -, -, hr6⟩ := o56.shape
      have HR6 := Lib.hid hr6
      clear Hm5 o6 b6 b56 o56 hr6
      go_wp2_with (at_builtin; refine sapp_ok rfl (.tmp 54) (.tmp 55) 22 rfl Tryz.underlying22 infoB _ p.body sl.bytes A6 _ c6 (by rfl) (by rfl) rfl Hsb.out Hm6.out HR6.out p.header.length (by rw [Hh.out, List.length_append]) (by rw [Hh.out, List.length_append]; omega) ?_; intro B7 c7 w7 h7 s7; rw [← Hh.out] at h7; have H7 := Lib.hid h7; have S7 := Lib.hid s7; clear h7 s7)
      go_ret2
      exact ⟨B7, c7, rfl, H7.out.drop2.drop2, Hs6.out.then S7.out⟩
end Go.Proofs.YtcmndglhileeoaaGreat

/- The walks of package policy: Read. -/
set_option linter.unusedSimpArgs false
set_option linter.unusedVariables false
namespace Go.Proofs.YtcmndglhileeoaaGreat
open Go.RowKit
open Rv (HP Sat Same pt allOf sat_all RdIn row own)

theorem results_ctc {P : Program} {fn : Func} {p q r : Tmp} {ty1 ty2 : TypeId} (h : fn.results = #[.cell p ty1, .tmp q, .cell r ty2]) (tmps : Array Value) (w : World) (g1 g2 : Nat) (t1 t2 : TypeId) (c1 c2 : Array Value) (f1 f2 : Nat × Nat) (d1 d2 : TypeDesc) (v : Value)
    (hp : tmps.getD p undef = .pointer (some ⟨g1, 0, none⟩)) (hq : tmps.getD q undef = v) (hr : tmps.getD r undef = .pointer (some ⟨g2, 0, none⟩)) (hg1 : w.heap[g1]? = some (.cells c1 t1 f1)) (hg2 : w.heap[g2]? = some (.cells c2 t2 f2))
    (hu1 : P.underlying ty1 = some d1) (hd1 : (match d1 with | .struct _ | .array _ _ => true | _ => false) = true) (hi1 : (P.info? ty1).map (·.size) = some c1.size)
    (hu2 : P.underlying ty2 = some d2) (hd2 : (match d2 with | .struct _ | .array _ _ => true | _ => false) = true) (hi2 : (P.info? ty2).map (·.size) = some c2.size) :
    (results fn tmps).run P w = .ok (.tuple #[.agg c1, v, .agg c2]) w := by
  have hp' : tmps[p]?.getD undef = .pointer (some ⟨g1, 0, none⟩) := by simpa using hp
  have hq' : tmps[q]?.getD undef = v := by simpa using hq
  have hr' : tmps[r]?.getD undef = .pointer (some ⟨g2, 0, none⟩) := by simpa using hr
  simp [results, h, hp', hq', hr', asAddr, run_loadVar_row w g1 t1 ty1 c1 f1 d1 hg1 hu1 hd1 hi1, run_loadVar_row w g2 t2 ty2 c2 f2 d2 hg2 hu2 hd2 hi2]

theorem info_flt : (Tryz.prog.info? 27).map (·.size) = some 2 := by kernel_rfl
abbrev fltCells (f : Rv.Fault) : Array Value := #[.int .i64 f.code, .int .i64 f.at_]
theorem one_pol (p : Rv.Pol) : (polCells p).all (·.oneCell') = true := by simp [Value.oneCell']
theorem one_flt (f : Rv.Fault) : (fltCells f).all (·.oneCell') = true := by simp [Value.oneCell']

/-- What policy.Read tells. -/
def preadRes : Except Rv.Fault (Rv.Pol × Nat) → Ending
  | .ok (p, to) => .returned (.tuple #[.agg (polCells p), .int .i64 (to : Int), .agg (fltCells ⟨0, 0⟩)])
  | .error f => .returned (.tuple #[.agg (polCells .zero), .int .i64 0, .agg (fltCells f)])

/-- What stands while Read works. -/
def PRd (R : HP) (w wr : World) : Prop :=
  Sat wr (pt w.heap.size (.cells (polCells .zero) 33) * (pt (w.heap.size + 1) (.cells (fltCells ⟨0, 0⟩) 27) * R)) ∧ Below w.heap.size w wr
theorem PRd.below {R : HP} {w wr w' : World} (h : PRd R w wr) (hb : Below wr.heap.size wr w') : PRd R w w' := ⟨h.1.below hb, below_then h.2 h.2.size hb⟩
theorem PRd.begin (w : World) : PRd 1 w ((w.alloc (.cells (polCells .zero) 33)).alloc (.cells (fltCells ⟨0, 0⟩) 27)) := by
  have h := ((sat_all w).alloc (.cells (polCells .zero) 33)).alloc (.cells (fltCells ⟨0, 0⟩) 27)
  simp only [World.size_alloc] at h
  refine ⟨?_, (((Below.refl w.heap.size w).alloc (Nat.le_refl _) _).alloc (by simp) _)⟩
  have h2 := (h.swap.perm (show _ = allOf w * (pt w.heap.size (.cells (polCells .zero) 33) * pt (w.heap.size + 1) (.cells (fltCells ⟨0, 0⟩) 27)) by ac_rfl)).right
  have := h2.one
  rw [Rv.star_assoc] at this
  exact this
theorem PRd.more {w wr : World} (h : PRd 1 w wr) (o : Obj) : PRd (pt wr.heap.size o) w (wr.alloc o) := by
  have h1 := h.1
  rw [Rv.star_one] at h1
  exact ⟨(h1.alloc o).perm (by ac_rfl), h.2.alloc h.2.size o⟩
/-- The end with a fault: the world behind both stores. -/
theorem PRd.exit {R : HP} {w wr : World} (h : PRd R w wr) (f : Rv.Fault) :
    ((wr.setRow w.heap.size (polCells .zero)).setRow (w.heap.size + 1) (fltCells f)).heap[w.heap.size]? = some (.cells (polCells .zero) 33 (0, 0)) ∧
    ((wr.setRow w.heap.size (polCells .zero)).setRow (w.heap.size + 1) (fltCells f)).heap[w.heap.size + 1]? = some (.cells (fltCells f) 27 (0, 0)) ∧
    Below w.heap.size w ((wr.setRow w.heap.size (polCells .zero)).setRow (w.heap.size + 1) (fltCells f)) := by
  have g1 := h.1.heap
  have g2 := h.1.right.heap
  refine ⟨?_, setRow_heap _ _ _ _ _ _ ((setRow_other _ _ _ _ (by omega)).trans g2), below_setRow (below_setRow h.2 (Nat.le_refl _) _) (by omega) _⟩
  rw [setRow_other _ _ _ _ (by omega)]
  exact setRow_heap _ _ _ _ _ _ g1
/-- The second store's old row. -/
theorem PRd.snd {R : HP} {w wr : World} (h : PRd R w wr) : (wr.setRow w.heap.size (polCells .zero)).heap[w.heap.size + 1]? = some (.cells (fltCells ⟨0, 0⟩) 27 (0, 0)) := (setRow_other _ _ _ _ (by omega)).trans h.1.right.heap
/-- What is told at such an end. -/
theorem PRd.results {R : HP} {w wr : World} (h : PRd R w wr) (f : Rv.Fault) (tmps : Array Value) (hp : tmps.getD 2 undef = .pointer (some ⟨w.heap.size, 0, none⟩)) (hq : tmps.getD 3 undef = .int .i64 0) (hr : tmps.getD 4 undef = .pointer (some ⟨w.heap.size + 1, 0, none⟩)) :
    (results Tryz.f28 tmps).run Tryz.prog ((wr.setRow w.heap.size (polCells .zero)).setRow (w.heap.size + 1) (fltCells f)) = .ok (.tuple #[.agg (polCells .zero), .int .i64 0, .agg (fltCells f)]) ((wr.setRow w.heap.size (polCells .zero)).setRow (w.heap.size + 1) (fltCells f)) :=
  results_ctc Tryz.results28 tmps _ w.heap.size (w.heap.size + 1) 33 27 (polCells .zero) (fltCells f) (0, 0) (0, 0) _ _ (.int .i64 0) hp hq hr (h.exit f).1 (h.exit f).2.1 Tryz.underlying33 (by rfl) info_pol Tryz.underlying27 (by rfl) info_flt

theorem reel_no {l : List UInt8} (h : l ≠ [82, 69, 69, 76]) : (l == [82, 69, 69, 76]) = false := by rw [beq_eq_false_iff_ne]; exact h
theorem rd_short {xs : List UInt8} (h : xs.length < 4 ∨ xs.take 4 ≠ [82, 69, 69, 76]) : Rv.Pol.read xs = .error ⟨41, 0⟩ := by
  unfold Rv.Pol.read
  rw [if_pos]
  rcases h with h | h
  · intro e
    have := congrArg List.length e
    simp at this
    omega
  · exact h

theorem conv_str (w : World) (ad : Addr) (c : Nat) (l : List UInt8) (h : RdB w (some ad) l) : (convert 22 9 (.slice (some ad) l.length c)).run Tryz.prog w = .ok (.string ⟨l.toArray⟩) w :=
  run_convert_bytes_back (P := Tryz.prog) w 22 9 5 ad c l Tryz.underlying22 Tryz.underlying5 Tryz.underlying9 (fun j hj => by
    obtain ⟨ad', e, hc⟩ := h j l[j] (List.getElem?_eq_getElem hj)
    cases e; exact hc)
theorem RdB.take {w : World} {A : Option Addr} {xs : List UInt8} (h : RdB w A xs) (n : Nat) : RdB w A (xs.take n) := fun j c hj => h j c (by
  rw [List.getElem?_take] at hj
  split at hj
  · exact hj
  · cases hj)
set_option maxHeartbeats 1000000 in
set_option maxRecDepth 100000 in
theorem pread_short (A : Option Addr) (xs : List UInt8) (c : Nat) (w : World) (hr : RdB w A xs) (hl : xs.length < 4) :
    Calls Tryz.prog 28 #[.slice A xs.length c] w fun e w' => e = preadRes (Rv.Pol.read xs) ∧ Below w.heap.size w w' := by
  rw [rd_short (.inl hl)]
  have e1 : decide ((xs.length : Int) < 4) = true := by simp; omega
  go_enter Tryz.func28, Tryz.ntmps28
  go_wp2_with fail
  exact bodyPost_ret (v := .tuple #[.agg (polCells .zero), .int .i64 0, .agg (fltCells ⟨41, 0⟩)]) (by simp [results, Tryz.results28, go_sem, Rv.Pol.zero]) rfl ⟨rfl, ((Below.refl _ _).alloc (Nat.le_refl _) _).alloc (by simp) _⟩

set_option maxHeartbeats 1000000 in
set_option maxRecDepth 100000 in
theorem pread_other (A : Option Addr) (xs : List UInt8) (c : Nat) (w : World) (hr : RdB w A xs) (hl : 4 ≤ xs.length) (hc : xs.length ≤ c) (hx : xs.take 4 ≠ [82, 69, 69, 76]) :
    Calls Tryz.prog 28 #[.slice A xs.length c] w fun e w' => e = preadRes (Rv.Pol.read xs) ∧ Below w.heap.size w w' := by
  rw [rd_short (.inr hx)]
  have e1 : decide ((xs.length : Int) < 4) = false := by simp; omega
  obtain ⟨u, hu⟩ := some_at (xs := xs) (i := 0) (by omega)
  obtain ⟨ad, rfl, _⟩ := hr 0 u hu
  have HR := Lib.hid hr
  have H4 := Lib.hid hx
  clear hr hu hx
  go_enter Tryz.func28, Tryz.ntmps28
  go_upto_region 1 with (fail)
  obtain ⟨w2, hw2⟩ : ∃ w2, w2 = (w.alloc (.cells (polCells .zero) 33)).alloc (.cells (fltCells ⟨0, 0⟩) 27) := ⟨_, rfl⟩
  change Code.wp _ _ _ _ ((w.alloc (.cells (polCells .zero) 33)).alloc (.cells (fltCells ⟨0, 0⟩) 27))
  rw [← hw2]
  have M2 : Hid (PRd 1 w w2) := Lib.hid (by rw [hw2]; exact PRd.begin w)
  clear hw2
  have hk := conv_str w2 ad c (xs.take 4) ((HR.out.below M2.out.2).take 4)
  rw [List.length_take, Nat.min_eq_left hl] at hk
  have hq : (xs.take 4 == [82, 69, 69, 76]) = false := reel_no H4.out
  go_wp2_with (first
    | ((with_reducible refine at_store 33 2 30 ?_); refine wpList_store_row rfl 33 (.tmp 2) (.tmp 30) rfl w.heap.size (polCells .zero) (by rfl) (by rfl) 33 (polCells .zero) M2.out.1.heap info_pol (by rfl) (one_pol _) ?_)
    | ((with_reducible refine at_store 27 4 31 ?_); refine wpList_store_row rfl 27 (.tmp 4) (.tmp 31) rfl (w.heap.size + 1) (fltCells ⟨41, 0⟩) (by rfl) (by rfl) 27 (fltCells ⟨0, 0⟩) M2.out.snd info_flt (by rfl) (one_flt _) ?_))
  exact bodyPost_ret (M2.out.results ⟨41, 0⟩ _ (by rfl) (by rfl) (by rfl)) rfl ⟨rfl, (M2.out.exit ⟨41, 0⟩).2.2⟩

theorem rdGo_bad : ∀ (l : Rv.Bs) (i n : Nat) (e : Int), Rv.rdGo i n l = .bad e → e = 10 ∨ e = 11
  | [], i, n, e, h => by cases h; exact .inl rfl
  | c :: r, i, n, e, h => by
    unfold Rv.rdGo at h
    simp only at h
    split at h
    · cases h; exact .inr rfl
    · split at h
      · cases h
      · exact rdGo_bad r _ _ e h
theorem rdB_bad {l : Rv.Bs} {e : Int} (h : Rv.rdB l = .bad e) : e = 10 ∨ e = 11 := rdGo_bad l 0 0 e h

theorem rd_bad1 {xs : List UInt8} (h : xs.take 4 = [82, 69, 69, 76]) {e : Int} (hb : Rv.rdB (xs.drop 4) = .bad e) : Rv.Pol.read xs = .error ⟨e, 4⟩ := by
  unfold Rv.Pol.read
  rw [if_neg (by rw [h]; simp), hb]
theorem rd_kind {xs : List UInt8} (h : xs.take 4 = [82, 69, 69, 76]) {n len : Nat} (hb : Rv.rdB (xs.drop 4) = .ok n len) (h1 : n ≠ 1) (h2 : n ≠ 2) : Rv.Pol.read xs = .error ⟨40, 4⟩ := by
  unfold Rv.Pol.read
  rw [if_neg (by rw [h]; simp), hb]
  simp only
  rw [if_pos ⟨h1, h2⟩]

end Go.Proofs.YtcmndglhileeoaaGreat
