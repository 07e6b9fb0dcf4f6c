/- A part of the proof: its texts in a row: TapeE, TapeF, TapeG, TapeI. Each text's own remark stands at its head. -/
import Derived.Test.YtcmndglhileeoaaGreatQTapeD
/- The walks of package tape: Bytes, At; Header. -/
set_option linter.unusedSimpArgs false
set_option linter.unusedVariables false
namespace Go.Proofs.YtcmndglhileeoaaGreat
open Go.RowKit
open Rv (HP Sat Same pt allOf sat_all RdIn row own)

set_option maxHeartbeats 1000000 in
set_option maxRecDepth 100000 in
theorem size_any (T : TypeId) (w : World) (R : HP) (g gc gl n z : Nat) (p : Rv.Pol) (l : Rv.Link) (sv ev : Value) (h : Sat w (makBox T g p gc gl l sv n z ev * R)) :
    Calls Tryz.prog 57 #[.pointer (some ⟨g, 0, none⟩)] w fun e w' => e = .returned (.int .i64 (z : Int)) ∧ w = w' := by
  obtain ⟨d8, d9, d10, d11, d12, d13, d14, d15, d16, d17, d18, d19⟩ := mak_facts h
  clear h
  go_enter Tryz.func57, Tryz.ntmps57
  go_wp2_with fail
  go_ret
  exact ⟨rfl, rfl⟩
set_option maxHeartbeats 1000000 in
set_option maxRecDepth 100000 in
theorem at_any (T : TypeId) (w : World) (R : HP) (g gc gl n z : Nat) (p : Rv.Pol) (l : Rv.Link) (sv ev : Value) (h : Sat w (makBox T g p gc gl l sv n z ev * R)) :
    Calls Tryz.prog 29 #[.pointer (some ⟨g, 0, none⟩)] w fun e w' => e = .returned (.int .i64 (z : Int)) ∧ w = w' := by
  have HB := Lib.hid (size_any T w R g gc gl n z p l sv ev h)
  clear h
  go_enter Tryz.func29, Tryz.ntmps29
  go_wp2_with fail
  refine HB.out.mono ?_
  rintro e w' ⟨rfl, rfl⟩
  go_wp2_with fail
  go_ret
  exact ⟨rfl, rfl⟩
set_option maxHeartbeats 1000000 in
set_option maxRecDepth 100000 in
theorem whead_any (T : TypeId) (w : World) (R : HP) (g gc gl n z : Nat) (p : Rv.Pol) (l : Rv.Link) (sv : Value) (hv : Value) (xs : List UInt8) (h : Sat w (makBox T g p gc gl l sv n z hv * (bytesP hv xs * R))) (hl : xs.length ≤ 1099511627776) :
    Calls Tryz.prog 13 #[.pointer (some ⟨g, 0, none⟩)] w fun e w' => ∃ B C, e = .returned (.slice B xs.length C) ∧ Sat w' (bytesP (.slice B xs.length C) xs * (makBox T g p gc gl l sv n z hv * (bytesP hv xs * R))) ∧ Same w w' := by
  obtain ⟨d8, d9, d10, d11, d12, d13, d14, d15, d16, d17, d18, d19⟩ := mak_facts h
  obtain ⟨A, c, rfl, -, -, hr⟩ := bytesP_shape h.right
  have hnil := (bytesP_own h.right).nilcap
  have HC := Lib.hid (clone_u8 w A xs.length c (u8s xs) (u8s_length _) hr.toV (u8s_one _) hnil (by omega))
  have H := Lib.hid h
  clear h hr hnil
  go_enter Tryz.func13, Tryz.ntmps13
  go_wp2_with fail
  refine HC.out.mono ?_
  rintro e w' ⟨B, C, rfl, o1, b1⟩
  have S1 := Lib.hid (bytesP_new (xs := xs) (v := .slice B xs.length C) H.out (by have := o1; unfold OwnV at this; rw [u8s_length] at this; exact this) b1)
  have Z1 := Lib.hid (Rv.Same.below b1)
  clear o1 b1 d8 d9 d10 d11 d12 d13 d14 d15 d16 d17 d18 d19
  go_wp2_with fail
  go_ret
  exact ⟨B, C, rfl, S1.out, Z1.out⟩
end Go.Proofs.YtcmndglhileeoaaGreat

/- The walks of package tape: Next's closure. -/
set_option linter.unusedSimpArgs false
set_option linter.unusedVariables false
namespace Go.Proofs.YtcmndglhileeoaaGreat
open Go.RowKit
open Rv (HP Sat Same pt allOf sat_all RdIn row own)

/-- Next's variables: the fault, the reader, where it stands. -/
def nxtP (gf gr gt g : Nat) (f : Rv.Fault) (tt : Nat) : HP := pt gf (.cells (fltCells f) 27) * (pt gt (.cells #[.int .i64 (tt : Int)] 3) * pt gr (.cells #[.pointer (some ⟨g, 0, none⟩)] 78))
theorem nxt_facts {w : World} {R : HP} {gf gr gt g : Nat} {f : Rv.Fault} {tt : Nat} (h : Sat w (nxtP gf gr gt g f tt * R)) :
    w.cell? ⟨gf, 0, none⟩ = some (.int .i64 f.code) ∧ w.cell? ⟨gf, 1, none⟩ = some (.int .i64 f.at_) ∧ w.cell? ⟨gt, 0, none⟩ = some (.int .i64 (tt : Int)) ∧ w.cell? ⟨gr, 0, none⟩ = some (.pointer (some ⟨g, 0, none⟩)) ∧
    w.frozen? ⟨gf, 0, none⟩ = false ∧ w.frozen? ⟨gf, 1, none⟩ = false ∧ w.frozen? ⟨gt, 0, none⟩ = false := by
  unfold nxtP at h
  rw [Rv.star_assoc, Rv.star_assoc] at h
  have q1 := h.heap
  have q2 := h.right.heap
  have q3 := h.right.right.heap
  exact ⟨(cells_of q1 0).trans rfl, (cells_of q1 1).trans rfl, (cells_of q2 0).trans rfl, (cells_of q3 0).trans rfl, frozen_of q1 0, frozen_of q1 1, frozen_of q2 0⟩
/-- What the closure does. -/
def takeF (f : Rv.Fault) (tt : Nat) (xs want : Rv.Bs) (code : Int) : Rv.Fault × Nat :=
  if f.code ≠ 0 then (f, tt) else if want.isPrefixOf (xs.drop tt) then (f, tt + want.length) else (⟨code, tt⟩, tt)

set_option maxHeartbeats 2000000 in
set_option maxRecDepth 100000 in
theorem take_any (T : TypeId) (w : World) (R : HP) (gf gr gt g gc gl n z : Nat) (p : Rv.Pol) (l : Rv.Link) (sv : Value) (ad : Addr) (bc : Nat) (xs want : List UInt8) (wA : Option Addr) (wc : Nat) (code : Int) (f : Rv.Fault) (tt : Nat)
    (h : Sat w (nxtP gf gr gt g f tt * (makBox T g p gc gl l sv n z (.slice (some ad) xs.length bc) * R))) (hx : RdIn R (some ad) (u8s xs)) (hw : RdIn R wA (u8s want)) (hto : tt ≤ xs.length) (hbc : xs.length ≤ bc) (hl : xs.length ≤ 4194304) (hwl : want.length ≤ 1099511627776) (hbm : bc ≤ 9223372036854775807) :
    Calls Tryz.prog 50 #[.slice wA want.length wc, .int .i64 code, .pointer (some ⟨gf, 0, none⟩), .pointer (some ⟨gr, 0, none⟩), .pointer (some ⟨gt, 0, none⟩)] w fun e w' =>
      e = .returned (.tuple #[]) ∧ Sat w' (nxtP gf gr gt g (takeF f tt xs want code).1 (takeF f tt xs want code).2 * (makBox T g p gc gl l sv n z (.slice (some ad) xs.length bc) * R)) ∧ Same w w' := by
  obtain ⟨n0, n1, n2, n3, f0, f1, f2⟩ := nxt_facts h
  obtain ⟨d8, d9, d10, d11, d12, d13, d14, d15, d16, d17, d18, d19⟩ := mak_facts h.right
  have H := Lib.hid h
  have hdl : (xs.drop tt).length = xs.length - tt := List.length_drop
  have HX : Hid (RdB w (some (ad.add tt)) (xs.drop tt)) := Lib.hid (rdV_u8 (by have := Rv.RdIn.drop hx tt w h.right.right; unfold u8s at this ⊢; rw [List.map_drop]; exact this))
  have HW : Hid (RdB w wA want) := Lib.hid (rdV_u8 (hw w h.right.right))
  by_cases hc : f.code = 0
  · have e1 : (f.code != 0) = false := by rw [hc]; rfl
    have hh := hasp_any w (some (ad.add tt)) wA (xs.drop tt) want (bc - tt) wc HX.out HW.out (by omega) (by omega)
    rw [hdl] at hh
    have HH := Lib.hid hh
    have HC := Lib.hid hc
    clear hh h hx hw hc
    go_enter Tryz.func50, Tryz.ntmps50
    go_upto_region 2 with (fail)
    have hb1 : (0 : Int) ≤ (tt : Int) := by omega
    have hb2 : (tt : Int) ≤ (xs.length : Int) := by omega
    have hb3 : (xs.length : Int) ≤ (bc : Int) := by omega
    have S0 : Hid (Sat w.drew (nxtP gf gr gt g f tt * (makBox T g p gc gl l sv n z (.slice (some ad) xs.length bc) * R))) := Lib.hid H.out.drew
    have Z0 : Hid (Same w w.drew) := Lib.hid (Rv.Same.refl w).drew
    obtain ⟨b, hb⟩ : ∃ b, want.isPrefixOf (xs.drop tt) = b := ⟨_, rfl⟩
    have HB := Lib.hid hb
    by_cases hbt : bc = tt
    · have e3 : xs.drop tt = [] := List.drop_eq_nil_of_le (by omega)
      have hh2 := hasp_any w.drew (some ad) wA [] want 0 wc (fun j c hj => by cases hj) HW.out (by simp) (by simp)
      rw [← e3, hb] at hh2
      rw [hdl] at hh2
      obtain rfl : tt = xs.length := by omega
      obtain rfl : bc = xs.length := by omega
      rw [Nat.sub_self] at hh2
      have HH2 := Lib.hid hh2
      clear hh2 hb HH e3
      have K0 : Hid (w.cell? ⟨gr, 0, none⟩ = some (.pointer (some ⟨g, 0, none⟩)) ∧ w.cell? ⟨gt, 0, none⟩ = some (.int .i64 (xs.length : Int)) ∧ w.cell? ⟨g, 19, none⟩ = some (.slice (some ad) xs.length xs.length)) := Lib.hid ⟨n3, n2, d19⟩
      go_region_held3 (fun w' => w'.cell? ⟨gr, 0, none⟩ = some (.pointer (some ⟨g, 0, none⟩)) ∧ w'.cell? ⟨gt, 0, none⟩ = some (.int .i64 (xs.length : Int)) ∧ w'.cell? ⟨g, 19, none⟩ = some (.slice (some ad) xs.length xs.length))
        (first | exact K0.out | go_keep)
        (first | (go_at_call 51; refine HH2.out.mono ?_; rintro e w' ⟨rfl, rfl⟩))
      clear n0 n1 n2 n3 f0 f1 f2
      obtain ⟨n0, n1, n2, n3, f0, f1, f2⟩ := nxt_facts S0.out
      generalize w.drew = w1 at *
      cases b with
      | true =>
        have hq : takeF f xs.length xs want code = (f, xs.length + want.length) := by unfold takeF; rw [if_neg (by rw [HC.out]; simp), if_pos HB.out]
        have HQ := Lib.hid hq
        clear hq
        go_wp2_with fail
        refine bodyPost_end (v := .tuple #[]) (by simp [results, Tryz.results50, go_sem]) rfl ⟨rfl, ?_, Z0.out.then (Kept.setCell (Kept.refl _ _) _ _ (.inl trivial))⟩
        rw [HQ.out]
        have h1 := S0.out
        unfold nxtP at h1 ⊢
        rw [Rv.star_assoc, Rv.star_assoc] at h1 ⊢
        exact (h1.swap.setCell (i := 0) (.int .i64 ((xs.length : Int) + (want.length : Int)))).swap
      | false =>
        have hq : takeF f xs.length xs want code = (⟨code, xs.length⟩, xs.length) := by unfold takeF; rw [if_neg (by rw [HC.out]; simp), if_neg (by rw [HB.out]; simp)]
        have HQ := Lib.hid hq
        clear hq
        go_wp2_with fail
        refine bodyPost_end (v := .tuple #[]) (by simp [results, Tryz.results50, go_sem]) rfl ⟨rfl, ?_, (Z0.out.then (Kept.setCell (Kept.refl _ _) _ _ (.inl trivial))).then (Kept.setCell (Kept.refl _ _) _ _ (.inl trivial))⟩
        rw [HQ.out]
        have h1 := S0.out
        unfold nxtP at h1 ⊢
        rw [Rv.star_assoc, Rv.star_assoc] at h1 ⊢
        exact (h1.setCell (i := 0) (.int .i64 code)).setCell (i := 1) (.int .i64 (xs.length : Int))
    · have hh2 := hasp_any w.drew (some (ad.add tt)) wA (xs.drop tt) want (bc - tt) wc HX.out HW.out (by omega) (by omega)
      rw [hdl, hb] at hh2
      have HH2 := Lib.hid hh2
      clear hh2 hb HH
      have K0 : Hid (w.cell? ⟨gr, 0, none⟩ = some (.pointer (some ⟨g, 0, none⟩)) ∧ w.cell? ⟨gt, 0, none⟩ = some (.int .i64 (tt : Int)) ∧ w.cell? ⟨g, 19, none⟩ = some (.slice (some ad) xs.length bc)) := Lib.hid ⟨n3, n2, d19⟩
      go_region_held3 (fun w' => w'.cell? ⟨gr, 0, none⟩ = some (.pointer (some ⟨g, 0, none⟩)) ∧ w'.cell? ⟨gt, 0, none⟩ = some (.int .i64 (tt : Int)) ∧ w'.cell? ⟨g, 19, none⟩ = some (.slice (some ad) xs.length bc))
        (first | exact K0.out | go_keep)
        (first | (go_at_call 51; refine HH2.out.mono ?_; rintro e w' ⟨rfl, rfl⟩))
      clear n0 n1 n2 n3 f0 f1 f2
      obtain ⟨n0, n1, n2, n3, f0, f1, f2⟩ := nxt_facts S0.out
      generalize w.drew = w1 at *
      cases b with
      | true =>
        have hq : takeF f tt xs want code = (f, tt + want.length) := by unfold takeF; rw [if_neg (by rw [HC.out]; simp), if_pos HB.out]
        have HQ := Lib.hid hq
        clear hq
        go_wp2_with fail
        refine bodyPost_end (v := .tuple #[]) (by simp [results, Tryz.results50, go_sem]) rfl ⟨rfl, ?_, Z0.out.then (Kept.setCell (Kept.refl _ _) _ _ (.inl trivial))⟩
        rw [HQ.out]
        have h1 := S0.out
        unfold nxtP at h1 ⊢
        rw [Rv.star_assoc, Rv.star_assoc] at h1 ⊢
        exact (h1.swap.setCell (i := 0) (.int .i64 ((tt : Int) + (want.length : Int)))).swap
      | false =>
        have hq : takeF f tt xs want code = (⟨code, tt⟩, tt) := by unfold takeF; rw [if_neg (by rw [HC.out]; simp), if_neg (by rw [HB.out]; simp)]
        have HQ := Lib.hid hq
        clear hq
        go_wp2_with fail
        refine bodyPost_end (v := .tuple #[]) (by simp [results, Tryz.results50, go_sem]) rfl ⟨rfl, ?_, (Z0.out.then (Kept.setCell (Kept.refl _ _) _ _ (.inl trivial))).then (Kept.setCell (Kept.refl _ _) _ _ (.inl trivial))⟩
        rw [HQ.out]
        have h1 := S0.out
        unfold nxtP at h1 ⊢
        rw [Rv.star_assoc, Rv.star_assoc] at h1 ⊢
        exact (h1.setCell (i := 0) (.int .i64 code)).setCell (i := 1) (.int .i64 (tt : Int))
  · have e1 : (f.code != 0) = true := by simpa using hc
    have ht : takeF f tt xs want code = (f, tt) := by unfold takeF; rw [if_pos hc]
    rw [ht]
    clear h hx hw
    go_enter Tryz.func50, Tryz.ntmps50
    go_wp2_with fail
    exact bodyPost_end (v := .tuple #[]) (by simp [results, Tryz.results50, go_sem]) rfl ⟨rfl, H.out, Rv.Same.refl w⟩
end Go.Proofs.YtcmndglhileeoaaGreat

/- The walks of package tape: begun. -/
set_option linter.unusedSimpArgs false
set_option linter.unusedVariables false
namespace Go.Proofs.YtcmndglhileeoaaGreat
open Go.RowKit
open Rv (HP Sat Same pt allOf sat_all RdIn row own)

/-- The cells of a maker of itself. -/
abbrev mkCells (p : Rv.Pol) (qc ql : Option Addr) (l : Rv.Link) (sv : Value) (n z : Nat) : Array Value :=
  #[.int .i64 p.kind, .int .i64 p.cap, .int .i64 p.num, .int .i64 p.den, .int .i64 p.width, .int .i64 p.count, .int .i64 p.keys, .int .i64 p.slots, .int .i64 p.every, .int .i64 p.seg,
    .pointer qc, .pointer ql, .int .i64 l.number, .int .i64 l.bytes, .int .i64 l.sl.re, .int .i64 l.sl.im, sv, .int .i64 (n : Int), .int .i64 (z : Int)]
abbrev mkZero : Array Value := mkCells .zero none none .zero (.slice none 0 0) 0 0
theorem info_mk : (Tryz.prog.info? 65).map (·.size) = some 19 := by kernel_rfl

theorem results_ctt {P : Program} {fn : Func} {p q r : Tmp} {ty : TypeId} (h : fn.results = #[.cell p ty, .tmp q, .tmp r]) (tmps : Array Value) (w : World) (g : Nat) (t : TypeId) (cs : Array Value) (fr : Nat × Nat) (d : TypeDesc) (v u : Value)
    (hp : tmps.getD p undef = .pointer (some ⟨g, 0, none⟩)) (hq : tmps.getD q undef = v) (hr : tmps.getD r undef = u) (hg : w.heap[g]? = some (.cells cs t fr))
    (hu : P.underlying ty = some d) (hd : (match d with | .struct _ | .array _ _ => true | _ => false) = true) (hi : (P.info? ty).map (·.size) = some cs.size) :
    (results fn tmps).run P w = .ok (.tuple #[.agg cs, v, u]) w := by
  have hp' : tmps[p]?.getD undef = .pointer (some ⟨g, 0, none⟩) := by simpa using hp
  have hq' : tmps[q]?.getD undef = v := by simpa using hq
  have hr' : tmps[r]?.getD undef = u := by simpa using hr
  simp [results, h, hp', hq', hr', asAddr, run_loadVar_row w g t ty cs fr d hg hu hd hi]

set_option maxHeartbeats 2000000 in
set_option maxRecDepth 100000 in
theorem begun_bad (p : Rv.Pol) (w : World) (h : p.ok = false) :
    Calls Tryz.prog 20 #[.agg (polCells p)] w fun e w' => e = .returned (.tuple #[.agg mkZero, .slice none 0 0, .int .i64 40]) ∧ Below w.heap.size w w' := by
  have H := Lib.hid h
  have S0 : Hid (Sat ((w.alloc (.cells (polCells p) 33)).alloc (.cells mkZero 65)) (pt (w.heap.size + 1) (.cells mkZero 65) * (pt w.heap.size (.cells (polCells p) 33) * allOf w))) := Lib.hid (by
    have := ((sat_all w).alloc (.cells (polCells p) 33)).alloc (.cells mkZero 65)
    rw [World.size_alloc] at this
    exact this)
  have Z0 : Hid (Same w ((w.alloc (.cells (polCells p) 33)).alloc (.cells mkZero 65))) := Lib.hid (Same.of (((Kept.refl (fun _ => False) w).alloc _).alloc _))
  clear h
  go_enter Tryz.func20, Tryz.ntmps20
  go_upto_region 1 with (fail)
  obtain ⟨w2, hw2⟩ : ∃ w2, w2 = ((w.alloc (.cells (polCells p) 33)).alloc (.cells mkZero 65)) := ⟨_, rfl⟩
  change Code.wp _ _ _ _ ((w.alloc (.cells (polCells p) 33)).alloc (.cells mkZero 65))
  rw [← hw2] at S0 Z0 ⊢
  clear hw2
  generalize w.heap.size + 1 = g2 at *
  generalize hg1 : w.heap.size = g1 at *
  have q1 := Lib.hid S0.out.right.heap
  go_wp2_with ((with_reducible refine at_slot 9 ?_); refine wpList_load_row rfl 33 (.tmp 1) rfl g1 (by rfl) 33 (polCells p) (0, 0) _ q1.out Tryz.underlying33 (by rfl) info_pol ?_)
  refine (header_bad p w2 H.out).mono ?_
  rintro e w3 ⟨rfl, b3⟩
  have S3 := Lib.hid (S0.out.below b3)
  have Z3 := Lib.hid (Z0.out.then (Rv.Same.below b3))
  clear b3 S0 Z0 q1
  go_wp2_with ((with_reducible refine at_store 65 2 15 ?_); refine wpList_store_row rfl 65 (.tmp 2) (.tmp 15) rfl g2 mkZero (by rfl) (by rfl) 65 mkZero S3.out.heap info_mk (by rfl) (by simp [Value.oneCell']) ?_; simp only [Act.put])
  have S4 := Lib.hid (sat_setRow (n := mkZero) S3.out)
  refine bodyPost_ret (results_ctt Tryz.results20 _ _ g2 65 mkZero (0, 0) _ (.slice none 0 0) (.int .i64 40) (by rfl) (by rfl) (by rfl) S4.out.heap Tryz.underlying65 (by rfl) info_mk) rfl ⟨rfl, ?_⟩
  exact (Z3.out.then (same_setRow _ _ _)).to_below (S4.out.right.right.one)
end Go.Proofs.YtcmndglhileeoaaGreat

/- What makes a maker's numbers such that may be, from record to record. No walk. -/
set_option linter.unusedSimpArgs false
set_option linter.unusedVariables false
namespace Go.Proofs.YtcmndglhileeoaaGreat
open Go.RowKit

theorem move_p (l : Rv.Ledger) (t : Int) : (l.move t).p = l.p := by unfold Rv.Ledger.move; split <;> rfl
theorem charge_p (l : Rv.Ledger) (k : ByteArray) (c : Int) : (l.charge k c).p = l.p := by unfold Rv.Ledger.charge; split <;> rfl
theorem charge_t (l : Rv.Ledger) (k : ByteArray) (c : Int) : (l.charge k c).tick = l.tick := by unfold Rv.Ledger.charge; split <;> rfl
theorem apply_p (l : Rv.Ledger) (r : Rv.Rec) : (Rv.applyL l r).p = l.p := by
  unfold Rv.applyL
  simp only
  split
  · rw [charge_p, move_p]
  · rw [move_p]
theorem move_t (l : Rv.Ledger) (t : Int) (h : l.tick ≤ t) : (l.move t).tick ≤ t := by
  unfold Rv.Ledger.move
  split
  · exact h
  · exact Int.le_refl _
theorem apply_t (l : Rv.Ledger) (r : Rv.Rec) (h : l.tick ≤ r.tick) : (Rv.applyL l r).tick ≤ r.tick := by
  unfold Rv.applyL
  simp only
  split
  · rw [charge_t]; exact move_t l r.tick h
  · exact move_t l r.tick h
theorem owed_done (m : Rv.Maker) (r : Rv.Rec) : (addOwed m r).getD (Rv.applyL m.owed r) = Rv.applyL m.owed r := by
  unfold addOwed
  split <;> rfl

theorem MOk.done {m : Rv.Maker} {r : Rv.Rec} {c : Rv.Coder} {piece : Rv.Bs} (h : MOk m) (hf : (m.adds r c piece).2 = true) (hn : m.records < 10000) (hc : c.tick = r.tick) (hle : m.coder.tick ≤ r.tick) (hkp : ∀ k ∈ c.d.keys, Rv.keyOk k = true) : MOk (m.done r (m.adds r c piece).1) := by
  by_cases hb : addSize m r piece > 4194304
  · rw [adds_big c hb] at hf; cases hf
  · rw [adds_fit c hb] at hf ⊢
    have hs := of_decide_eq_true hf
    have hseg := h.s1
    have hd : addSize m r piece = m.size + piece.length + (addCheck m r).length := rfl
    refine ⟨h.ok, ?_, ?_, ?_, ?_, ?_, ?_, ?_, hkp⟩
    · show ((addOwed m r).getD (Rv.applyL m.owed r)).p = m.p
      rw [owed_done, apply_p, h.lp]
    · show (addLink m r piece).may = true
      unfold addLink
      split
      · exact next_may h.may (by simp only [List.length_append]; omega)
      · exact h.may
    · show m.records + 1 ≤ 10000
      omega
    · show m.size + (piece.length + (addCheck m r).length + (addTr m r piece).length) ≤ 4194304
      omega
    · show (if addEnds m then [] else m.segment ++ piece ++ addCheck m r).length ≤ m.size + (piece.length + (addCheck m r).length + (addTr m r piece).length)
      split
      · simp
      · simp only [List.length_append]; omega
    · show ((addOwed m r).getD (Rv.applyL m.owed r)).of.length ≤ m.records + 1
      rw [owed_done]
      have := of_apply m.owed r
      have := h.o1
      omega
    · show ((addOwed m r).getD (Rv.applyL m.owed r)).tick ≤ c.tick
      rw [owed_done, hc]
      exact apply_t _ _ (Int.le_trans h.tk hle)
theorem header_len (p : Rv.Pol) : p.header.length ≤ 100 := by
  unfold Rv.Pol.header
  split
  · have h1 : (Rv.Seal.start.adds p.body).bytes.length ≤ 6 := by unfold Rv.Seal.bytes; split <;> simp [Rv.b3]
    have h2 : p.body.length ≤ 4 + 9 * 8 := by
      unfold Rv.Pol.body Rv.Pol.fields
      have h := fun n => Rv.numB_len n
      split <;> (simp only [List.length_append, List.map_append, List.map_cons, List.map_nil, List.flatten_append, List.flatten_cons, List.flatten_nil, List.length_cons, List.length_nil]
                 have a1 := h p.kind; have a2 := h p.cap; have a3 := h p.num; have a4 := h p.den; have a5 := h p.width; have a6 := h p.count; have a7 := h p.keys; have a8 := h p.slots; have a9 := h p.every; have a10 := h p.seg
                 omega)
    simp only [List.length_append]
    omega
  · simp
theorem MOk.begun {p : Rv.Pol} (h : p.ok = true) : MOk (Rv.Maker.begun p) := by
  refine ⟨h, rfl, ?_, Nat.zero_le _, ?_, Nat.zero_le _, Nat.zero_le _, Int.le_refl _, fun k hk => by cases hk⟩
  · show Rv.Link.may _ = true
    have := adds_right (s := Rv.Seal.start) rfl p.header
    unfold Rv.Maker.begun Rv.Link.may Rv.Link.first
    simp only [this]
    rfl
  · show p.header.length ≤ 4194304
    have := header_len p
    omega

/-! ### keys that may be -/
theorem use_keys {d : Rv.Dict} {key : ByteArray} (h : ∀ k ∈ d.keys, Rv.keyOk k = true) (hk : Rv.keyOk key = true) : ∀ k ∈ (d.use key).1.keys, Rv.keyOk k = true := by
  unfold Rv.Dict.use
  split
  · exact h
  · split
    · intro k hk'
      have h1 : k ∈ d.keys ++ [key] := hk'
      simp only [List.mem_append, List.mem_singleton] at h1
      rcases h1 with h1 | rfl
      · exact h k h1
      · exact hk
    · intro k hk'
      have h1 : k ∈ d.keys.set (d.order.getD (d.room - 1) 0) key := hk'
      rcases List.mem_or_eq_of_mem_set h1 with h1 | rfl
      · exact h k h1
      · exact hk
theorem dget_keys {d d' : Rv.Dict} {b : Rv.Bs} {at_ tt : Nat} {key : ByteArray} (h : d.get b at_ = .ok (d', key, tt)) (hk : ∀ k ∈ d.keys, Rv.keyOk k = true) : Rv.keyOk key = true ∧ ∀ k ∈ d'.keys, Rv.keyOk k = true := by
  rw [Rv.Dict.get] at h
  split at h
  · cases h
  · rename_i n len hr
    split at h
    · split at h
      · cases h
      · rename_i ht
        simp only [Except.ok.injEq, Prod.mk.injEq] at h
        obtain ⟨rfl, rfl, rfl⟩ := h
        unfold Rv.Dict.touch at ht
        split at ht
        · rename_i hlt
          simp only [Option.some.injEq, Prod.mk.injEq] at ht
          obtain ⟨rfl, rfl⟩ := ht
          refine ⟨hk _ ?_, hk⟩
          have e : d.keys.getD (n - 1) ByteArray.empty = d.keys[n - 1]'hlt := by simp [List.getD, hlt]
          rw [e]
          exact List.getElem_mem _
        · cases ht
    · split at h
      · cases h
      · rename_i k len2 hr2
        split at h
        · cases h
        · rename_i h3
          split at h
          · cases h
          · rename_i h4
            simp only at h
            split at h
            · cases h
            · simp only [Except.ok.injEq, Prod.mk.injEq] at h
              obtain ⟨rfl, rfl, rfl⟩ := h
              have hkk : ∀ (l : List UInt8), l.length = k → Rv.keyOk (⟨l.toArray⟩ : ByteArray) = true := fun l hl => by
                unfold Rv.keyOk
                have : (⟨l.toArray⟩ : ByteArray).size = k := hl
                rw [this]
                simp only [Bool.and_eq_true, decide_eq_true_eq]
                omega
              have h5 := hkk ((b.drop (at_ + len + len2)).take k) (by rw [List.length_take, List.length_drop]; omega)
              exact ⟨h5, use_keys hk h5⟩
theorem get_right {c c' : Rv.Coder} {b : Rv.Bs} {at_ tt : Nat} {r : Rv.Rec} (h : c.get b at_ = .ok (c', r, tt)) (hk : ∀ k ∈ c.d.keys, Rv.keyOk k = true) :
    r.right = 0 ∧ c.tick ≤ r.tick ∧ c'.tick = r.tick ∧ ∀ k ∈ c'.d.keys, Rv.keyOk k = true := by
  rw [Rv.Coder.get] at h
  split at h
  · cases h
  · rename_i n len hr
    split at h
    · cases h
    · rename_i g1
      split at h
      · cases h
      · rename_i g2
        split at h
        · cases h
        · rename_i z len2 hr2
          simp only at h
          split at h
          · cases h
          · rename_i g3
            split at h
            · cases h
            · rename_i d' key to' hd
              simp only [Except.ok.injEq, Prod.mk.injEq] at h
              obtain ⟨rfl, rfl, rfl⟩ := h
              obtain ⟨k1, k2⟩ := dget_keys hd hk
              refine ⟨?_, by show c.tick ≤ c.tick + ((n / 4 : Nat) : Int); omega, rfl, k2⟩
              unfold Rv.Rec.right
              simp only at g2 g3 ⊢
              rw [if_neg g2, if_neg (by rw [k1]; simp), if_neg g3, if_neg]
              unfold Rv.verdictOk Rv.inB
              simp only [Bool.and_eq_false_iff, decide_eq_false_iff_not]
              omega
theorem put_keys {c : Rv.Coder} {r : Rv.Rec} (hr : r.right = 0) (hk : ∀ k ∈ c.d.keys, Rv.keyOk k = true) : ∀ k ∈ (c.put r).1.d.keys, Rv.keyOk k = true :=
  use_keys hk (rec_right hr).2.2.1
end Go.Proofs.YtcmndglhileeoaaGreat
