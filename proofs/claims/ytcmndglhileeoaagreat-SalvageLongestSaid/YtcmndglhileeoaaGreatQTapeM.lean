/- The walks of package tape: Open. -/
import Derived.Test.YtcmndglhileeoaaGreatQTapeL
set_option linter.unusedSimpArgs false
set_option linter.unusedVariables false
namespace Go.Proofs.YtcmndglhileeoaaGreat
open Go.RowKit
open Rv (HP Sat Same pt allOf sat_all RdIn row own Lcl)

theorem step_box {P : Program} {ops : Array Oper} {o : Oper} {a : Act} {w : World} {K : Act → World → Prop} {Q : Exit → Act → World → Prop} {E : Prop} (hgd : o.guard = none) (t : TypeId) (n : Tmp) (ho : o.op = .box t (.tmp n)) (cs : Array Value)
    (hx : a.tmps.getD n undef = .agg cs) (h : K (a.put o.dst (.pointer (some ⟨w.heap.size, 0, none⟩))) (w.alloc (.cells cs t))) :
    if Region.wanted o (yielded ops a.tmps) = true then Oper.wp P o a w K Q else E := by
  have hw : Region.wanted o (yielded ops a.tmps) = true := by simp [Region.wanted, hgd]
  have hx' : a.tmps[n]?.getD undef = .agg cs := by simpa using hx
  rw [if_pos hw]
  unfold Oper.wp
  simp [execOp, ho, hx', Result.andThen, newVar, newRow, go_sem]
  exact h
theorem results_tc {P : Program} {fn : Func} {q r : Tmp} {ty : TypeId} (h : fn.results = #[.tmp q, .cell r ty]) (tmps : Array Value) (w : World) (g : Nat) (t : TypeId) (cs : Array Value) (fr : Nat × Nat) (d : TypeDesc) (v : Value)
    (hq : tmps.getD q undef = v) (hr : tmps.getD r undef = .pointer (some ⟨g, 0, none⟩)) (hg : w.heap[g]? = some (.cells cs t fr))
    (hu : P.underlying ty = some d) (hd : (match d with | .struct _ | .array _ _ => true | _ => false) = true) (hi : (P.info? ty).map (·.size) = some cs.size) :
    (results fn tmps).run P w = .ok (.tuple #[v, .agg cs]) w := by
  have hq' : tmps[q]?.getD undef = v := by simpa using hq
  have hr' : tmps[r]?.getD undef = .pointer (some ⟨g, 0, none⟩) := by simpa using hr
  simp [results, h, hq', hr', asAddr, run_loadVar_row w g t ty cs fr d hg hu hd hi]

theorem rdMany_code {b : Rv.Bs} : ∀ (k at_ : Nat) (f : Rv.Fault), Rv.rdMany b k at_ = .error f → f.code ≠ 0
  | 0, at_, f, h => by cases h
  | k + 1, at_, f, h => by
    rw [Rv.rdMany] at h
    split at h
    · rename_i e he
      injection h with h
      subst h
      rcases rdB_bad he with rfl | rfl <;> simp
    · split at h
      · rename_i f' hf
        injection h with h
        subst h
        exact rdMany_code k _ _ hf
      · cases h
theorem pread_code {b : Rv.Bs} {f : Rv.Fault} (h : Rv.Pol.read b = .error f) : f.code ≠ 0 := by
  rw [Rv.Pol.read] at h
  split at h
  · injection h with h; subst h; simp
  · split at h
    · rename_i e he
      injection h with h
      subst h
      rcases rdB_bad he with rfl | rfl <;> simp
    · split at h
      · injection h with h; subst h; simp
      · split at h
        · rename_i f' hf
          injection h with h
          subst h
          exact rdMany_code _ _ _ hf
        · simp only at h
          split at h
          · injection h with h; subst h; simp
          · split at h
            · rename_i e he
              injection h with h
              subst h
              rcases sread_bad he with rfl | rfl <;> simp
            · split at h
              · cases h
              · injection h with h; subst h; simp

/-- A load of a whole struct, taken first. -/
theorem yields_load_row {P : Program} {ops : Array Oper} {S : World → Prop} {o : Oper} {a : Act} (hgd : o.guard = none) (ty : TypeId) (x : Operand) (ho : o.op = .load ty x) (g : Nat) (hx : a.eval x = .pointer (some ⟨g, 0, none⟩))
    (t : TypeId) (cs : Array Value) (fr : Nat × Nat) (d : TypeDesc) (hS : ∀ w, S w → w.heap[g]? = some (.cells cs t fr)) (hu : P.underlying ty = some d) (hd : (match d with | .struct _ | .array _ _ => true | _ => false) = true)
    (hi : (P.info? ty).map (·.size) = some cs.size) : YieldsIf P ops S o (.agg cs) a :=
  Or.inl ⟨by simp [Region.wanted, hgd], fun w hw => by
    unfold execOp
    simp only [ho, hx, Instr.loadAt, Instr.sureAddr, Sem.run_bind, Sem.run_pure, Result.andThen_ok, run_loadVar_row w g t ty cs fr d (hS w hw) hu hd hi]⟩
/-- What Open tells. -/
def OpenRes (R : HP) (w : World) (xs : Rv.Bs) (res : Except Rv.Fault Rv.Maker) (e : Ending) (w' : World) : Prop := match res with
  | .error f => e = .returned (.tuple #[.pointer none, .agg (fltCells f)]) ∧ Sat w' R ∧ Same w w'
  | .ok m => ∃ g, e = .returned (.tuple #[.pointer (some ⟨g, 0, none⟩), .agg (fltCells ⟨0, 0⟩)]) ∧ Sat w' (rdrP 1 g m xs * (1 * R)) ∧ Same w w'
abbrev flP (g : Nat) (f : Rv.Fault) : HP := pt g (.cells (fltCells f) 27)
abbrev plP (g : Nat) (p : Rv.Pol) : HP := pt g (.cells (polCells p) 33)

set_option maxHeartbeats 4000000 in
set_option maxRecDepth 100000 in
theorem topen_any (w : World) (R : HP) (A : Option Addr) (xs : List UInt8) (c : Nat) (hR : Sat w R) (hr : RdIn R A (u8s xs)) (hnil : A = none → c = 0) (hc : xs.length ≤ c) (hm : xs.length ≤ 140737488355328) :
    Calls Tryz.prog 26 #[.slice A xs.length c] w (OpenRes R w xs (Rv.openR xs)) := by
  obtain ⟨res, hres⟩ : ∃ x, Rv.openR xs = x := ⟨_, rfl⟩
  rw [hres]
  have HRES := Lib.hid hres
  have HR := Lib.hid hr
  have HNIL := Lib.hid hnil
  have S0 : Hid (Sat (w.alloc (.cells (fltCells ⟨0, 0⟩) 27)) (flP w.heap.size ⟨0, 0⟩ * R)) := Lib.hid (hR.alloc (.cells (fltCells ⟨0, 0⟩) 27))
  have Z0 : Hid (Same w (w.alloc (.cells (fltCells ⟨0, 0⟩) 27))) := Lib.hid (Same.of ((Kept.refl (fun _ => False) w).alloc _))
  clear hres hR hr hnil
  by_cases hbig : xs.length > 4194304
  · have e1 : decide ((4194304 : Int) < (xs.length : Int)) = true := by simp; omega
    have he : Rv.openR xs = .error ⟨2, -1⟩ := by unfold Rv.openR; rw [if_pos hbig]
    obtain rfl := he.symm.trans HRES.out
    clear HRES he
    go_enter Tryz.func26, Tryz.ntmps26
    go_upto_region 1 with (fail)
    generalize w.alloc (.cells (fltCells ⟨0, 0⟩) 27) = w1 at *
    generalize w.heap.size = g3 at *
    have S1 := Lib.hid (sat_setRow (n := fltCells ⟨2, -1⟩) S0.out)
    go_wp2_with ((with_reducible refine at_store 27 3 13 ?_); refine wpList_store_row rfl 27 (.tmp 3) (.tmp 13) rfl g3 (fltCells ⟨2, -1⟩) (by rfl) (by rfl) 27 (fltCells ⟨0, 0⟩) S0.out.heap info_flt (by rfl) (one_flt _) ?_; simp only [Act.put])
    exact bodyPost_ret (results_tc Tryz.results26 _ _ g3 27 (fltCells ⟨2, -1⟩) (0, 0) _ (.pointer none) (by rfl) (by rfl) S1.out.heap Tryz.underlying27 (by rfl) info_flt) rfl ⟨rfl, S1.out.right, Z0.out.then (same_setRow _ _ _)⟩
  · have e1 : decide ((4194304 : Int) < (xs.length : Int)) = false := by simp; omega
    have HPR := Lib.hid (fun w1 hw1 => pread_any A xs c w1 (rdV_u8 (HR.out w1 hw1)) hm hc)
    have HBIG := Lib.hid hbig
    clear hbig
    go_enter Tryz.func26, Tryz.ntmps26
    go_upto_region 1 with (fail)
    generalize w.alloc (.cells (fltCells ⟨0, 0⟩) 27) = w1 at *
    generalize w.heap.size = g3 at *
    go_wp2_with fail
    refine (HPR.out w1 S0.out.right).mono ?_
    rintro e w2 ⟨rfl, b2⟩
    have S2 := Lib.hid (((S0.out.below b2).alloc (.cells (polCells .zero) 33)).alloc (.cells (fltCells ⟨0, 0⟩) 27))
    have Z2 := Lib.hid ((Z0.out.then (Rv.Same.below b2)).then (Same.of (((Kept.refl (fun _ => False) w2).alloc (.cells (polCells .zero) 33)).alloc (.cells (fltCells ⟨0, 0⟩) 27))))
    rw [World.size_alloc] at S2
    clear b2 S0 Z0 HPR
    cases hp : Rv.Pol.read xs with
    | error f =>
      have hfc := pread_code hp
      have he : Rv.openR xs = .error f := by unfold Rv.openR; rw [if_neg HBIG.out, hp]
      obtain rfl := he.symm.trans HRES.out
      have e2 : (f.code != 0) = true := by simpa using hfc
      clear HRES he hfc hp
      have e3 : preadRes (.error f) = .returned (.tuple #[.agg (polCells .zero), .int .i64 0, .agg (fltCells f)]) := rfl
      rw [e3]
      clear e3
      have S3 := Lib.hid ((sat_setRow (n := polCells .zero) S2.out.swap).swap)
      have S4 := Lib.hid (sat_setRow (n := fltCells f) S3.out)
      go_upto_region 4 with (first
        | ((with_reducible refine at_store 33 4 17 ?_); refine wpList_store_row rfl 33 (.tmp 4) (.tmp 17) rfl w2.heap.size (polCells .zero) (by rfl) (by rfl) 33 (polCells .zero) S2.out.swap.heap info_pol (by rfl) (one_pol _) ?_; simp only [Act.put])
        | ((with_reducible refine at_store 27 6 19 ?_); refine wpList_store_row rfl 27 (.tmp 6) (.tmp 19) rfl (w2.heap.size + 1) (fltCells f) (by rfl) (by rfl) 27 (fltCells ⟨0, 0⟩) S3.out.heap info_flt (by rfl) (one_flt _) ?_; simp only [Act.put]))
      have Z4 : Hid (Same w ((((w2.alloc (.cells (polCells .zero) 33)).alloc (.cells (fltCells ⟨0, 0⟩) 27)).setRow w2.heap.size (polCells .zero)).setRow (w2.heap.size + 1) (fltCells f))) := Lib.hid ((Z2.out.then (same_setRow _ _ _)).then (same_setRow _ _ _))
      obtain ⟨w4, hw4⟩ : ∃ w4, w4 = ((((w2.alloc (.cells (polCells .zero) 33)).alloc (.cells (fltCells ⟨0, 0⟩) 27)).setRow w2.heap.size (polCells .zero)).setRow (w2.heap.size + 1) (fltCells f)) := ⟨_, rfl⟩
      change Code.wp _ _ _ _ ((((w2.alloc (.cells (polCells .zero) 33)).alloc (.cells (fltCells ⟨0, 0⟩) 27)).setRow w2.heap.size (polCells .zero)).setRow (w2.heap.size + 1) (fltCells f))
      rw [← hw4] at S4 Z4 ⊢
      clear hw4 S3 S2 Z2
      generalize w2.heap.size + 1 = g6 at *
      generalize w2.heap.size = g4 at *
      have c0 : w4.cell? ⟨g6, 0, none⟩ = some (.int .i64 f.code) := (cells_of S4.out.heap 0).trans rfl
      have c1 : w4.cell? ⟨g6, 1, none⟩ = some (.int .i64 f.at_) := (cells_of S4.out.heap 1).trans rfl
      have q3 := Lib.hid (S4.out.third.heap)
      have k0 : w4.cell? ⟨g3, 0, none⟩ = some (.int .i64 0) := (cells_of q3.out 0).trans rfl
      have k1 : w4.cell? ⟨g3, 1, none⟩ = some (.int .i64 0) := (cells_of q3.out 1).trans rfl
      have f0 : w4.frozen? ⟨g3, 0, none⟩ = false := frozen_of q3.out 0
      have f1 : w4.frozen? ⟨g3, 1, none⟩ = false := frozen_of q3.out 1
      have S5 : Hid (Sat (((w4.setCell ⟨g3, 0, none⟩ (.int .i64 f.code)).setCell ⟨g3, 1, none⟩ (.int .i64 f.at_)).drew) (flP g3 f * (flP g6 f * (plP g4 .zero * R)))) := Lib.hid ((S4.out.third.setCell (i := 0) (.int .i64 f.code)).setCell (i := 1) (.int .i64 f.at_)).drew
      go_upto_region 5 with (fail)
      go_region
      go_wp2_with fail
      exact bodyPost_ret (results_tc Tryz.results26 _ _ g3 27 (fltCells f) (0, 0) _ (.pointer none) (by rfl) (by rfl) S5.out.heap Tryz.underlying27 (by rfl) info_flt) rfl ⟨rfl, S5.out.right.right.right, ((Z4.out.then (Kept.setCell (Kept.refl _ _) _ _ (.inl trivial))).then (Kept.setCell (Kept.refl _ _) _ _ (.inl trivial))).drew⟩
    | ok q =>
      obtain ⟨p, tt⟩ := q
      have hok := (Rv.Pol.read_ok hp).1
      have he : Rv.openR xs = .ok (Rv.Maker.begun p) := by unfold Rv.openR; rw [if_neg HBIG.out, hp]
      obtain rfl := he.symm.trans HRES.out
      have HOK := Lib.hid hok
      clear HRES he hok hp
      have e3 : preadRes (.ok (p, tt)) = .returned (.tuple #[.agg (polCells p), .int .i64 (tt : Int), .agg (fltCells ⟨0, 0⟩)]) := rfl
      rw [e3]
      clear e3
      have S3 := Lib.hid ((sat_setRow (n := polCells p) S2.out.swap).swap)
      have S4 := Lib.hid (sat_setRow (n := fltCells ⟨0, 0⟩) S3.out)
      go_upto_region 4 with (first
        | ((with_reducible refine at_store 33 4 17 ?_); refine wpList_store_row rfl 33 (.tmp 4) (.tmp 17) rfl w2.heap.size (polCells p) (by rfl) (by rfl) 33 (polCells .zero) S2.out.swap.heap info_pol (by rfl) (one_pol _) ?_; simp only [Act.put])
        | ((with_reducible refine at_store 27 6 19 ?_); refine wpList_store_row rfl 27 (.tmp 6) (.tmp 19) rfl (w2.heap.size + 1) (fltCells ⟨0, 0⟩) (by rfl) (by rfl) 27 (fltCells ⟨0, 0⟩) S3.out.heap info_flt (by rfl) (one_flt _) ?_; simp only [Act.put]))
      have Z4 : Hid (Same w ((((w2.alloc (.cells (polCells .zero) 33)).alloc (.cells (fltCells ⟨0, 0⟩) 27)).setRow w2.heap.size (polCells p)).setRow (w2.heap.size + 1) (fltCells ⟨0, 0⟩))) := Lib.hid ((Z2.out.then (same_setRow _ _ _)).then (same_setRow _ _ _))
      obtain ⟨w4, hw4⟩ : ∃ w4, w4 = ((((w2.alloc (.cells (polCells .zero) 33)).alloc (.cells (fltCells ⟨0, 0⟩) 27)).setRow w2.heap.size (polCells p)).setRow (w2.heap.size + 1) (fltCells ⟨0, 0⟩)) := ⟨_, rfl⟩
      change Code.wp _ _ _ _ ((((w2.alloc (.cells (polCells .zero) 33)).alloc (.cells (fltCells ⟨0, 0⟩) 27)).setRow w2.heap.size (polCells p)).setRow (w2.heap.size + 1) (fltCells ⟨0, 0⟩))
      rw [← hw4] at S4 Z4 ⊢
      clear hw4 S3 S2 Z2
      generalize w2.heap.size + 1 = g6 at *
      generalize w2.heap.size = g4 at *
      have c0 : w4.cell? ⟨g6, 0, none⟩ = some (.int .i64 0) := (cells_of S4.out.heap 0).trans rfl
      have c1 : w4.cell? ⟨g6, 1, none⟩ = some (.int .i64 0) := (cells_of S4.out.heap 1).trans rfl
      have q4 := Lib.hid S4.out.swap.heap
      go_wp2_with ((with_reducible refine at_slot 25 ?_); refine wpList_load_row rfl 33 (.tmp 4) rfl g4 (by rfl) 33 (polCells p) (0, 0) _ q4.out Tryz.underlying33 (by rfl) info_pol ?_)
      refine (begun_ok _ p w4 S4.out HOK.out).mono ?_
      rintro e w5 ⟨gc, gl, B, C, rfl, s5, z5⟩
      have S5 := Lib.hid (s5.alloc (.cells mkZero 65))
      have S6 : Hid (Sat ((w5.alloc (.cells mkZero 65)).setRow w5.heap.size (mkCells p (some ⟨gc, 0, none⟩) (some ⟨gl, 0, none⟩) (Rv.Maker.begun p).link (.slice none 0 0) 0 p.header.length)) (pt w5.heap.size (.cells (mkCells p (some ⟨gc, 0, none⟩) (some ⟨gl, 0, none⟩) (Rv.Maker.begun p).link (.slice none 0 0) 0 p.header.length) 65) * (coderP gc (Rv.Coder.new p) * (ledP 1 gl (Rv.Ledger.new p) * (bytesP (.slice B p.header.length C) p.header * (1 * (flP g6 ⟨0, 0⟩ * (plP g4 p * (flP g3 ⟨0, 0⟩ * R))))))))) := Lib.hid (sat_setRow (n := (mkCells p (some ⟨gc, 0, none⟩) (some ⟨gl, 0, none⟩) (Rv.Maker.begun p).link (.slice none 0 0) 0 p.header.length)) S5.out)
      have Z6 : Hid (Same w ((w5.alloc (.cells mkZero 65)).setRow w5.heap.size (mkCells p (some ⟨gc, 0, none⟩) (some ⟨gl, 0, none⟩) (Rv.Maker.begun p).link (.slice none 0 0) 0 p.header.length))) := Lib.hid (((Z4.out.then z5).then (Same.of ((Kept.refl (fun _ => False) w5).alloc _))).then (same_setRow _ _ _))
      clear s5 z5 S4 Z4 q4 c0 c1
      go_upto_region 7 with ((with_reducible refine at_store 65 7 27 ?_); refine wpList_store_row rfl 65 (.tmp 7) (.tmp 27) rfl w5.heap.size (mkCells p (some ⟨gc, 0, none⟩) (some ⟨gl, 0, none⟩) (Rv.Maker.begun p).link (.slice none 0 0) 0 p.header.length) (by rfl) (by rfl) 65 mkZero S5.out.heap info_mk (by rfl) (by simp [Value.oneCell']) ?_; simp only [Act.put])
      obtain ⟨w6, hw6⟩ : ∃ w6, w6 = ((w5.alloc (.cells mkZero 65)).setRow w5.heap.size (mkCells p (some ⟨gc, 0, none⟩) (some ⟨gl, 0, none⟩) (Rv.Maker.begun p).link (.slice none 0 0) 0 p.header.length)) := ⟨_, rfl⟩
      change Code.wp _ _ _ _ ((w5.alloc (.cells mkZero 65)).setRow w5.heap.size (mkCells p (some ⟨gc, 0, none⟩) (some ⟨gl, 0, none⟩) (Rv.Maker.begun p).link (.slice none 0 0) 0 p.header.length))
      rw [← hw6] at S6 Z6 ⊢
      clear hw6 S5
      generalize w5.heap.size = g7 at *
      have HCLO := Lib.hid (fun (w1 : World) (h1 : Sat w1 (pt g7 (.cells (mkCells p (some ⟨gc, 0, none⟩) (some ⟨gl, 0, none⟩) (Rv.Maker.begun p).link (.slice none 0 0) 0 p.header.length) 65) * (coderP gc (Rv.Coder.new p) * (ledP 1 gl (Rv.Ledger.new p) * (bytesP (.slice B p.header.length C) p.header * (1 * (flP g6 ⟨0, 0⟩ * (plP g4 p * (flP g3 ⟨0, 0⟩ * R))))))))) => clone_u8 w1 A xs.length c (u8s xs) (u8s_length _) (HR.out w1 h1.right.right.right.right.right.right.right.right) (u8s_one _) HNIL.out (by omega))
      have K0 := Lib.hid S6.out.heap
      refine wp_region_held_drew (S := fun w' => w'.heap[g7]? = some (.cells (mkCells p (some ⟨gc, 0, none⟩) (some ⟨gl, 0, none⟩) (Rv.Maker.begun p).link (.slice none 0 0) 0 p.header.length) 65 (0, 0))) (by kernel_rfl) K0.out (fun hHeld => ?_)
      refine wpAnyH_take (i := 0) (oi := ⟨some 30, .load 65 (.tmp 7), 65, "tape.go:184", #[], none⟩) rfl (by kernel_rfl) (by kernel_rfl) (by kernel_rfl) (fun _ _ _ h => h) (yields_load_row rfl 65 (.tmp 7) rfl g7 (by rfl) 65 (mkCells p (some ⟨gc, 0, none⟩) (some ⟨gl, 0, none⟩) (Rv.Maker.begun p).link (.slice none 0 0) 0 p.header.length) (0, 0) _ (fun _ h => h) Tryz.underlying65 (by rfl) info_mk) (by assumption) ?_
      try simp only [Act.put, List.setIfInBounds_toArray, List.set_cons_zero, List.set_cons_succ]
      refine wpAnyH_take (i := 1) (oi := ⟨some 31, .move (.tmp 0), 22, "tape.go:184", #[], none⟩) (v := ?_) rfl (by kernel_rfl) (by kernel_rfl) (by kernel_rfl) (fun _ _ _ h => h) (Or.inl ⟨by rfl, ?_⟩) (by assumption) ?_
      rotate_left
      · intro w hSw
        try dsimp only at hSw
        go_simp
        try with_reducible rfl
      try simp only [Act.put, List.setIfInBounds_toArray, List.set_cons_zero, List.set_cons_succ]
      refine wpAnyH_take (i := 5) (oi := ⟨some 35, .build 27 #[], 27, "tape.go:184", #[⟨6, .gcOnly .lateStores⟩], none⟩) (v := ?_) rfl (by kernel_rfl) (by kernel_rfl) (by kernel_rfl) (fun _ _ _ h => h) (Or.inl ⟨by rfl, ?_⟩) (by assumption) ?_
      rotate_left
      · intro w hSw
        try dsimp only at hSw
        go_simp
        try with_reducible rfl
      try simp only [Act.put, List.setIfInBounds_toArray, List.set_cons_zero, List.set_cons_succ]
      refine wpAnyH_ready (rs := [2]) (by kernel_rfl) (by simp) ?_
      refine AllReadyH.cons (o := ⟨some 32, .call { callee := .value (.func 21), args := #[.tmp 31], argTypes := #[22] }, 22, "tape.go:184", #[⟨1, .data⟩], none⟩) rfl (fun K hK => ?_) AllReadyH.nil
      go_simp
      refine (HCLO.out w6.drew S6.out.drew).mono ?_
      rintro e w7 ⟨B2, C2, rfl, o7, b7⟩
      have S7 := Lib.hid (bytesP_new (xs := xs) (v := .slice B2 xs.length C2) S6.out.drew (by have := o7; unfold OwnV at this; rw [u8s_length] at this; exact this) b7)
      have Z7 := Lib.hid (Z6.out.drew.then (Rv.Same.below b7))
      have K1 := Lib.hid S7.out.swap.heap
      refine hK.out _ _ K1.out (fun hHeld2 => ?_)
      clear hK K hHeld o7 b7
      try simp only [Act.put, List.setIfInBounds_toArray, List.set_cons_zero, List.set_cons_succ]
      refine wpAnyH_take (i := 3) (oi := ⟨some 33, .build 84 #[(0, .tmp 30), (1, .tmp 32)], 84, "tape.go:184", #[⟨0, .data⟩, ⟨2, .data⟩], none⟩) (v := ?_) rfl (by kernel_rfl) (by kernel_rfl) (by kernel_rfl) (fun _ _ _ h => h) (Or.inl ⟨by rfl, ?_⟩) (by assumption) ?_
      rotate_left
      · intro w hSw
        try dsimp only at hSw
        go_simp
        try with_reducible rfl
      try simp only [Act.put, List.setIfInBounds_toArray, List.set_cons_zero, List.set_cons_succ]
      refine wpAnyH_ready (rs := [4]) (by kernel_rfl) (by simp) ?_
      refine AllReadyH.cons (o := ⟨some 34, .box 84 (.tmp 33), 78, "tape.go:184", #[⟨3, .data⟩], none⟩) rfl (fun K hK => ?_) AllReadyH.nil
      have S8 : Hid (Sat (w7.alloc (.cells (makCells p gc gl (Rv.Maker.begun p).link (.slice none 0 0) 0 p.header.length (.slice B2 xs.length C2)) 84)) (makBox 84 w7.heap.size p gc gl (Rv.Maker.begun p).link (.slice none 0 0) 0 p.header.length (.slice B2 xs.length C2) * (bytesP (.slice B2 xs.length C2) xs * (pt g7 (.cells (mkCells p (some ⟨gc, 0, none⟩) (some ⟨gl, 0, none⟩) (Rv.Maker.begun p).link (.slice none 0 0) 0 p.header.length) 65) * (coderP gc (Rv.Coder.new p) * (ledP 1 gl (Rv.Ledger.new p) * (bytesP (.slice B p.header.length C) p.header * (1 * (flP g6 ⟨0, 0⟩ * (plP g4 p * (flP g3 ⟨0, 0⟩ * R))))))))))) := Lib.hid (S7.out.alloc (.cells (makCells p gc gl (Rv.Maker.begun p).link (.slice none 0 0) 0 p.header.length (.slice B2 xs.length C2)) 84))
      have Z8 := Lib.hid (Z7.out.then (Same.of ((Kept.refl (fun _ => False) w7).alloc (.cells (makCells p gc gl (Rv.Maker.begun p).link (.slice none 0 0) 0 p.header.length (.slice B2 xs.length C2)) 84))))
      have K2 := Lib.hid S8.out.third.heap
      refine step_box rfl 84 33 rfl (makCells p gc gl (Rv.Maker.begun p).link (.slice none 0 0) 0 p.header.length (.slice B2 xs.length C2)) (by rfl) ?_
      refine hK.out _ _ K2.out (fun hHeld => ?_)
      clear hK K hHeld2
      try simp only [Act.put, List.setIfInBounds_toArray, List.set_cons_zero, List.set_cons_succ]
      refine wpAnyH_take (i := 6) (oi := ⟨some 2, .assign (.tmp 34), 78, "tape.go:184", #[⟨4, .data⟩, ⟨2, .chain⟩, ⟨0, .phase⟩, ⟨1, .phase⟩, ⟨2, .phase⟩, ⟨3, .phase⟩, ⟨4, .phase⟩, ⟨5, .textOnly .lateStores⟩], none⟩) (v := ?_) rfl (by kernel_rfl) (by kernel_rfl) (by kernel_rfl) (fun _ _ _ h => h) (Or.inl ⟨by rfl, ?_⟩) (by assumption) ?_
      rotate_left
      · intro w hSw
        try dsimp only at hSw
        go_simp
        try with_reducible rfl
      try simp only [Act.put, List.setIfInBounds_toArray, List.set_cons_zero, List.set_cons_succ]
      refine wpAnyH_ready (rs := [7]) (by kernel_rfl) (by simp) ?_
      refine AllReadyH.cons (o := ⟨none, .store 27 (.tmp 3) (.tmp 35), 0, "tape.go:184", #[⟨5, .data⟩, ⟨6, .chain⟩, ⟨0, .phase⟩, ⟨1, .phase⟩, ⟨2, .phase⟩, ⟨3, .phase⟩, ⟨4, .phase⟩, ⟨5, .phase⟩, ⟨6, .phase⟩], none⟩) rfl (fun K hK => ?_) AllReadyH.nil
      have S9 := Lib.hid (sat_setRow (n := fltCells ⟨0, 0⟩) (S8.out.perm (show _ = flP g3 ⟨0, 0⟩ * (makBox 84 w7.heap.size p gc gl (Rv.Maker.begun p).link (.slice none 0 0) 0 p.header.length (.slice B2 xs.length C2) * (bytesP (.slice B2 xs.length C2) xs * (pt g7 (.cells (mkCells p (some ⟨gc, 0, none⟩) (some ⟨gl, 0, none⟩) (Rv.Maker.begun p).link (.slice none 0 0) 0 p.header.length) 65) * (coderP gc (Rv.Coder.new p) * (ledP 1 gl (Rv.Ledger.new p) * (bytesP (.slice B p.header.length C) p.header * (1 * (flP g6 ⟨0, 0⟩ * (plP g4 p * R))))))))) by ac_rfl)))
      have K3 := Lib.hid S9.out.fourth.heap
      refine step_store_row rfl 27 (.tmp 3) (.tmp 35) rfl g3 (fltCells ⟨0, 0⟩) (by rfl) (by rfl) 27 (fltCells ⟨0, 0⟩) (Rv.Sat.heap (S8.out.perm (show _ = flP g3 ⟨0, 0⟩ * (makBox 84 w7.heap.size p gc gl (Rv.Maker.begun p).link (.slice none 0 0) 0 p.header.length (.slice B2 xs.length C2) * (bytesP (.slice B2 xs.length C2) xs * (pt g7 (.cells (mkCells p (some ⟨gc, 0, none⟩) (some ⟨gl, 0, none⟩) (Rv.Maker.begun p).link (.slice none 0 0) 0 p.header.length) 65) * (coderP gc (Rv.Coder.new p) * (ledP 1 gl (Rv.Ledger.new p) * (bytesP (.slice B p.header.length C) p.header * (1 * (flP g6 ⟨0, 0⟩ * (plP g4 p * R))))))))) by ac_rfl))) info_flt (by rfl) (one_flt _) ?_
      refine hK.out _ _ K3.out (fun hHeld2 => ?_)
      clear hK K hHeld
      try simp only [Act.put, List.setIfInBounds_toArray, List.set_cons_zero, List.set_cons_succ]
      refine wpAnyH_done (by kernel_rfl) ?_ _
      clear hHeld2
      go_wp2_with fail
      refine bodyPost_ret (results_tc Tryz.results26 _ _ g3 27 (fltCells ⟨0, 0⟩) (0, 0) _ (.pointer (some ⟨w7.heap.size, 0, none⟩)) (by rfl) (by rfl) S9.out.heap Tryz.underlying27 (by rfl) info_flt) rfl ⟨w7.heap.size, rfl, ?_, Z8.out.then (same_setRow _ _ _)⟩
      refine rdrP_shut (A := B2) (c := C2) (m := Rv.Maker.begun p) (mkrP_shut (gc := gc) (gl := gl) (sA := none) (sc := 0) ?_)
      have h1 := (S9.out.right.perm (show _ = (pt g7 (.cells (mkCells p (some ⟨gc, 0, none⟩) (some ⟨gl, 0, none⟩) (Rv.Maker.begun p).link (.slice none 0 0) 0 p.header.length) 65) * (bytesP (.slice B p.header.length C) p.header * (flP g6 ⟨0, 0⟩ * (plP g4 p * (makBox 84 w7.heap.size p gc gl (Rv.Maker.begun p).link (.slice none 0 0) 0 p.header.length (.slice B2 xs.length C2) * (bytesP (.slice B2 xs.length C2) xs * (coderP gc (Rv.Coder.new p) * (ledP 1 gl (Rv.Ledger.new p) * (1 * R))))))))) by ac_rfl)).right.right.right.right
      show Sat _ (makBox 84 w7.heap.size p gc gl (Rv.Maker.begun p).link (.slice none 0 0) 0 p.header.length (.slice B2 xs.length C2) * (ledP 1 gl (Rv.Ledger.new p) * (bytesP (.slice none 0 0) [] * (coderP gc (Rv.Coder.new p) * (bytesP (.slice B2 xs.length C2) xs * (1 * R))))))
      exact (h1.row_nil 5).perm (show bytesP (.slice none 0 0) [] * _ = _ by ac_rfl)
end Go.Proofs.YtcmndglhileeoaaGreat
