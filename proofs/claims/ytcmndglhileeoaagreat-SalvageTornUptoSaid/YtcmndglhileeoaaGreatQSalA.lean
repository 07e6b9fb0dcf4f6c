/- The walks of package salvage: scanned, Scan. -/
import Derived.Test.YtcmndglhileeoaaGreatQTapeQ
import Derived.ScopeJumps
set_option linter.unusedSimpArgs false
set_option linter.unusedVariables false
namespace Go.Proofs.YtcmndglhileeoaaGreat
open Go.RowKit
open Rv (HP Sat Same pt allOf sat_all RdIn row own Lcl)

theorem rdr_at {wx : World} {Q X : HP} {g : Nat} {m : Rv.Maker} {ys : Rv.Bs} (h : Sat wx (rdrP Q g m ys * X)) :
    Calls Tryz.prog 29 #[.pointer (some ⟨g, 0, none⟩)] wx fun e w' => e = .returned (.int .i64 (m.size : Int)) ∧ wx = w' := by
  obtain ⟨A', c', h1⟩ := rdrP_open h
  obtain ⟨gc, gl, sA, sc, h1⟩ := mkrP_open h1
  exact at_any _ wx _ _ _ _ _ _ _ _ _ _ h1
theorem results_cttc {P : Program} {fn : Func} {p q s r : Tmp} {ty1 ty2 : TypeId} (h : fn.results = #[.cell p ty1, .tmp q, .tmp s, .cell r ty2]) (tmps : Array Value) (w : World) (g1 g2 : Nat) (t1 t2 : TypeId) (c1 c2 : Array Value) (f1 f2 : Nat × Nat) (d1 d2 : TypeDesc) (v u : Value)
    (hp : tmps.getD p undef = .pointer (some ⟨g1, 0, none⟩)) (hq : tmps.getD q undef = v) (hs : tmps.getD s undef = u) (hr : tmps.getD r undef = .pointer (some ⟨g2, 0, none⟩)) (hg1 : w.heap[g1]? = some (.cells c1 t1 f1)) (hg2 : w.heap[g2]? = some (.cells c2 t2 f2))
    (hu1 : P.underlying ty1 = some d1) (hd1 : (match d1 with | .struct _ | .array _ _ => true | _ => false) = true) (hi1 : (P.info? ty1).map (·.size) = some c1.size)
    (hu2 : P.underlying ty2 = some d2) (hd2 : (match d2 with | .struct _ | .array _ _ => true | _ => false) = true) (hi2 : (P.info? ty2).map (·.size) = some c2.size) :
    (results fn tmps).run P w = .ok (.tuple #[.agg c1, v, u, .agg c2]) w := by
  have hp' : tmps[p]?.getD undef = .pointer (some ⟨g1, 0, none⟩) := by simpa using hp
  have hq' : tmps[q]?.getD undef = v := by simpa using hq
  have hs' : tmps[s]?.getD undef = u := by simpa using hs
  have hr' : tmps[r]?.getD undef = .pointer (some ⟨g2, 0, none⟩) := by simpa using hr
  simp [results, h, hp', hq', hs', hr', asAddr, run_loadVar_row w g1 t1 ty1 c1 f1 d1 hg1 hu1 hd1 hi1, run_loadVar_row w g2 t2 ty2 c2 f2 d2 hg2 hu2 hd2 hi2]

/-- What scanned tells. -/
def ScnRes (R : HP) (w : World) (res : Except Rv.Fault (Rv.Pol × List Rv.Rec × Nat)) (e : Ending) (w' : World) : Prop := match res with
  | .error f => e = .returned (.tuple #[.agg (polCells .zero), .slice none 0 0, .int .i64 0, .agg (fltCells f)]) ∧ Sat w' R ∧ Same w w'
  | .ok (p, l, n) => ∃ A c, e = .returned (.tuple #[.agg (polCells p), .slice A l.length c, .int .i64 (n : Int), .agg (fltCells ⟨0, 0⟩)]) ∧ Sat w' (recsP (.slice A l.length c) l * R) ∧ Same w w'

/-- At the label. -/
def ScnRel (F : HP) (w0 : World) (ys : Rv.Bs) (p : Rv.Pol) (g g7 : Nat) (v : Value) (wr : World) : Prop :=
  ∃ (m : Rv.Maker) (l : List Rv.Rec) (A : Option Addr) (c : Nat) (Q' : HP) (r7 : Rv.Rec), v = .slice A l.length c ∧ ReadTo ys p m l ∧ Sat wr (recsP (.slice A l.length c) l * (rdrP Q' g m ys * (Q' * (rcP g7 r7 * F)))) ∧ Same w0 wr
def ptrB : Value → Nat
  | .pointer (some a) => a.block
  | _ => 0
def ScnMu (a : Act) (w : World) : Nat := 10001 - recsAt w (ptrB (a.tmps.getD 12 undef))
def ScnOk (res : Except Rv.Fault (Rv.Pol × List Rv.Rec × Nat)) (ys : Rv.Bs) (p : Rv.Pol) : Prop := res = .ok (p, (Rv.Maker.reads ys 10001 (Rv.Maker.begun p)).1, (Rv.Maker.reads ys 10001 (Rv.Maker.begun p)).2.1.size)
set_option maxRecDepth 100000 in
def ScnJ (R : HP) (w0 : World) (res : Except Rv.Fault (Rv.Pol × List Rv.Rec × Nat)) (ys : Rv.Bs) (g2 g5 g7 : Nat) (a : Act) (w : World) : Prop :=
  ∃ (p : Rv.Pol) (g g9 : Nat) (u0 u1 u3 u4 u8 u10 u11 u13 u14 u15 u16 u17 u18 u19 u20 u21 u22 u23 u24 u25 u26 u27 u28 u29 u30 u31 u32 u33 u34 u35 u36 u37 u38 u39 u40 u41 u42 u43 u44 u45 u46 u47 u48 u49 v : Value), ScnOk res ys p ∧ ScnRel (plP g2 .zero * (flP g5 ⟨0, 0⟩ * (plP g9 p * R))) w0 ys p g g7 v w ∧ a = ⟨#[u0, u1, .pointer (some ⟨g2, 0, none⟩), u3, u4, .pointer (some ⟨g5, 0, none⟩), v, .pointer (some ⟨g7, 0, none⟩), u8, .pointer (some ⟨g9, 0, none⟩), u10, u11, .pointer (some ⟨g, 0, none⟩), u13, u14, u15, u16, u17, u18, u19, u20, u21, u22, u23, u24, u25, u26, u27, u28, u29, u30, u31, u32, u33, u34, u35, u36, u37, u38, u39, u40, u41, u42, u43, u44, u45, u46, u47, u48, u49], []⟩
/-- A scope whose label is jumped back to; the way to the label may use what holds behind it. -/
theorem wp_scope_back {P : Program} {a : Act} {w : World} {Q : Exit → Act → World → Prop} {c rest : Code} (l : Nat) (J : Act → World → Prop) (μ : Act → World → Nat) (hf : findLabel c l = some (Code.skip.seq rest))
    (pass : ∀ a w, J a w → rest.wp P (Exit.jump l (fun a' w' => J a' w' ∧ μ a' w' < μ a w) Q) a w)
    (first : (∀ a w, J a w → rest.wp P (Exit.jump l J Q) a w) → c.wp P (Exit.jump l J Q) a w) : (Code.scope c).wp P Q a w :=
  wp_scope_jumps l J μ hf (first fun a w h => wp_mono (pass a w h) fun e a' w' hq => by
    cases e <;> first | exact hq | exact ⟨hq.1, hq.2.1⟩) (fun a w h => wp_seq (wp_skip (pass a w h)))

set_option maxHeartbeats 4000000 in
set_option maxRecDepth 100000 in
theorem scanned_any (w : World) (R : HP) (A : Option Addr) (xs : List UInt8) (c : Nat) (hR : Sat w R) (hr : RdIn R A (u8s xs)) (hnil : A = none → c = 0) (hc : xs.length ≤ c) (hm : xs.length ≤ 140737488355328) :
    Calls Tryz.prog 18 #[.slice A xs.length c] w (ScnRes R w (Rv.scanned xs)) := by
  obtain ⟨res, hres⟩ : ∃ x, Rv.scanned xs = x := ⟨_, rfl⟩
  rw [hres]
  have HRES := Lib.hid hres
  have HRD := Lib.hid hr
  have HNIL := Lib.hid hnil
  have S0 : Hid (Sat ((((w.alloc (.cells (polCells .zero) 33)).alloc (.cells (fltCells ⟨0, 0⟩) 27))).alloc (.cells recZero 44)) (plP w.heap.size .zero * (flP (w.heap.size + 1) ⟨0, 0⟩ * (rcP (w.heap.size + 1 + 1) ⟨0, ⟨#[]⟩, 0, 0⟩ * R)))) := Lib.hid (by
    have h1 := ((hR.alloc (.cells (polCells .zero) 33)).alloc (.cells (fltCells ⟨0, 0⟩) 27)).alloc (.cells recZero 44)
    simp only [World.size_alloc] at h1
    exact (show Sat _ (rcP (w.heap.size + 1 + 1) ⟨0, ⟨#[]⟩, 0, 0⟩ * (flP (w.heap.size + 1) ⟨0, 0⟩ * (plP w.heap.size .zero * R))) from h1).perm (by ac_rfl))
  have Z0 : Hid (Same w ((((w.alloc (.cells (polCells .zero) 33)).alloc (.cells (fltCells ⟨0, 0⟩) 27))).alloc (.cells recZero 44))) := Lib.hid (Same.of ((((Kept.refl (fun _ => False) w).alloc _).alloc _).alloc _))
  clear hres hr hnil hR
  go_enter Tryz.func18, Tryz.ntmps18
  go_wp2_with fail
  refine wp_scope_back 0 (ScnJ R w res (xs.take 4194304) w.heap.size (w.heap.size + 1) (w.heap.size + 1 + 1)) ScnMu (by rfl) ?_ ?_
  · intro a0 w0 hJ
    obtain ⟨p, g, g9, u0, u1, u3, u4, u8, u10, u11, u13, u14, u15, u16, u17, u18, u19, u20, u21, u22, u23, u24, u25, u26, u27, u28, u29, u30, u31, u32, u33, u34, u35, u36, u37, u38, u39, u40, u41, u42, u43, u44, u45, u46, u47, u48, u49, v, hok, hrel, rfl⟩ := hJ
    obtain ⟨m, l, B, k, Q1, r7, rfl, hrt, s3, z3⟩ := hrel
    have hrc := recsAt_eq s3.right
    have hyl : (xs.take 4194304).length ≤ 4194304 := by simp; omega
    generalize w.heap.size + 1 + 1 = g7 at *
    generalize w.heap.size + 1 = g5 at *
    generalize w.heap.size = g2 at *
    have HN : Hid (Calls Tryz.prog 27 #[.pointer (some ⟨g, 0, none⟩)] w0 (fun e w4 =>
        (∃ f Q2, e = .returned (.tuple #[.agg recZero, .bool false, .agg (fltCells f)]) ∧ Sat w4 (rcP g7 r7 * (rdrP Q2 g m (xs.take 4194304) * (Q2 * (recsP (.slice B l.length k) l * (plP g2 .zero * (flP g5 ⟨0, 0⟩ * (plP g9 p * R))))))) ∧ Same w0 w4 ∧ res = .ok (p, l, m.size)) ∨
        (∃ x m' Q2, e = .returned (.tuple #[.agg (recCells x), .bool true, .agg (fltCells ⟨0, 0⟩)]) ∧ Sat w4 (rcP g7 r7 * (rdrP Q2 g m' (xs.take 4194304) * (Q2 * (recsP (.slice B l.length k) l * (plP g2 .zero * (flP g5 ⟨0, 0⟩ * (plP g9 p * R))))))) ∧ Same w0 w4 ∧ ReadTo (xs.take 4194304) p m' (l ++ [x]) ∧ m'.records = m.records + 1))) := Lib.hid (by
      refine (tnext_any w0 Q1 (recsP (.slice B l.length k) l * (rcP g7 r7 * (plP g2 .zero * (flP g5 ⟨0, 0⟩ * (plP g9 p * R))))) g m (xs.take 4194304) hrt.ok (s3.perm (by ac_rfl)) hrt.sz hyl).mono ?_
      intro e w4 hq
      unfold ScnOk at hok
      cases hn : m.next (xs.take 4194304) with
      | none_ =>
        rw [hn] at hq
        obtain ⟨rfl, Q2, x2, s4, z4⟩ := hq
        rw [hrt.stop hn] at hok
        exact .inl ⟨⟨0, 0⟩, Q2, rfl, s4.perm (by ac_rfl), z4, hok⟩
      | fault f =>
        rw [hn] at hq
        obtain ⟨rfl, Q2, x2, s4, z4⟩ := hq
        rw [hrt.fall hn] at hok
        exact .inl ⟨f, Q2, rfl, s4.perm (by ac_rfl), z4, hok⟩
      | some x m' =>
        rw [hn] at hq
        obtain ⟨rfl, Q2, x2, s4, z4⟩ := hq
        exact .inr ⟨x, m', Q2, rfl, s4.perm (by ac_rfl), z4, hrt.step hyl hn, (Rv.Maker.next_records hn).1⟩)
    have HOK := Lib.hid hok
    have HRC := Lib.hid hrc
    have ZJ := Lib.hid z3
    have hll : l.length ≤ 10000 := by rw [hrt.len]; exact hrt.ok.n1
    have hmr := hrt.ok.n1
    clear s3 z3 hrt hok hrc S0 Z0 HRES hyl
    go_wp2_with fail
    refine HN.out.mono ?_
    clear HN
    rintro e w4 (⟨f, Q2, rfl, s4, z4, hres⟩ | ⟨x, m', Q2, rfl, s4, z4, hrt2, hrec⟩)
    · subst hres
      have S4 := Lib.hid s4
      have S5 : Hid (Sat (w4.setRow g7 recZero) (rcP g7 ⟨0, ⟨#[]⟩, 0, 0⟩ * (rdrP Q2 g m (xs.take 4194304) * (Q2 * (recsP (.slice B l.length k) l * (plP g2 .zero * (flP g5 ⟨0, 0⟩ * (plP g9 p * R)))))))) := Lib.hid (sat_setRow (n := recZero) s4)
      have Z5 : Hid (Same w (w4.setRow g7 recZero)) := Lib.hid ((ZJ.out.then z4).then (same_setRow _ _ _))
      clear s4 z4 HOK
      go_upto_region 11 with ((with_reducible refine at_store 44 7 37 ?_); refine wpList_store_row rfl 44 (.tmp 7) (.tmp 37) rfl g7 recZero (by rfl) (by rfl) 44 (recCells r7) S4.out.heap info_rec (by rfl) one_rec0 ?_; simp only [Act.put])
      generalize w4.setRow g7 recZero = w5 at *
      have ZR : Hid (Sat w5.drew (plP g2 .zero * (flP g5 ⟨0, 0⟩ * (plP g9 p * (rcP g7 ⟨0, ⟨#[]⟩, 0, 0⟩ * (rdrP Q2 g m (xs.take 4194304) * (Q2 * (recsP (.slice B l.length k) l * R)))))))) := Lib.hid (S5.out.drew.perm (by ac_rfl))
      have HAT := Lib.hid (rdr_at S5.out.swap.drew)
      obtain ⟨T1, T2, T3⟩ := two_sets (n2 := polCells p) (n4 := fltCells ⟨0, 0⟩) ZR.out
      have T1 := Lib.hid T1
      have T2 := Lib.hid T2
      have T3 := Lib.hid T3
      have K0 := Lib.hid ZR.out.third.heap
      clear S4
      refine wp_region_held_drew (S := fun w' => w'.heap[g9]? = some (.cells (polCells p) 33 (0, 0))) (by kernel_rfl) K0.out (fun hHeld => ?_)
      refine wpAnyH_take (i := 0) (oi := ⟨some 45, .load 33 (.tmp 9), 33, "salvage.go:29", #[], none⟩) rfl (by kernel_rfl) (by kernel_rfl) (by kernel_rfl) (fun _ _ _ h => h) (yields_load_row rfl 33 (.tmp 9) rfl g9 (by rfl) 33 (polCells p) (0, 0) _ (fun _ h => h) Tryz.underlying33 (by rfl) info_pol) (by assumption) ?_
      try simp only [Act.put, List.setIfInBounds_toArray, List.set_cons_zero, List.set_cons_succ]
      refine wpAnyH_take (i := 1) (oi := ⟨some 46, .move (.tmp 6), 34, "salvage.go:29", #[⟨5, .gcOnly .lateStores⟩], none⟩) (v := ?_) rfl (by kernel_rfl) (by kernel_rfl) (by kernel_rfl) (fun _ _ _ h => h) (Or.inl ⟨by rfl, ?_⟩) (by assumption) ?_
      rotate_left
      · intro w hSw
        try dsimp only at hSw
        go_simp
        try with_reducible rfl
      try simp only [Act.put, List.setIfInBounds_toArray, List.set_cons_zero, List.set_cons_succ]
      refine wpAnyH_take (i := 2) (oi := ⟨some 47, .move (.tmp 12), 78, "salvage.go:29", #[], none⟩) (v := ?_) rfl (by kernel_rfl) (by kernel_rfl) (by kernel_rfl) (fun _ _ _ h => h) (Or.inl ⟨by rfl, ?_⟩) (by assumption) ?_
      rotate_left
      · intro w hSw
        try dsimp only at hSw
        go_simp
        try with_reducible rfl
      try simp only [Act.put, List.setIfInBounds_toArray, List.set_cons_zero, List.set_cons_succ]
      refine wpAnyH_take (i := 4) (oi := ⟨some 49, .build 27 #[], 27, "salvage.go:29", #[⟨7, .gcOnly .lateStores⟩], none⟩) (v := ?_) rfl (by kernel_rfl) (by kernel_rfl) (by kernel_rfl) (fun _ _ _ h => h) (Or.inl ⟨by rfl, ?_⟩) (by assumption) ?_
      rotate_left
      · intro w hSw
        try dsimp only at hSw
        go_simp
        try with_reducible rfl
      try simp only [Act.put, List.setIfInBounds_toArray, List.set_cons_zero, List.set_cons_succ]
      refine wpAnyH_ready (rs := [3]) (by kernel_rfl) (by simp) ?_
      refine AllReadyH.cons (o := ⟨some 48, .call { callee := .value (.func 29), args := #[.tmp 47], argTypes := #[78] }, 3, "salvage.go:29", #[⟨2, .data⟩], none⟩) rfl (fun K hK => ?_) AllReadyH.nil
      go_simp
      refine HAT.out.mono ?_
      rintro e w6 ⟨rfl, rfl⟩
      refine hK.out _ _ K0.out (fun hHeld2 => ?_)
      clear hK K hHeld
      try simp only [Act.put, List.setIfInBounds_toArray, List.set_cons_zero, List.set_cons_succ]
      refine wpAnyH_ready (rs := [5]) (by kernel_rfl) (by simp) ?_
      refine AllReadyH.cons (o := ⟨none, .store 33 (.tmp 2) (.tmp 45), 0, "salvage.go:29", #[⟨0, .data⟩, ⟨3, .chain⟩, ⟨0, .phase⟩, ⟨1, .textOnly .lateStores⟩, ⟨2, .textOnly .lateStores⟩, ⟨3, .textOnly .lateStoresUnsure⟩, ⟨4, .textOnly .lateStores⟩], none⟩) rfl (fun K hK => ?_) AllReadyH.nil
      have K1 := Lib.hid T1.out.third.heap
      refine step_store_row rfl 33 (.tmp 2) (.tmp 45) rfl g2 (polCells p) (by rfl) (by rfl) 33 (polCells .zero) ZR.out.heap info_pol (by rfl) (one_pol _) ?_
      refine hK.out _ _ K1.out (fun hHeld => ?_)
      clear hK K hHeld2
      try simp only [Act.put, List.setIfInBounds_toArray, List.set_cons_zero, List.set_cons_succ]
      refine wpAnyH_take (i := 6) (oi := ⟨some 3, .assign (.tmp 46), 34, "salvage.go:29", #[⟨1, .data⟩, ⟨5, .chain⟩, ⟨0, .phase⟩, ⟨1, .phase⟩, ⟨2, .textOnly .lateStores⟩, ⟨3, .textOnly .lateStoresUnsure⟩, ⟨4, .textOnly .lateStores⟩, ⟨5, .phase⟩], none⟩) (v := ?_) rfl (by kernel_rfl) (by kernel_rfl) (by kernel_rfl) (fun _ _ _ h => h) (Or.inl ⟨by rfl, ?_⟩) (by assumption) ?_
      rotate_left
      · intro w hSw
        try dsimp only at hSw
        go_simp
        try with_reducible rfl
      try simp only [Act.put, List.setIfInBounds_toArray, List.set_cons_zero, List.set_cons_succ]
      refine wpAnyH_take (i := 7) (oi := ⟨some 4, .assign (.tmp 48), 3, "salvage.go:29", #[⟨3, .data⟩, ⟨6, .chain⟩, ⟨0, .phase⟩, ⟨1, .phase⟩, ⟨2, .phase⟩, ⟨3, .phase⟩, ⟨4, .textOnly .lateStores⟩, ⟨5, .phase⟩, ⟨6, .phase⟩], none⟩) (v := ?_) rfl (by kernel_rfl) (by kernel_rfl) (by kernel_rfl) (fun _ _ _ h => h) (Or.inl ⟨by rfl, ?_⟩) (by assumption) ?_
      rotate_left
      · intro w hSw
        try dsimp only at hSw
        go_simp
        try with_reducible rfl
      try simp only [Act.put, List.setIfInBounds_toArray, List.set_cons_zero, List.set_cons_succ]
      refine wpAnyH_ready (rs := [8]) (by kernel_rfl) (by simp) ?_
      refine AllReadyH.cons (o := ⟨none, .store 27 (.tmp 5) (.tmp 49), 0, "salvage.go:29", #[⟨4, .data⟩, ⟨7, .chain⟩, ⟨0, .phase⟩, ⟨1, .phase⟩, ⟨2, .phase⟩, ⟨3, .phase⟩, ⟨4, .phase⟩, ⟨5, .phase⟩, ⟨6, .phase⟩, ⟨7, .phase⟩], none⟩) rfl (fun K hK => ?_) AllReadyH.nil
      have K2 := Lib.hid T2.out.third.heap
      refine step_store_row rfl 27 (.tmp 5) (.tmp 49) rfl g5 (fltCells ⟨0, 0⟩) (by rfl) (by rfl) 27 (fltCells ⟨0, 0⟩) T1.out.swap.heap info_flt (by rfl) (one_flt _) ?_
      refine hK.out _ _ K2.out (fun hHeld2 => ?_)
      clear hK K hHeld
      try simp only [Act.put, List.setIfInBounds_toArray, List.set_cons_zero, List.set_cons_succ]
      refine wpAnyH_done (by kernel_rfl) ?_ _
      clear hHeld2
      go_wp2_with fail
      refine jump_ret ?_
      exact bodyPost_ret (results_cttc Tryz.results18 _ _ g2 g5 33 27 (polCells p) (fltCells ⟨0, 0⟩) (0, 0) (0, 0) _ _ (.slice B l.length k) (.int .i64 (m.size : Int)) (by rfl) (by rfl) (by rfl) (by rfl) T2.out.heap T2.out.swap.heap Tryz.underlying33 (by rfl) info_pol Tryz.underlying27 (by rfl) info_flt) rfl
        ⟨B, k, rfl, (T2.out.right.right.perm (show _ = plP g9 p * (rcP g7 ⟨0, ⟨#[]⟩, 0, 0⟩ * (rdrP Q2 g m (xs.take 4194304) * (Q2 * (recsP (.slice B l.length k) l * R)))) by ac_rfl)).right.right.right.right, Z5.out.drew.then T3.out⟩
    · have S4 := Lib.hid s4
      have S5 : Hid (Sat (w4.setRow g7 (recCells x)) (rcP g7 x * (rdrP Q2 g m' (xs.take 4194304) * (Q2 * (recsP (.slice B l.length k) l * (plP g2 .zero * (flP g5 ⟨0, 0⟩ * (plP g9 p * R)))))))) := Lib.hid (sat_setRow (n := recCells x) s4)
      have S6 : Hid (Sat (w4.setRow g7 (recCells x)) (recsP (.slice B l.length k) l * (rdrP Q2 g m' (xs.take 4194304) * (Q2 * (rcP g7 x * (plP g2 .zero * (flP g5 ⟨0, 0⟩ * (plP g9 p * R)))))))) := Lib.hid (S5.out.perm (by ac_rfl))
      have Z5 : Hid (Same w (w4.setRow g7 (recCells x))) := Lib.hid ((ZJ.out.then z4).then (same_setRow _ _ _))
      have HRT := Lib.hid hrt2
      have HREC := Lib.hid hrec
      clear s4 z4 hrt2 hrec
      go_upto_region 10 with ((with_reducible refine at_store 44 7 37 ?_); refine wpList_store_row rfl 44 (.tmp 7) (.tmp 37) rfl g7 (recCells x) (by rfl) (by rfl) 44 (recCells r7) S4.out.heap info_rec (by rfl) (one_rec x) ?_; simp only [Act.put])
      generalize w4.setRow g7 (recCells x) = w5 at *
      clear S4
      go_wp2_with (first
        | ((with_reducible refine at_slot 42 ?_); refine wpList_load_row rfl 44 (.tmp 7) rfl g7 (by rfl) 44 (recCells x) (0, 0) _ S5.out.heap Tryz.underlying44 (by rfl) info_rec ?_)
        | (at_builtin; refine sapp_rec rfl (.tmp 41) (.tmp 43) rfl (.slice B l.length k) l x (by rfl) (by rfl) S6.out (by omega) ?_; intro B1 c1 w6 h6 z6; have S7 := Lib.hid h6; have Z7 := Lib.hid (Z5.out.then z6); clear h6 z6))
      have h8 : Sat w6 (recsP (.slice B1 (l ++ [x]).length c1) (l ++ [x]) * (rdrP Q2 g m' (xs.take 4194304) * (Q2 * (rcP g7 x * (plP g2 .zero * (flP g5 ⟨0, 0⟩ * (plP g9 p * R))))))) := by
        rw [List.length_append, List.length_singleton]
        exact S7.out
      have hr8 := recsAt_eq h8.right
      have hn8 := HRT.out.ok.n1
      go_step3
      go_wp2_with fail
      refine jump_goto ?_
      refine ⟨⟨p, g, g9, _, _, _, _, _, _, _, _, _, _, _, _, _, _, _, _, _, _, _, _, _, _, _, _, _, _, _, _, _, _, _, _, _, _, _, _, _, _, _, _, _, _, _, _, _, HOK.out, ⟨m', l ++ [x], B1, c1, Q2, x, by rw [List.length_append, List.length_singleton], HRT.out, h8, Z7.out⟩, rfl⟩, ?_⟩
      show 10001 - recsAt w6 g < 10001 - recsAt w0 g
      rw [hr8, HRC.out, HREC.out]
      have := HREC.out
      omega
  · intro hpass
    have HPASS := Lib.hid hpass
    clear hpass
    go_upto_region 4 with (fail)
    obtain ⟨w1, hw1⟩ : ∃ w1, w1 = ((((w.alloc (.cells (polCells .zero) 33)).alloc (.cells (fltCells ⟨0, 0⟩) 27))).alloc (.cells recZero 44)) := ⟨_, rfl⟩
    change Code.wp _ _ _ _ ((((w.alloc (.cells (polCells .zero) 33)).alloc (.cells (fltCells ⟨0, 0⟩) 27))).alloc (.cells recZero 44))
    rw [← hw1] at S0 Z0 ⊢
    clear hw1
    generalize w.heap.size + 1 + 1 = g7 at *
    generalize w.heap.size + 1 = g5 at *
    generalize w.heap.size = g2 at *
    go_wp2_with fail
    refine (pread_any A xs c w1 (rdV_u8 (HRD.out w1 S0.out.right.right.right)) hm hc).mono ?_
    rintro e w2 ⟨rfl, b2⟩
    have S2 := Lib.hid (S0.out.below b2)
    have Z2 := Lib.hid (Z0.out.then (Rv.Same.below b2))
    clear b2 S0 Z0
    cases hp : Rv.Pol.read xs with
    | error f =>
      have e3 : preadRes (.error f) = .returned (.tuple #[.agg (polCells .zero), .int .i64 0, .agg (fltCells f)]) := rfl
      rw [e3]
      clear e3
      have S5 : Hid (Sat ((w2.alloc (.cells (polCells .zero) 33)).alloc (.cells (fltCells f) 27)) (plP g2 .zero * (flP g5 ⟨0, 0⟩ * (flP (w2.heap.size + 1) f * (plP w2.heap.size .zero * (rcP g7 ⟨0, ⟨#[]⟩, 0, 0⟩ * R)))))) := Lib.hid (by
        have h1 := (S2.out.alloc (.cells (polCells .zero) 33)).alloc (.cells (fltCells f) 27)
        simp only [World.size_alloc] at h1
        exact (show Sat _ (flP (w2.heap.size + 1) f * (plP w2.heap.size .zero * (plP g2 .zero * (flP g5 ⟨0, 0⟩ * (rcP g7 ⟨0, ⟨#[]⟩, 0, 0⟩ * R))))) from h1).perm (by ac_rfl))
      have Z5 : Hid (Same w ((w2.alloc (.cells (polCells .zero) 33)).alloc (.cells (fltCells f) 27))) := Lib.hid (Z2.out.then (Same.of (((Kept.refl (fun _ => False) w2).alloc _).alloc _)))
      go_upto_region 5 with (fail)
      obtain ⟨w5, hw5⟩ : ∃ w5, w5 = ((w2.alloc (.cells (polCells .zero) 33)).alloc (.cells (fltCells f) 27)) := ⟨_, rfl⟩
      change Code.wp _ _ _ _ ((w2.alloc (.cells (polCells .zero) 33)).alloc (.cells (fltCells f) 27))
      rw [← hw5] at S5 Z5 ⊢
      clear hw5 S2 Z2
      generalize w2.heap.size + 1 = g11 at *
      generalize w2.heap.size = g9 at *
      obtain ⟨l0, l1⟩ := flt_facts S5.out.third
      have hfc := pread_code hp
      have e1 : (f.code != 0) = true := by simpa using hfc
      have he : Rv.scanned xs = .error f := by unfold Rv.scanned; rw [hp]
      obtain rfl := he.symm.trans HRES.out
      have K0 := Lib.hid (And.intro l0 l1)
      have ZR : Hid (Sat w5.drew (plP g2 .zero * (flP g5 ⟨0, 0⟩ * (flP g11 f * (plP g9 .zero * (rcP g7 ⟨0, ⟨#[]⟩, 0, 0⟩ * R)))))) := Lib.hid S5.out.drew
      obtain ⟨T1, T2, T3⟩ := two_sets (n2 := polCells .zero) (n4 := fltCells f) ZR.out
      have T1 := Lib.hid T1
      have T2 := Lib.hid T2
      have T3 := Lib.hid T3
      clear HRES he hfc hp
      go_upto_region 6 with (fail)
      refine wp_region_held_drew (S := fun w => w.cell? ⟨g11, 0, none⟩ = some (.int .i64 f.code) ∧ w.cell? ⟨g11, 1, none⟩ = some (.int .i64 f.at_)) (by kernel_rfl) K0.out (fun hHeld => ?_)
      refine wpAnyH_take (i := 0) (oi := ⟨some 23, .build 33 #[], 33, "salvage.go:20", #[], none⟩) (v := ?_) rfl (by kernel_rfl) (by kernel_rfl) (by kernel_rfl) (fun _ _ _ h => h) (Or.inl ⟨by rfl, ?_⟩) (by assumption) ?_
      rotate_left
      · intro w hSw
        try dsimp only at hSw
        go_simp
        try with_reducible rfl
      try simp only [Act.put, List.setIfInBounds_toArray, List.set_cons_zero, List.set_cons_succ]
      refine wpAnyH_take (i := 1) (oi := ⟨some 24, .load 27 (.tmp 11), 27, "salvage.go:20", #[⟨4, .gcOnly .lateStores⟩], none⟩) (v := ?_) rfl (by kernel_rfl) (by kernel_rfl) (by kernel_rfl) (fun _ _ _ h => h) (Or.inl ⟨by rfl, ?_⟩) (by assumption) ?_
      rotate_left
      · intro w hSw
        try dsimp only at hSw
        go_simp
        try with_reducible rfl
      try simp only [Act.put, List.setIfInBounds_toArray, List.set_cons_zero, List.set_cons_succ]
      refine wpAnyH_ready (rs := [2]) (by kernel_rfl) (by simp) ?_
      refine AllReadyH.cons (o := ⟨none, .store 33 (.tmp 2) (.tmp 23), 0, "salvage.go:20", #[⟨0, .data⟩, ⟨0, .phase⟩, ⟨1, .textOnly .lateStores⟩], none⟩) rfl (fun K hK => ?_) AllReadyH.nil
      have K1 := Lib.hid (flt_facts T1.out.third)
      refine step_store_row rfl 33 (.tmp 2) (.tmp 23) rfl g2 (polCells .zero) (by rfl) (by rfl) 33 (polCells .zero) ZR.out.heap info_pol (by rfl) (one_pol _) ?_
      refine hK.out _ _ K1.out (fun hHeld2 => ?_)
      clear hK K hHeld
      try simp only [Act.put, List.setIfInBounds_toArray, List.set_cons_zero, List.set_cons_succ]
      refine wpAnyH_take (i := 3) (oi := ⟨some 3, .assign (.const (.slice none 0 0)), 34, "salvage.go:20", #[⟨2, .chain⟩, ⟨0, .phase⟩, ⟨1, .textOnly .lateStores⟩, ⟨2, .phase⟩], none⟩) (v := ?_) rfl (by kernel_rfl) (by kernel_rfl) (by kernel_rfl) (fun _ _ _ h => h) (Or.inl ⟨by rfl, ?_⟩) (by assumption) ?_
      rotate_left
      · intro w hSw
        try dsimp only at hSw
        go_simp
        try with_reducible rfl
      try simp only [Act.put, List.setIfInBounds_toArray, List.set_cons_zero, List.set_cons_succ]
      refine wpAnyH_take (i := 4) (oi := ⟨some 4, .assign (.const (.int .i64 0)), 3, "salvage.go:20", #[⟨3, .chain⟩, ⟨0, .phase⟩, ⟨1, .textOnly .lateStores⟩, ⟨2, .phase⟩, ⟨3, .phase⟩], none⟩) (v := ?_) rfl (by kernel_rfl) (by kernel_rfl) (by kernel_rfl) (fun _ _ _ h => h) (Or.inl ⟨by rfl, ?_⟩) (by assumption) ?_
      rotate_left
      · intro w hSw
        try dsimp only at hSw
        go_simp
        try with_reducible rfl
      try simp only [Act.put, List.setIfInBounds_toArray, List.set_cons_zero, List.set_cons_succ]
      refine wpAnyH_ready (rs := [5]) (by kernel_rfl) (by simp) ?_
      refine AllReadyH.cons (o := ⟨none, .store 27 (.tmp 5) (.tmp 24), 0, "salvage.go:20", #[⟨1, .data⟩, ⟨4, .chain⟩, ⟨0, .phase⟩, ⟨1, .phase⟩, ⟨2, .phase⟩, ⟨3, .phase⟩, ⟨4, .phase⟩], none⟩) rfl (fun K hK => ?_) AllReadyH.nil
      have K2 := Lib.hid (flt_facts T2.out.third)
      refine step_store_row rfl 27 (.tmp 5) (.tmp 24) rfl g5 (fltCells f) (by rfl) (by rfl) 27 (fltCells ⟨0, 0⟩) T1.out.swap.heap info_flt (by rfl) (one_flt _) ?_
      refine hK.out _ _ K2.out (fun hHeld => ?_)
      clear hK K hHeld2
      try simp only [Act.put, List.setIfInBounds_toArray, List.set_cons_zero, List.set_cons_succ]
      refine wpAnyH_done (by kernel_rfl) ?_ _
      clear hHeld
      go_wp2_with fail
      refine jump_ret ?_
      exact bodyPost_ret (results_cttc Tryz.results18 _ _ g2 g5 33 27 (polCells .zero) (fltCells f) (0, 0) (0, 0) _ _ (.slice none 0 0) (.int .i64 0) (by rfl) (by rfl) (by rfl) (by rfl) T2.out.heap T2.out.swap.heap Tryz.underlying33 (by rfl) info_pol Tryz.underlying27 (by rfl) info_flt) rfl
        ⟨rfl, T2.out.right.right.right.right.right, Z5.out.drew.then T3.out⟩
    | ok q =>
      obtain ⟨p, tt⟩ := q
      have e3 : preadRes (.ok (p, tt)) = .returned (.tuple #[.agg (polCells p), .int .i64 (tt : Int), .agg (fltCells ⟨0, 0⟩)]) := rfl
      rw [e3]
      clear e3
      have S5 : Hid (Sat ((w2.alloc (.cells (polCells p) 33)).alloc (.cells (fltCells ⟨0, 0⟩) 27)) (plP g2 .zero * (flP g5 ⟨0, 0⟩ * (flP (w2.heap.size + 1) ⟨0, 0⟩ * (plP w2.heap.size p * (rcP g7 ⟨0, ⟨#[]⟩, 0, 0⟩ * R)))))) := Lib.hid (by
        have h1 := (S2.out.alloc (.cells (polCells p) 33)).alloc (.cells (fltCells ⟨0, 0⟩) 27)
        simp only [World.size_alloc] at h1
        exact (show Sat _ (flP (w2.heap.size + 1) ⟨0, 0⟩ * (plP w2.heap.size p * (plP g2 .zero * (flP g5 ⟨0, 0⟩ * (rcP g7 ⟨0, ⟨#[]⟩, 0, 0⟩ * R))))) from h1).perm (by ac_rfl))
      have Z5 : Hid (Same w ((w2.alloc (.cells (polCells p) 33)).alloc (.cells (fltCells ⟨0, 0⟩) 27))) := Lib.hid (Z2.out.then (Same.of (((Kept.refl (fun _ => False) w2).alloc _).alloc _)))
      go_upto_region 5 with (fail)
      obtain ⟨w5, hw5⟩ : ∃ w5, w5 = ((w2.alloc (.cells (polCells p) 33)).alloc (.cells (fltCells ⟨0, 0⟩) 27)) := ⟨_, rfl⟩
      change Code.wp _ _ _ _ ((w2.alloc (.cells (polCells p) 33)).alloc (.cells (fltCells ⟨0, 0⟩) 27))
      rw [← hw5] at S5 Z5 ⊢
      clear hw5 S2 Z2
      generalize w2.heap.size + 1 = g11 at *
      generalize w2.heap.size = g9 at *
      obtain ⟨l0, l1⟩ := flt_facts S5.out.third
      have hfm := Rv.Pol.read_form hp
      have hok := Rv.Pol.read_ok hp
      have hhl := Rv.Pol.header_len p
      have hyl : (xs.take 4194304).length = min 4194304 xs.length := List.length_take
      have hpy : Rv.Pol.read (xs.take 4194304) = .ok (p, tt) := hok.2.2 _ tt ⟨hok.2.1, by omega, by rw [List.take_take]; congr 1; omega⟩ (Nat.le_refl _)
      have hop : Rv.openR (xs.take 4194304) = .ok (Rv.Maker.begun p) := by
        unfold Rv.openR
        rw [if_neg (by omega), hpy]
      have hrt := ReadTo.begin hpy
      have HOK : Hid (ScnOk res (xs.take 4194304) p) := Lib.hid (by
        unfold ScnOk
        rw [← HRES.out]
        exact Rv.scanned_eq hp)
      have HO : Hid (Calls Tryz.prog 26 #[.slice A (xs.take 4194304).length c] w5 (fun e w6 => ∃ g, e = .returned (.tuple #[.pointer (some ⟨g, 0, none⟩), .agg (fltCells ⟨0, 0⟩)]) ∧ Sat w6 (rdrP 1 g (Rv.Maker.begun p) (xs.take 4194304) * (1 * (plP g2 .zero * (flP g5 ⟨0, 0⟩ * (flP g11 ⟨0, 0⟩ * (plP g9 p * (rcP g7 ⟨0, ⟨#[]⟩, 0, 0⟩ * R))))))) ∧ Same w5 w6)) := Lib.hid (by
        have h1 := topen_any w5 _ A (xs.take 4194304) c S5.out (Rv.RdIn.right (Rv.RdIn.right (Rv.RdIn.right (Rv.RdIn.right (Rv.RdIn.right (by have := HRD.out.take 4194304; unfold u8s at this ⊢; rw [List.map_take]; exact this)))))) HNIL.out (by omega) (by omega)
        rw [hop] at h1
        exact h1)
      rw [hyl] at HO
      have HRT := Lib.hid hrt
      clear HRES hp hpy hop hrt hok hfm hhl hyl
      have hc1 : (xs.length : Int) ≤ (c : Int) := by omega
      go_wp2_with fail
      rw [show (min (xs.length : Int) 4194304).toNat = min 4194304 xs.length from by omega]
      refine HO.out.mono ?_
      rintro e w6 ⟨g, rfl, s6, z6⟩
      have S6 : Hid (Sat (w6.alloc (.cells (fltCells ⟨0, 0⟩) 27)) (rdrP 1 g (Rv.Maker.begun p) (xs.take 4194304) * (1 * (rcP g7 ⟨0, ⟨#[]⟩, 0, 0⟩ * (plP g2 .zero * (flP g5 ⟨0, 0⟩ * (plP g9 p * R))))))) := Lib.hid ((show Sat _ (flP w6.heap.size ⟨0, 0⟩ * (flP g11 ⟨0, 0⟩ * (rdrP 1 g (Rv.Maker.begun p) (xs.take 4194304) * (1 * (rcP g7 ⟨0, ⟨#[]⟩, 0, 0⟩ * (plP g2 .zero * (flP g5 ⟨0, 0⟩ * (plP g9 p * R)))))))) from (s6.alloc (.cells (fltCells ⟨0, 0⟩) 27)).perm (show pt w6.heap.size (.cells (fltCells ⟨0, 0⟩) 27) * _ = pt w6.heap.size (.cells (fltCells ⟨0, 0⟩) 27) * _ by ac_rfl)).right.right)
      have Z6 := Lib.hid ((Z5.out.then z6).then (Same.of ((Kept.refl (fun _ => False) w6).alloc (.cells (fltCells ⟨0, 0⟩) 27))))
      clear s6 z6 S5 Z5 HO l0 l1
      go_wp2_with fail
      go_step3
      rename_i hK
      refine hK _ _ (HPASS.out _ _ ?_)
      exact ⟨p, g, g9, _, _, _, _, _, _, _, _, _, _, _, _, _, _, _, _, _, _, _, _, _, _, _, _, _, _, _, _, _, _, _, _, _, _, _, _, _, _, _, _, _, _, _, _, _, HOK.out, ⟨_, [], none, 0, 1, ⟨0, ⟨#[]⟩, 0, 0⟩, rfl, HRT.out, recsP_nil S6.out, Z6.out⟩, rfl⟩
end Go.Proofs.YtcmndglhileeoaaGreat
