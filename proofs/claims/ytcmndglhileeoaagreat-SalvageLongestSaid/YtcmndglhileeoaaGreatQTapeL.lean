/- The walks of package tape: Put. -/
import Derived.Test.YtcmndglhileeoaaGreatQTapeJ
set_option linter.unusedSimpArgs false
set_option linter.unusedVariables false
namespace Go.Proofs.YtcmndglhileeoaaGreat
open Go.RowKit
open Rv (HP Sat Same pt allOf sat_all RdIn row own Lcl)

/-- A maker's box. -/
abbrev mb (T : TypeId) (g : Nat) (m : Rv.Maker) (gc gl : Nat) (sA : Option Addr) (sc : Nat) (ev : Value) : HP := makBox T g m.p gc gl m.link (.slice sA m.segment.length sc) m.records m.size ev
/-- A segment's bytes. -/
abbrev sg (m : Rv.Maker) (sA : Option Addr) (sc : Nat) : HP := bytesP (.slice sA m.segment.length sc) m.segment
abbrev stp (g9 gc : Nat) (op : Option Addr) (s : Rv.Step) (pv cv tv : Value) : HP := pt g9 (.cells (stepCells gc (.pointer op) s.link pv cv tv s.ends) 74)
abbrev rcP (g3 : Nat) (r : Rv.Rec) : HP := pt g3 (.cells (recCells r) 44)
theorem rec_facts {w : World} {R : HP} {g3 : Nat} {r : Rv.Rec} (h : Sat w (rcP g3 r * R)) : w.cell? ⟨g3, 0, none⟩ = some (.int .i64 r.tick) ∧ w.cell? ⟨g3, 1, none⟩ = some (.string r.key) ∧ w.cell? ⟨g3, 2, none⟩ = some (.int .i64 r.cost) ∧ w.cell? ⟨g3, 3, none⟩ = some (.int .i64 r.verdict) := by
  have q := Rv.Sat.heap h
  exact ⟨(cells_of q 0).trans rfl, (cells_of q 1).trans rfl, (cells_of q 2).trans rfl, (cells_of q 3).trans rfl⟩

theorem zero_step : (Tryz.prog.info? 74).map (fun i => (i.zero, i.size)) = some (some (.agg stepZero), 10) := by kernel_rfl
/-- What adds tells. -/
def AddsRes (T : TypeId) (Q F : HP) (w : World) (g gc gl g' : Nat) (m : Rv.Maker) (sA : Option Addr) (sc : Nat) (ev pv : Value) (s : Rv.Step) (fits : Bool) (e : Ending) (w' : World) : Prop :=
  ∃ op cA cc tA tc Q', e = .returned (.tuple #[.agg (stepCells g' (.pointer op) s.link pv (.slice cA s.check.length cc) (.slice tA s.trailer.length tc) s.ends), .bool fits]) ∧ Ext Q Q' ∧
    Sat w' (mb T g m gc gl sA sc ev * (owedP Q' (.pointer op) s.owed * (bytesP (.slice cA s.check.length cc) s.check * (bytesP (.slice tA s.trailer.length tc) s.trailer * (ledP Q' gl m.owed * (sg m sA sc * (Q' * F))))))) ∧ Same w w' ∧ (s.owed = none → cA = none ∧ cc = 0)
theorem adds_step (T : TypeId) (w : World) (Q F : HP) (g gc gl g' : Nat) (m : Rv.Maker) (r : Rv.Rec) (c : Rv.Coder) (piece : List UInt8) (sA : Option Addr) (sc : Nat) (ev : Value) (pA : Option Addr) (pc : Nat) (s : Rv.Step) (fits : Bool)
    (hm : MOk m) (hs : m.adds r c piece = (s, fits)) (h : Sat w (mb T g m gc gl sA sc ev * (ledP Q gl m.owed * (sg m sA sc * (Q * F))))) (hp : RdIn F pA (u8s piece)) (hnil : pA = none → pc = 0) (hpl : piece.length ≤ 4194304) (hr : r.right = 0) (ht : m.coder.tick ≤ r.tick) :
    Calls Tryz.prog 24 #[.pointer (some ⟨g, 0, none⟩), .agg #[.int .i64 r.tick, .string r.key, .int .i64 r.cost, .int .i64 r.verdict], .pointer (some ⟨g', 0, none⟩), .slice pA piece.length pc] w (AddsRes T Q F w g gc gl g' m sA sc ev (.slice pA piece.length pc) s fits) := by
  refine (adds_any T w Q F g gc gl g' m r c piece sA sc ev pA pc hm h hp hnil hpl hr ht).mono ?_
  rintro e w' ⟨ov, cv, tv, Q', rfl, x, h1, z, hc⟩
  rw [hs] at h1 hc ⊢
  simp only at h1 hc ⊢
  obtain ⟨op, rfl⟩ := owedP_ptr h1.right
  obtain ⟨cA, cc, rfl, _, _, _⟩ := bytesP_shape h1.right.right
  obtain ⟨tA, tc, rfl, _, _, _⟩ := bytesP_shape h1.right.right.right
  exact ⟨op, cA, cc, tA, tc, Q', rfl, x, h1, z, fun e => by have := hc e; injection this with h1 h2 h3; exact ⟨h1, h3⟩⟩
section
variable {P : Program} {ops : Array Oper} {rest : List Oper} {o : Oper} {a : Act} {Q : Exit → Act → World → Prop}
/-- append of one value that lies in a new box. -/
theorem sapp_one {W : World} {R : HP} (hgd : o.guard = none) (s x : Operand) (t e : TypeId) (z : Value) (bytes : Nat)
    (ho : o.op = .call { callee := .builtin .append, args := #[s, x], argTypes := #[t, t] })
    (ht : P.underlying t = some (.slice e)) (hinfo : (P.info? e).map (fun i => (i.zero, i.size, i.bytes)) = some (some z, 1, bytes)) (hz : z.cells.size = 1) (hb0 : 0 < bytes)
    (v : Value) (vs : List Value) (y : Value) (hs : a.eval s = v) (hx : a.eval x = .slice (some ⟨W.heap.size, 0, none⟩) 1 1) (h1 : y.oneCell' = true)
    (HS : Sat W (row e v vs * R)) (hl : (vs.length + 1) * bytes ≤ 140737488355328) (N : Nat) (hN : vs.length + 1 = N)
    (h : ∀ B1 c1 w1, Sat w1 (row e (.slice B1 N c1) (vs ++ [y]) * R) → Same W w1 → wpList P ops Q rest (a.put o.dst (.slice B1 N c1)) w1) :
    wpList P ops Q (o :: rest) a (W.alloc (.cells #[y] e)) := by
  refine app_one_at hgd s x t e z bytes ho ht hinfo hz hb0 v vs y hs hx h1 HS.row_own hl N hN ?_
  intro B1 c1 w1 o1 k1 l1
  exact h B1 c1 w1 (HS.row_turn k1 o1 l1) (Same.of k1)
end
theorem info_bs : (Tryz.prog.info? 22).map (fun i => (i.zero, i.size, i.bytes)) = some (some (.slice none 0 0), 1, 24) := by kernel_rfl
theorem adds_true {m : Rv.Maker} {r : Rv.Rec} {c : Rv.Coder} {piece : Rv.Bs} {s : Rv.Step} (h : m.adds r c piece = (s, true)) : m.size + s.piece.length + s.check.length + s.trailer.length ≤ 4194304 := by
  by_cases hb : addSize m r piece > 4194304
  · rw [adds_big c hb] at h; cases h
  · rw [adds_fit c hb] at h
    injection h with h1 h2
    subst h1
    exact of_decide_eq_true h2
/-- What done leaves. -/
def DoneRes (T : TypeId) (Q F : HP) (w : World) (g : Nat) (m' : Rv.Maker) (ev : Value) (e : Ending) (w' : World) : Prop :=
  e = .returned (.tuple #[]) ∧ ∃ Q', Ext Q Q' ∧ Sat w' (mkrP T Q' g m' ev * (Q' * F)) ∧ Same w w'
theorem done_step (T : TypeId) (w : World) (Q F : HP) (g gc0 gl gc : Nat) (m : Rv.Maker) (r : Rv.Rec) (s : Rv.Step) (sA pA cA tA op : Option Addr) (sc pc cc tc : Nat) (ev : Value)
    (hm : MOk m) (h : Sat w (mb T g m gc0 gl sA sc ev * (owedP Q (.pointer op) s.owed * (ledP Q gl m.owed * (sg m sA sc * (coderP gc s.coder * (Q * F))))))) (hp : RdIn F pA (u8s s.piece)) (hpn : pA = none → pc = 0) (hc : RdIn F cA (u8s s.check)) (hcn : cA = none → cc = 0)
    (hlp : s.piece.length ≤ 4194304) (hlc : s.check.length ≤ 4194304) (hlt : s.trailer.length ≤ 1099511627776) (hr : r.right = 0) (ht : m.coder.tick ≤ r.tick) :
    Calls Tryz.prog 25 #[.pointer (some ⟨g, 0, none⟩), .agg #[.int .i64 r.tick, .string r.key, .int .i64 r.cost, .int .i64 r.verdict], .agg (stepCells gc (.pointer op) s.link (.slice pA s.piece.length pc) (.slice cA s.check.length cc) (.slice tA s.trailer.length tc) s.ends)] w (DoneRes T Q F w g (m.done r s) ev) := by
  refine (done_any T w Q (coderP gc s.coder * F) g gc0 gl gc m r s sA pA cA tA op sc pc cc tc ev hm ?_ (Rv.RdIn.right hp) hpn (Rv.RdIn.right hc) hcn hlp hlc hlt hr ht).mono ?_
  · exact h.perm (show mb T g m gc0 gl sA sc ev * (owedP Q (.pointer op) s.owed * (ledP Q gl m.owed * (sg m sA sc * (coderP gc s.coder * (Q * F))))) = mb T g m gc0 gl sA sc ev * (ledP Q gl m.owed * (sg m sA sc * (owedP Q (.pointer op) s.owed * (Q * (coderP gc s.coder * F))))) by ac_rfl)
  · rintro e w' ⟨rfl, gl', sv', Q', x, h1, z⟩
    obtain ⟨A', c', rfl, _, _, _⟩ := bytesP_shape h1.right.right
    refine ⟨rfl, Q', x, ?_, z⟩
    refine mkrP_shut (gc := gc) (gl := gl') (sA := A') (sc := c') ?_
    exact h1.perm (show makBox T g m.p gc gl' (m.done r s).link (.slice A' (m.done r s).segment.length c') (m.done r s).records (m.done r s).size ev * (ledP Q' gl' (m.done r s).owed * (bytesP (.slice A' (m.done r s).segment.length c') (m.done r s).segment * (Q' * (coderP gc s.coder * F)))) =
      makBox T g m.p gc gl' (m.done r s).link (.slice A' (m.done r s).segment.length c') (m.done r s).records (m.done r s).size ev * (ledP Q' gl' (m.done r s).owed * (bytesP (.slice A' (m.done r s).segment.length c') (m.done r s).segment * (coderP gc s.coder * (Q' * F)))) by ac_rfl)
/-- Pieces so far. -/
def PutPcs (F : HP) (w wx : World) (v : Value) (l : List Rv.Bs) : Prop := ∃ A c, v = .slice A l.length c ∧ Sat wx (piecesP (.slice A l.length c) l * F) ∧ Same w wx
theorem PutPcs.snoc {F : HP} {w wx : World} {A : Option Addr} {c : Nat} {vs : List Value} {y : Value} {b : Rv.Bs} {l : List Rv.Bs} (h : Sat wx (row 22 (.slice A (l ++ [b]).length c) (vs ++ [y]) * (pcsP vs l * (bytesP y b * F)))) (z : Same w wx) : PutPcs F w wx (.slice A (l ++ [b]).length c) (l ++ [b]) :=
  ⟨A, c, rfl, piecesP_shut ((pcsP_snoc (h.perm (show _ = pcsP vs l * (bytesP y b * (row 22 (.slice A (l ++ [b]).length c) (vs ++ [y]) * F)) by ac_rfl))).swap), z⟩
/-- What Put tells. -/
def PutRes (Q R : HP) (w : World) (g : Nat) (m : Rv.Maker) (res : Except Int (Rv.Maker × List Rv.Bs)) (e : Ending) (w' : World) : Prop := match res with
  | .error x => e = .returned (.tuple #[.slice none 0 0, .int .i64 x]) ∧ ∃ Q', Ext Q Q' ∧ Sat w' (wrtP Q' g m * (Q' * R)) ∧ Same w w'
  | .ok (m', l) => ∃ A c, e = .returned (.tuple #[.slice A l.length c, .int .i64 0]) ∧ ∃ Q', Ext Q Q' ∧ Sat w' (piecesP (.slice A l.length c) l * (wrtP Q' g m' * (Q' * R))) ∧ Same w w'
/-- Behind adds. -/
def PutStep (Q F : HP) (w wx : World) (v b : Value) (g gc gl g' : Nat) (sA : Option Addr) (sc : Nat) (hv pv : Value) (m : Rv.Maker) (s : Rv.Step) (fits : Bool) : Prop :=
  ∃ g9 op cA cc tA tc Q', v = .pointer (some ⟨g9, 0, none⟩) ∧ b = .bool fits ∧ Ext Q Q' ∧ Sat wx (stp g9 g' op s pv (.slice cA s.check.length cc) (.slice tA s.trailer.length tc) * (mb 69 g m gc gl sA sc hv * (owedP Q' (.pointer op) s.owed * (bytesP (.slice cA s.check.length cc) s.check * (bytesP (.slice tA s.trailer.length tc) s.trailer * (ledP Q' gl m.owed * (sg m sA sc * (Q' * F)))))))) ∧ Same w wx ∧ (s.owed = none → cA = none ∧ cc = 0)

set_option maxHeartbeats 4000000 in
set_option maxRecDepth 100000 in
theorem tput_any (w : World) (Q R : HP) (g : Nat) (m : Rv.Maker) (r : Rv.Rec) (hm : MOk m) (h : Sat w (wrtP Q g m * (Q * R))) :
    Calls Tryz.prog 14 #[.pointer (some ⟨g, 0, none⟩), .agg (recCells r)] w (PutRes Q R w g m (m.put r)) := by
  obtain ⟨hA, hc, h⟩ := wrtP_open h
  obtain ⟨gc, gl, sA, sc, h⟩ := mkrP_open h
  replace h : Sat w (mb 69 g m gc gl sA sc (.slice hA m.p.header.length hc) * (ledP Q gl m.owed * (sg m sA sc * (coderP gc m.coder * (bytesP (.slice hA m.p.header.length hc) m.p.header * (Q * R)))))) := h
  obtain ⟨res, hres⟩ : ∃ x, m.put r = x := ⟨_, rfl⟩
  rw [hres]
  have HRES := Lib.hid hres
  clear hres
  have hn1 := hm.n1
  have HM := Lib.hid hm
  have S0 : Hid (Sat (w.alloc (.cells (recCells r) 44)) (mb 69 g m gc gl sA sc (.slice hA m.p.header.length hc) * (rcP w.heap.size r * (coderP gc m.coder * (ledP Q gl m.owed * (sg m sA sc * (Q * (bytesP (.slice hA m.p.header.length hc) m.p.header * R)))))))) := Lib.hid ((show Sat _ (rcP w.heap.size r * _) from h.alloc (.cells (recCells r) 44)).perm (by ac_rfl))
  have Z0 : Hid (Same w (w.alloc (.cells (recCells r) 44))) := Lib.hid (Same.of ((Kept.refl (fun _ => False) w).alloc _))
  clear h hm
  go_enter Tryz.func14, Tryz.ntmps14
  go_upto_region 1 with (fail)
  obtain ⟨w2, hw2⟩ : ∃ w2, w2 = w.alloc (.cells (recCells r) 44) := ⟨_, rfl⟩
  change Code.wp _ _ _ _ (w.alloc (.cells (recCells r) 44))
  rw [← hw2] at S0 Z0 ⊢
  clear hw2
  generalize w.heap.size = g3 at *
  obtain ⟨d8, d9, d10, d11, d12, d13, d14, d15, d16, d17, d18, d19⟩ := mak_facts S0.out
  have HCL := Lib.hid (sclone w2 _ gc m.coder (S0.out.third))
  go_wp2_with fail
  refine HCL.out.mono ?_
  rintro e w3 ⟨g', rfl, s3, b3⟩
  have S3 : Hid (Sat w3 (mb 69 g m gc gl sA sc (.slice hA m.p.header.length hc) * (rcP g3 r * (coderP g' m.coder * (coderP gc m.coder * (ledP Q gl m.owed * (sg m sA sc * (Q * (bytesP (.slice hA m.p.header.length hc) m.p.header * R))))))))) := Lib.hid (s3.perm (by ac_rfl))
  have Z3 := Lib.hid (Z0.out.then (Rv.Same.below b3))
  clear s3 b3 S0 Z0 HCL d8 d9 d10 d11 d12 d13 d14 d15 d16 d17 d18 d19
  obtain ⟨r0, r1, r2, r3⟩ := rec_facts S3.out.right
  by_cases hE : m.coder.putE r = 0
  · obtain ⟨hr, ht⟩ := putE_zero hE
    have HE := Lib.hid hE
    have HR := Lib.hid hr
    have HP := Lib.hid (sput_ok w3 _ g' m.coder r S3.out.third hr ht)
    clear hE hr
    go_wp2_with fail
    refine HP.out.mono ?_
    rintro e w4 ⟨B, C, rfl, s4, z4⟩
    clear HP r0 r1 r2 r3
    obtain ⟨⟨c2, piece⟩, hcp⟩ : ∃ x, m.coder.put r = x := ⟨_, rfl⟩
    have hkp := put_keys HR.out HM.out.kp
    have hct : (m.coder.put r).1.tick = r.tick := rfl
    rw [hcp] at s4 hkp hct ⊢
    simp only at s4 hkp hct
    have HKP := Lib.hid hkp
    have HCT := Lib.hid hct
    have HCP := Lib.hid hcp
    have hpl : piece.length ≤ 200 := by have := put_len (c := m.coder) HR.out; rw [hcp] at this; exact this
    obtain ⟨⟨s, fits⟩, hs⟩ : ∃ x, m.adds r c2 piece = x := ⟨_, rfl⟩
    obtain ⟨hsp, hsc, hso, hsk, hst⟩ := adds_parts hs
    subst hsp
    have HS := Lib.hid hs
    have HSC := Lib.hid hsc
    have HSO := Lib.hid hso
    have HSK := Lib.hid hsk
    obtain ⟨F0, hF0⟩ : ∃ X : HP, bytesP (.slice B s.piece.length C) s.piece * (coderP g' c2 * (coderP gc m.coder * (bytesP (.slice hA m.p.header.length hc) m.p.header * R))) = X := ⟨_, rfl⟩
    have S4 : Hid (Sat w4 (mb 69 g m gc gl sA sc (.slice hA m.p.header.length hc) * (rcP g3 r * (ledP Q gl m.owed * (sg m sA sc * (Q * F0)))))) := Lib.hid (s4.perm (by rw [← hF0]; ac_rfl))
    have HRD : Hid (RdIn F0 B (u8s s.piece)) := Lib.hid (by rw [← hF0]; exact Rv.RdIn.left Rv.RdIn.row)
    have hnil : B = none → C = 0 := (bytesP_own (show Sat w4 (bytesP (.slice B s.piece.length C) s.piece * _) from s4)).nilcap
    have HNIL := Lib.hid hnil
    have HF0 := Lib.hid hF0
    have Z4 := Lib.hid (Z3.out.then z4)
    clear s4 z4 S3 Z3 hs hsc hso hsk hkp hct hcp hF0 hnil
    have HADD : Hid (∀ (wx : World) (F : HP), Sat wx (mb 69 g m gc gl sA sc (.slice hA m.p.header.length hc) * (ledP Q gl m.owed * (sg m sA sc * (Q * (F * F0))))) →
        Calls Tryz.prog 24 #[.pointer (some ⟨g, 0, none⟩), .agg #[.int .i64 r.tick, .string r.key, .int .i64 r.cost, .int .i64 r.verdict], .pointer (some ⟨g', 0, none⟩), .slice B s.piece.length C] wx (AddsRes 69 Q (F * F0) wx g gc gl g' m sA sc (.slice hA m.p.header.length hc) (.slice B s.piece.length C) s fits)) :=
      Lib.hid fun wx F h => adds_step _ wx Q (F * F0) g gc gl g' m r c2 s.piece sA sc _ B C s fits HM.out HS.out h (Rv.RdIn.right HRD.out) HNIL.out (by omega) HR.out ht
    have K0 := Lib.hid (rec_facts S4.out.swap)
    go_upto_region 5 with (fail)
    go_cut [9, 10] (fun v b wx => PutStep Q (rcP g3 r * F0) w wx v b g gc gl g' sA sc (.slice hA m.p.header.length hc) (.slice B s.piece.length C) m s fits)
    case first =>
      refine wp_region_held_drew (S := fun w' => w'.cell? ⟨g3, 0, none⟩ = some (.int .i64 r.tick) ∧ w'.cell? ⟨g3, 1, none⟩ = some (.string r.key) ∧ w'.cell? ⟨g3, 2, none⟩ = some (.int .i64 r.cost) ∧ w'.cell? ⟨g3, 3, none⟩ = some (.int .i64 r.verdict)) (by kernel_rfl) K0.out (fun hHeld => ?_)
      refine wpAnyH_take (i := 0) (oi := ⟨some 28, .move (.tmp 0), 35, "tape.go:126", #[], none⟩) (v := ?_) rfl (by kernel_rfl) (by kernel_rfl) (by kernel_rfl) (fun _ _ _ h => h) (Or.inl ⟨by rfl, ?_⟩) (by assumption) ?_
      rotate_left
      · intro w hSw
        try dsimp only at hSw
        go_simp
        try with_reducible rfl
      try simp only [Act.put, List.setIfInBounds_toArray, List.set_cons_zero, List.set_cons_succ]
      refine wpAnyH_take (i := 1) (oi := ⟨some 29, .nilCheck (.tmp 28), 0, "tape.go:126", #[⟨0, .data⟩], none⟩) (v := ?_) rfl (by kernel_rfl) (by kernel_rfl) (by kernel_rfl) (fun _ _ _ h => h) (Or.inl ⟨by rfl, ?_⟩) (by assumption) ?_
      rotate_left
      · intro w hSw
        try dsimp only at hSw
        go_simp
        try with_reducible rfl
      try simp only [Act.put, List.setIfInBounds_toArray, List.set_cons_zero, List.set_cons_succ]
      refine wpAnyH_take (i := 2) (oi := ⟨some 30, .fieldAddr 69 (.tmp 29) 0, 0, "tape.go:126", #[⟨1, .data⟩], none⟩) (v := ?_) rfl (by kernel_rfl) (by kernel_rfl) (by kernel_rfl) (fun _ _ _ h => h) (Or.inl ⟨by rfl, ?_⟩) (by assumption) ?_
      rotate_left
      · intro w hSw
        try dsimp only at hSw
        go_simp
        try with_reducible rfl
      try simp only [Act.put, List.setIfInBounds_toArray, List.set_cons_zero, List.set_cons_succ]
      refine wpAnyH_take (i := 3) (oi := ⟨some 31, .load 44 (.tmp 3), 44, "tape.go:126", #[], none⟩) (v := ?_) rfl (by kernel_rfl) (by kernel_rfl) (by kernel_rfl) (fun _ _ _ h => h) (Or.inl ⟨by rfl, ?_⟩) (by assumption) ?_
      rotate_left
      · intro w hSw
        try dsimp only at hSw
        go_simp
        try with_reducible rfl
      try simp only [Act.put, List.setIfInBounds_toArray, List.set_cons_zero, List.set_cons_succ]
      refine wpAnyH_take (i := 4) (oi := ⟨some 32, .move (.tmp 6), 58, "tape.go:126", #[], none⟩) (v := ?_) rfl (by kernel_rfl) (by kernel_rfl) (by kernel_rfl) (fun _ _ _ h => h) (Or.inl ⟨by rfl, ?_⟩) (by assumption) ?_
      rotate_left
      · intro w hSw
        try dsimp only at hSw
        go_simp
        try with_reducible rfl
      try simp only [Act.put, List.setIfInBounds_toArray, List.set_cons_zero, List.set_cons_succ]
      refine wpAnyH_take (i := 5) (oi := ⟨some 33, .move (.tmp 7), 22, "tape.go:126", #[], none⟩) (v := ?_) rfl (by kernel_rfl) (by kernel_rfl) (by kernel_rfl) (fun _ _ _ h => h) (Or.inl ⟨by rfl, ?_⟩) (by assumption) ?_
      rotate_left
      · intro w hSw
        try dsimp only at hSw
        go_simp
        try with_reducible rfl
      try simp only [Act.put, List.setIfInBounds_toArray, List.set_cons_zero, List.set_cons_succ]
      refine wpAnyH_ready (rs := [6, 10]) (by kernel_rfl) (by simp) ?_
      refine AllReadyH.cons (o := ⟨some 34, .call { callee := .value (.func 24), args := #[.tmp 30, .tmp 31, .tmp 32, .tmp 33], argTypes := #[65, 44, 58, 22] }, 75, "tape.go:126", #[⟨2, .data⟩, ⟨3, .data⟩, ⟨4, .data⟩, ⟨5, .data⟩], none⟩) rfl (fun K hK => ?_) (AllReadyH.cons (o := ⟨some 9, .alloc 74, 0, "tape.go:126", #[], none⟩) rfl (fun K hK => ?_) AllReadyH.nil)
      · go_simp
        refine (HADD.out w4.drew (rcP g3 r) (S4.out.drew.perm (by ac_rfl))).mono ?_
        rintro e w5 ⟨op, cA, cc, tA, tc, Q', rfl, x5, s5, z5, hcn⟩
        have S5 : Hid (Sat w5 (rcP g3 r * (mb 69 g m gc gl sA sc (.slice hA m.p.header.length hc) * (owedP Q' (.pointer op) s.owed * (bytesP (.slice cA s.check.length cc) s.check * (bytesP (.slice tA s.trailer.length tc) s.trailer * (ledP Q' gl m.owed * (sg m sA sc * (Q' * F0))))))))) := Lib.hid (s5.perm (by ac_rfl))
        have Z5 := Lib.hid (Z4.out.drew.then z5)
        have X5 := Lib.hid x5
        have HCN := Lib.hid hcn
        have K1 := Lib.hid (rec_facts S5.out)
        refine hK.out _ _ K1.out (fun hHeld2 => ?_)
        clear hK K hHeld s5 z5 x5 hcn
        try simp only [Act.put, List.setIfInBounds_toArray, List.set_cons_zero, List.set_cons_succ]
        refine wpAnyH_take (i := 7) (oi := ⟨some 27, .move (.tmp 34), 75, "tape.go:126", #[⟨6, .data⟩], none⟩) (v := ?_) rfl (by kernel_rfl) (by kernel_rfl) (by kernel_rfl) (fun _ _ _ h => h) (Or.inl ⟨by rfl, ?_⟩) (by assumption) ?_
        rotate_left
        · intro w hSw
          try dsimp only at hSw
          go_simp
          try with_reducible rfl
        try simp only [Act.put, List.setIfInBounds_toArray, List.set_cons_zero, List.set_cons_succ]
        refine wpAnyH_take (i := 8) (oi := ⟨some 35, .extract (.tmp 27) 0, 74, "tape.go:126", #[⟨7, .data⟩], none⟩) (v := ?_) rfl (by kernel_rfl) (by kernel_rfl) (by kernel_rfl) (fun _ _ _ h => h) (Or.inl ⟨by rfl, ?_⟩) (by assumption) ?_
        rotate_left
        · intro w hSw
          try dsimp only at hSw
          go_simp
          try with_reducible rfl
        try simp only [Act.put, List.setIfInBounds_toArray, List.set_cons_zero, List.set_cons_succ]
        refine wpAnyH_take (i := 9) (oi := ⟨some 36, .extract (.tmp 27) 1, 4, "tape.go:126", #[⟨7, .data⟩, ⟨11, .gcOnly .lateStores⟩], none⟩) (v := ?_) rfl (by kernel_rfl) (by kernel_rfl) (by kernel_rfl) (fun _ _ _ h => h) (Or.inl ⟨by rfl, ?_⟩) (by assumption) ?_
        rotate_left
        · intro w hSw
          try dsimp only at hSw
          go_simp
          try with_reducible rfl
        try simp only [Act.put, List.setIfInBounds_toArray, List.set_cons_zero, List.set_cons_succ]
        refine wpAnyH_ready (rs := [10]) (by kernel_rfl) (by simp) ?_
        refine AllReadyH.cons (o := ⟨some 9, .alloc 74, 0, "tape.go:126", #[], none⟩) rfl (fun K hK => ?_) AllReadyH.nil
        have S6 := Lib.hid (S5.out.alloc (.cells stepZero 74))
        have K2 := Lib.hid (rec_facts S6.out.swap)
        refine step_alloc rfl 74 rfl (.agg stepZero) (zero_of_info zero_step).1 ?_
        refine hK.out _ _ K2.out (fun hHeld => ?_)
        clear hK K hHeld2
        try simp only [Act.put, List.setIfInBounds_toArray, List.set_cons_zero, List.set_cons_succ]
        refine wpAnyH_ready (rs := [11]) (by kernel_rfl) (by simp) ?_
        refine AllReadyH.cons (o := ⟨none, .store 74 (.tmp 9) (.tmp 35), 0, "tape.go:126", #[⟨10, .data⟩, ⟨8, .data⟩, ⟨6, .chain⟩, ⟨0, .phase⟩, ⟨1, .phase⟩, ⟨2, .phase⟩, ⟨3, .phase⟩, ⟨4, .phase⟩, ⟨5, .phase⟩, ⟨6, .phase⟩, ⟨7, .phase⟩, ⟨8, .phase⟩, ⟨9, .textOnly .lateStores⟩, ⟨10, .phase⟩], none⟩) rfl (fun K hK => ?_) AllReadyH.nil
        have S7 : Hid (Sat ((w5.alloc (.cells stepZero 74)).setRow w5.heap.size (stepCells g' (.pointer op) s.link (.slice B s.piece.length C) (.slice cA s.check.length cc) (.slice tA s.trailer.length tc) s.ends)) (stp w5.heap.size g' op s (.slice B s.piece.length C) (.slice cA s.check.length cc) (.slice tA s.trailer.length tc) * (rcP g3 r * (mb 69 g m gc gl sA sc (.slice hA m.p.header.length hc) * (owedP Q' (.pointer op) s.owed * (bytesP (.slice cA s.check.length cc) s.check * (bytesP (.slice tA s.trailer.length tc) s.trailer * (ledP Q' gl m.owed * (sg m sA sc * (Q' * F0)))))))))) := Lib.hid (sat_setRow (n := (stepCells g' (.pointer op) s.link (.slice B s.piece.length C) (.slice cA s.check.length cc) (.slice tA s.trailer.length tc) s.ends)) S6.out)
        have K3 := Lib.hid (rec_facts S7.out.swap)
        refine step_store_row rfl 74 (.tmp 9) (.tmp 35) rfl w5.heap.size (stepCells g' (.pointer op) s.link (.slice B s.piece.length C) (.slice cA s.check.length cc) (.slice tA s.trailer.length tc) s.ends) (by rfl) (by rfl) 74 stepZero S6.out.heap info_step (by rfl) (one_step _ _ _ _ _ _ _ _ _ _ _ _ _) ?_
        refine hK.out _ _ K3.out (fun hHeld2 => ?_)
        clear hK K hHeld
        try simp only [Act.put, List.setIfInBounds_toArray, List.set_cons_zero, List.set_cons_succ]
        refine wpAnyH_take (i := 12) (oi := ⟨some 10, .assign (.tmp 36), 4, "tape.go:126", #[⟨9, .data⟩, ⟨11, .chain⟩, ⟨0, .phase⟩, ⟨1, .phase⟩, ⟨2, .phase⟩, ⟨3, .phase⟩, ⟨4, .phase⟩, ⟨5, .phase⟩, ⟨6, .phase⟩, ⟨7, .phase⟩, ⟨8, .phase⟩, ⟨9, .phase⟩, ⟨10, .phase⟩, ⟨11, .phase⟩], none⟩) (v := ?_) rfl (by kernel_rfl) (by kernel_rfl) (by kernel_rfl) (fun _ _ _ h => h) (Or.inl ⟨by rfl, ?_⟩) (by assumption) ?_
        rotate_left
        · intro w hSw
          try dsimp only at hSw
          go_simp
          try with_reducible rfl
        try simp only [Act.put, List.setIfInBounds_toArray, List.set_cons_zero, List.set_cons_succ]
        refine wpAnyH_done (by kernel_rfl) ?_ _
        clear hHeld2
        go_wp2_with fail
        go_meet
        case rel => exact ⟨_, op, cA, cc, tA, tc, Q', rfl, rfl, X5.out, S7.out.perm (by ac_rfl), (Z5.out.then (Same.of ((Kept.refl (fun _ => False) _).alloc _))).then (same_setRow _ _ _), HCN.out⟩
      · have S5 : Hid (Sat (w4.drew.alloc (.cells stepZero 74)) _) := Lib.hid (S4.out.drew.alloc (.cells stepZero 74))
        have K1 := Lib.hid (rec_facts S5.out.third)
        refine step_alloc rfl 74 rfl (.agg stepZero) (zero_of_info zero_step).1 ?_
        refine hK.out _ _ K1.out (fun hHeld2 => ?_)
        clear hK K hHeld
        try simp only [Act.put, List.setIfInBounds_toArray, List.set_cons_zero, List.set_cons_succ]
        refine wpAnyH_ready (rs := [6]) (by kernel_rfl) (by simp) ?_
        refine AllReadyH.cons (o := ⟨some 34, .call { callee := .value (.func 24), args := #[.tmp 30, .tmp 31, .tmp 32, .tmp 33], argTypes := #[65, 44, 58, 22] }, 75, "tape.go:126", #[⟨2, .data⟩, ⟨3, .data⟩, ⟨4, .data⟩, ⟨5, .data⟩], none⟩) rfl (fun K hK => ?_) AllReadyH.nil
        go_simp
        refine (HADD.out _ (pt w4.heap.size (.cells stepZero 74) * rcP g3 r) (S5.out.perm (by simp only [World.size_drew]; ac_rfl))).mono ?_
        rintro e w6 ⟨op, cA, cc, tA, tc, Q', rfl, x6, s6, z6, hcn⟩
        have S6 : Hid (Sat w6 (pt w4.heap.size (.cells stepZero 74) * (rcP g3 r * (mb 69 g m gc gl sA sc (.slice hA m.p.header.length hc) * (owedP Q' (.pointer op) s.owed * (bytesP (.slice cA s.check.length cc) s.check * (bytesP (.slice tA s.trailer.length tc) s.trailer * (ledP Q' gl m.owed * (sg m sA sc * (Q' * F0)))))))))) := Lib.hid (s6.perm (by ac_rfl))
        have Z6 : Hid (Same w w6) := Lib.hid ((Z4.out.drew.then (Same.of ((Kept.refl (fun _ => False) w4.drew).alloc (.cells stepZero 74)))).then z6)
        have X6 := Lib.hid x6
        have HCN := Lib.hid hcn
        have K2 := Lib.hid (rec_facts S6.out.swap)
        refine hK.out _ _ K2.out (fun hHeld => ?_)
        clear hK K hHeld2 s6 z6 x6 hcn
        try simp only [Act.put, List.setIfInBounds_toArray, List.set_cons_zero, List.set_cons_succ]
        refine wpAnyH_take (i := 7) (oi := ⟨some 27, .move (.tmp 34), 75, "tape.go:126", #[⟨6, .data⟩], none⟩) (v := ?_) rfl (by kernel_rfl) (by kernel_rfl) (by kernel_rfl) (fun _ _ _ h => h) (Or.inl ⟨by rfl, ?_⟩) (by assumption) ?_
        rotate_left
        · intro w hSw
          try dsimp only at hSw
          go_simp
          try with_reducible rfl
        try simp only [Act.put, List.setIfInBounds_toArray, List.set_cons_zero, List.set_cons_succ]
        refine wpAnyH_take (i := 8) (oi := ⟨some 35, .extract (.tmp 27) 0, 74, "tape.go:126", #[⟨7, .data⟩], none⟩) (v := ?_) rfl (by kernel_rfl) (by kernel_rfl) (by kernel_rfl) (fun _ _ _ h => h) (Or.inl ⟨by rfl, ?_⟩) (by assumption) ?_
        rotate_left
        · intro w hSw
          try dsimp only at hSw
          go_simp
          try with_reducible rfl
        try simp only [Act.put, List.setIfInBounds_toArray, List.set_cons_zero, List.set_cons_succ]
        refine wpAnyH_take (i := 9) (oi := ⟨some 36, .extract (.tmp 27) 1, 4, "tape.go:126", #[⟨7, .data⟩, ⟨11, .gcOnly .lateStores⟩], none⟩) (v := ?_) rfl (by kernel_rfl) (by kernel_rfl) (by kernel_rfl) (fun _ _ _ h => h) (Or.inl ⟨by rfl, ?_⟩) (by assumption) ?_
        rotate_left
        · intro w hSw
          try dsimp only at hSw
          go_simp
          try with_reducible rfl
        try simp only [Act.put, List.setIfInBounds_toArray, List.set_cons_zero, List.set_cons_succ]
        refine wpAnyH_ready (rs := [11]) (by kernel_rfl) (by simp) ?_
        refine AllReadyH.cons (o := ⟨none, .store 74 (.tmp 9) (.tmp 35), 0, "tape.go:126", #[⟨10, .data⟩, ⟨8, .data⟩, ⟨6, .chain⟩, ⟨0, .phase⟩, ⟨1, .phase⟩, ⟨2, .phase⟩, ⟨3, .phase⟩, ⟨4, .phase⟩, ⟨5, .phase⟩, ⟨6, .phase⟩, ⟨7, .phase⟩, ⟨8, .phase⟩, ⟨9, .textOnly .lateStores⟩, ⟨10, .phase⟩], none⟩) rfl (fun K hK => ?_) AllReadyH.nil
        have S7 : Hid (Sat (w6.setRow w4.heap.size (stepCells g' (.pointer op) s.link (.slice B s.piece.length C) (.slice cA s.check.length cc) (.slice tA s.trailer.length tc) s.ends)) (stp w4.heap.size g' op s (.slice B s.piece.length C) (.slice cA s.check.length cc) (.slice tA s.trailer.length tc) * (rcP g3 r * (mb 69 g m gc gl sA sc (.slice hA m.p.header.length hc) * (owedP Q' (.pointer op) s.owed * (bytesP (.slice cA s.check.length cc) s.check * (bytesP (.slice tA s.trailer.length tc) s.trailer * (ledP Q' gl m.owed * (sg m sA sc * (Q' * F0)))))))))) := Lib.hid (sat_setRow (n := (stepCells g' (.pointer op) s.link (.slice B s.piece.length C) (.slice cA s.check.length cc) (.slice tA s.trailer.length tc) s.ends)) S6.out)
        have K3 := Lib.hid (rec_facts S7.out.swap)
        refine step_store_row rfl 74 (.tmp 9) (.tmp 35) rfl w4.heap.size (stepCells g' (.pointer op) s.link (.slice B s.piece.length C) (.slice cA s.check.length cc) (.slice tA s.trailer.length tc) s.ends) (by rfl) (by rfl) 74 stepZero S6.out.heap info_step (by rfl) (one_step _ _ _ _ _ _ _ _ _ _ _ _ _) ?_
        refine hK.out _ _ K3.out (fun hHeld2 => ?_)
        clear hK K hHeld
        try simp only [Act.put, List.setIfInBounds_toArray, List.set_cons_zero, List.set_cons_succ]
        refine wpAnyH_take (i := 12) (oi := ⟨some 10, .assign (.tmp 36), 4, "tape.go:126", #[⟨9, .data⟩, ⟨11, .chain⟩, ⟨0, .phase⟩, ⟨1, .phase⟩, ⟨2, .phase⟩, ⟨3, .phase⟩, ⟨4, .phase⟩, ⟨5, .phase⟩, ⟨6, .phase⟩, ⟨7, .phase⟩, ⟨8, .phase⟩, ⟨9, .phase⟩, ⟨10, .phase⟩, ⟨11, .phase⟩], none⟩) (v := ?_) rfl (by kernel_rfl) (by kernel_rfl) (by kernel_rfl) (fun _ _ _ h => h) (Or.inl ⟨by rfl, ?_⟩) (by assumption) ?_
        rotate_left
        · intro w hSw
          try dsimp only at hSw
          go_simp
          try with_reducible rfl
        try simp only [Act.put, List.setIfInBounds_toArray, List.set_cons_zero, List.set_cons_succ]
        refine wpAnyH_done (by kernel_rfl) ?_ _
        clear hHeld2
        go_wp2_with fail
        go_meet
        case rel => exact ⟨_, op, cA, cc, tA, tc, Q', rfl, rfl, X6.out, S7.out.perm (by ac_rfl), Z6.out.then (same_setRow _ _ _), HCN.out⟩
    case rest =>
      rename World => wd
      obtain ⟨g9, op, cA, cc, tA, tc, Q', rfl, rfl, x5, s5, z5, hcn⟩ := hcut
      have S5 := Lib.hid s5
      have Z5 := Lib.hid z5
      have X5 := Lib.hid x5
      have HCN' := Lib.hid hcn
      clear s5 z5 x5 hcn S4 Z4 K0 HADD
      obtain ⟨d8, d9, d10, d11, d12, d13, d14, d15, d16, d17, d18, d19⟩ := mak_facts S5.out.right
      by_cases hbig : fits = false ∨ m.records = 10000
      · obtain rfl := (put_big HE.out HCP.out HS.out hbig).symm.trans HRES.out
        have hfin : PutRes Q R w g m (.error 3) (.returned (.tuple #[.slice none 0 0, .int .i64 3])) wd := by
          refine ⟨rfl, Q', X5.out, ?_, Z5.out⟩
          have h1 := S5.out
          rw [← HF0.out] at h1
          exact wrtP_shut (mkrP_shut ((h1.perm (show _ = stp g9 g' op s (.slice B s.piece.length C) (.slice cA s.check.length cc) (.slice tA s.trailer.length tc) * (owedP Q' (.pointer op) s.owed * (bytesP (.slice cA s.check.length cc) s.check * (bytesP (.slice tA s.trailer.length tc) s.trailer * (bytesP (.slice B s.piece.length C) s.piece * (coderP g' c2 * (rcP g3 r * (mb 69 g m gc gl sA sc (.slice hA m.p.header.length hc) * (ledP Q' gl m.owed * (sg m sA sc * (coderP gc m.coder * (bytesP (.slice hA m.p.header.length hc) m.p.header * (Q' * R)))))))))))) by ac_rfl)).right.right.right.right.right.right.right))
        have HFIN := Lib.hid hfin
        clear hfin
        cases fits with
        | false =>
          clear hbig
          go_wp2_with fail
          go_ret2
          exact HFIN.out
        | true =>
          have e1 : ((m.records : Int) == 10000) = true := by
            rcases hbig with h | h
            · cases h
            · rw [h]; rfl
          clear hbig
          go_wp2_with fail
          go_ret2
          exact HFIN.out
      · have hft : fits = true := by cases fits <;> simp_all
        subst hft
        have hne : m.records ≠ 10000 := fun e => hbig (.inr e)
        have e1 : ((m.records : Int) == 10000) = false := by simp; omega
        have HPF := Lib.hid ((put_fits HE.out HCP.out HS.out hne).symm.trans HRES.out)
        clear hbig hne
        have hcl : s.check.length ≤ 4194304 := by have := adds_true HS.out; omega
        have HCN : Hid (cA = none → cc = 0) := Lib.hid (bytesP_own S5.out.right.right.right).nilcap
        have K0 := Lib.hid (And.intro (rec_facts (S5.out.perm (show _ = rcP g3 r * (stp g9 g' op s (.slice B s.piece.length C) (.slice cA s.check.length cc) (.slice tA s.trailer.length tc) * (mb 69 g m gc gl sA sc (.slice hA m.p.header.length hc) * (owedP Q' (.pointer op) s.owed * (bytesP (.slice cA s.check.length cc) s.check * (bytesP (.slice tA s.trailer.length tc) s.trailer * (ledP Q' gl m.owed * (sg m sA sc * (Q' * F0)))))))) by ac_rfl))) (stp_facts S5.out))
        go_upto_region 8 with (fail)
        refine wp_region_held_drew (S := fun w' => (w'.cell? ⟨g3, 0, none⟩ = some (.int .i64 r.tick) ∧ w'.cell? ⟨g3, 1, none⟩ = some (.string r.key) ∧ w'.cell? ⟨g3, 2, none⟩ = some (.int .i64 r.cost) ∧ w'.cell? ⟨g3, 3, none⟩ = some (.int .i64 r.verdict)) ∧ (w'.cell? ⟨g9, 0, none⟩ = some (.pointer (some ⟨g', 0, none⟩)) ∧ w'.cell? ⟨g9, 1, none⟩ = some (.pointer op) ∧ w'.cell? ⟨g9, 2, none⟩ = some (.int .i64 s.link.number) ∧ w'.cell? ⟨g9, 3, none⟩ = some (.int .i64 s.link.bytes) ∧ w'.cell? ⟨g9, 4, none⟩ = some (.int .i64 s.link.sl.re) ∧ w'.cell? ⟨g9, 5, none⟩ = some (.int .i64 s.link.sl.im) ∧ w'.cell? ⟨g9, 6, none⟩ = some (.slice B s.piece.length C) ∧ w'.cell? ⟨g9, 7, none⟩ = some (.slice cA s.check.length cc) ∧ w'.cell? ⟨g9, 8, none⟩ = some (.slice tA s.trailer.length tc) ∧ w'.cell? ⟨g9, 9, none⟩ = some (.bool s.ends))) (by kernel_rfl) K0.out (fun hHeld => ?_)
        refine wpAnyH_take (i := 0) (oi := ⟨some 47, .move (.tmp 0), 35, "tape.go:130", #[], none⟩) (v := ?_) rfl (by kernel_rfl) (by kernel_rfl) (by kernel_rfl) (fun _ _ _ h => h) (Or.inl ⟨by rfl, ?_⟩) (by assumption) ?_
        rotate_left
        · intro w hSw
          try dsimp only at hSw
          go_simp
          try with_reducible rfl
        try simp only [Act.put, List.setIfInBounds_toArray, List.set_cons_zero, List.set_cons_succ]
        refine wpAnyH_take (i := 1) (oi := ⟨some 48, .nilCheck (.tmp 47), 0, "tape.go:130", #[⟨0, .data⟩], none⟩) (v := ?_) rfl (by kernel_rfl) (by kernel_rfl) (by kernel_rfl) (fun _ _ _ h => h) (Or.inl ⟨by rfl, ?_⟩) (by assumption) ?_
        rotate_left
        · intro w hSw
          try dsimp only at hSw
          go_simp
          try with_reducible rfl
        try simp only [Act.put, List.setIfInBounds_toArray, List.set_cons_zero, List.set_cons_succ]
        refine wpAnyH_take (i := 2) (oi := ⟨some 49, .fieldAddr 69 (.tmp 48) 0, 0, "tape.go:130", #[⟨1, .data⟩], none⟩) (v := ?_) rfl (by kernel_rfl) (by kernel_rfl) (by kernel_rfl) (fun _ _ _ h => h) (Or.inl ⟨by rfl, ?_⟩) (by assumption) ?_
        rotate_left
        · intro w hSw
          try dsimp only at hSw
          go_simp
          try with_reducible rfl
        try simp only [Act.put, List.setIfInBounds_toArray, List.set_cons_zero, List.set_cons_succ]
        refine wpAnyH_take (i := 3) (oi := ⟨some 50, .load 44 (.tmp 3), 44, "tape.go:130", #[], none⟩) (v := ?_) rfl (by kernel_rfl) (by kernel_rfl) (by kernel_rfl) (fun _ _ _ h => h) (Or.inl ⟨by rfl, ?_⟩) (by assumption) ?_
        rotate_left
        · intro w hSw
          try dsimp only at hSw
          go_simp
          try with_reducible rfl
        try simp only [Act.put, List.setIfInBounds_toArray, List.set_cons_zero, List.set_cons_succ]
        refine wpAnyH_take (i := 4) (oi := ⟨some 51, .load 74 (.tmp 9), 74, "tape.go:130", #[], none⟩) (v := ?_) rfl (by kernel_rfl) (by kernel_rfl) (by kernel_rfl) (fun _ _ _ h => h) (Or.inl ⟨by rfl, ?_⟩) (by assumption) ?_
        rotate_left
        · intro w hSw
          try dsimp only at hSw
          go_simp
          try with_reducible rfl
        try simp only [Act.put, List.setIfInBounds_toArray, List.set_cons_zero, List.set_cons_succ]
        refine wpAnyH_ready (rs := [5]) (by kernel_rfl) (by simp) ?_
        refine AllReadyH.cons (o := ⟨some 52, .call { callee := .value (.func 25), args := #[.tmp 49, .tmp 50, .tmp 51], argTypes := #[65, 44, 74] }, 0, "tape.go:130", #[⟨2, .data⟩, ⟨3, .data⟩, ⟨4, .data⟩], none⟩) rfl (fun K hK => ?_) AllReadyH.nil
        go_simp
        refine (done_step 69 wd.drew Q' (stp g9 g' op s (.slice B s.piece.length C) (.slice cA s.check.length cc) (.slice tA s.trailer.length tc) * (rcP g3 r * (bytesP (.slice cA s.check.length cc) s.check * (bytesP (.slice tA s.trailer.length tc) s.trailer * (bytesP (.slice B s.piece.length C) s.piece * (coderP gc m.coder * (bytesP (.slice hA m.p.header.length hc) m.p.header * R))))))) g gc gl g' m r s sA B cA tA op sc C cc tc (.slice hA m.p.header.length hc) HM.out (S5.out.drew.perm (by rw [← HF0.out, HSC.out]; ac_rfl)) (Rv.RdIn.right (Rv.RdIn.right (Rv.RdIn.right (Rv.RdIn.right (Rv.RdIn.left Rv.RdIn.row))))) HNIL.out (Rv.RdIn.right (Rv.RdIn.right (Rv.RdIn.left Rv.RdIn.row))) HCN.out (by omega) (by omega) hst HR.out ht).mono ?_
        rintro e w7 ⟨rfl, Q2, x7, s7, z7⟩
        have S7 : Hid (Sat w7 (stp g9 g' op s (.slice B s.piece.length C) (.slice cA s.check.length cc) (.slice tA s.trailer.length tc) * (rcP g3 r * (mkrP 69 Q2 g (m.done r s) (.slice hA m.p.header.length hc) * (Q2 * (bytesP (.slice cA s.check.length cc) s.check * (bytesP (.slice tA s.trailer.length tc) s.trailer * (bytesP (.slice B s.piece.length C) s.piece * (coderP gc m.coder * (bytesP (.slice hA m.p.header.length hc) m.p.header * R)))))))))) := Lib.hid (s7.perm (by ac_rfl))
        have Z7 := Lib.hid (Z5.out.drew.then z7)
        have X7 := Lib.hid (X5.out.then x7)
        have K1 := Lib.hid (And.intro (rec_facts S7.out.swap) (stp_facts S7.out))
        refine hK.out _ _ K1.out (fun hHeld2 => ?_)
        clear hK K hHeld s7 z7 x7
        try simp only [Act.put, List.setIfInBounds_toArray, List.set_cons_zero, List.set_cons_succ]
        refine wpAnyH_done (by kernel_rfl) ?_ _
        clear hHeld2
        have hw := wrtP_shut (hA := hA) (hc := hc) (m := m.done r s) (S7.out.perm (show _ = mkrP 69 Q2 g (m.done r s) (.slice hA m.p.header.length hc) * (bytesP (.slice hA m.p.header.length hc) m.p.header * (rcP g3 r * (coderP gc m.coder * (bytesP (.slice B s.piece.length C) s.piece * (bytesP (.slice cA s.check.length cc) s.check * (stp g9 g' op s (.slice B s.piece.length C) (.slice cA s.check.length cc) (.slice tA s.trailer.length tc) * (bytesP (.slice tA s.trailer.length tc) s.trailer * (Q2 * R)))))))) by ac_rfl))
        have S8 : Hid (Sat w7 (bytesP (.slice B s.piece.length C) s.piece * (bytesP (.slice cA s.check.length cc) s.check * (stp g9 g' op s (.slice B s.piece.length C) (.slice cA s.check.length cc) (.slice tA s.trailer.length tc) * (bytesP (.slice tA s.trailer.length tc) s.trailer * (wrtP Q2 g (m.done r s) * (Q2 * R))))))) := Lib.hid ((hw.perm (show _ = rcP g3 r * (coderP gc m.coder * (bytesP (.slice B s.piece.length C) s.piece * (bytesP (.slice cA s.check.length cc) s.check * (stp g9 g' op s (.slice B s.piece.length C) (.slice cA s.check.length cc) (.slice tA s.trailer.length tc) * (bytesP (.slice tA s.trailer.length tc) s.trailer * (wrtP Q2 g (m.done r s) * (Q2 * R))))))) by ac_rfl)).right.right)
        clear hw S7 K1 S5 Z5 K0 hn1 ht e1 hpl hst hcl
        have S9 : Hid (Sat (w7.alloc (.cells #[(.slice B s.piece.length C)] 22)) (row 22 (.slice (some ⟨w7.heap.size, 0, none⟩) 1 1) [(.slice B s.piece.length C)] * (bytesP (.slice B s.piece.length C) s.piece * (bytesP (.slice cA s.check.length cc) s.check * (stp g9 g' op s (.slice B s.piece.length C) (.slice cA s.check.length cc) (.slice tA s.trailer.length tc) * (bytesP (.slice tA s.trailer.length tc) s.trailer * (wrtP Q2 g (m.done r s) * (Q2 * R)))))))) := Lib.hid (Rv.Sat.to_row (vs := [(.slice B s.piece.length C)]) (S8.out.alloc (.cells #[(.slice B s.piece.length C)] 22)) rfl (by simp [maxLen]))
        have Z9 : Hid (Same w (w7.alloc (.cells #[(.slice B s.piece.length C)] 22))) := Lib.hid (Z7.out.then (Same.of ((Kept.refl (fun _ => False) w7).alloc _)))
        have M1 : Hid (PutPcs (bytesP (.slice cA s.check.length cc) s.check * (stp g9 g' op s (.slice B s.piece.length C) (.slice cA s.check.length cc) (.slice tA s.trailer.length tc) * (bytesP (.slice tA s.trailer.length tc) s.trailer * (wrtP Q2 g (m.done r s) * (Q2 * R))))) w (w7.alloc (.cells #[(.slice B s.piece.length C)] 22)) (.slice (some ⟨w7.heap.size, 0, none⟩) 1 1) [s.piece]) := Lib.hid (PutPcs.snoc (l := []) (vs := []) (b := s.piece) (y := (.slice B s.piece.length C)) (by
          have h1 : Sat _ (pcsP [] [] * (row 22 (.slice (some ⟨w7.heap.size, 0, none⟩) 1 1) [(.slice B s.piece.length C)] * (bytesP (.slice B s.piece.length C) s.piece * (bytesP (.slice cA s.check.length cc) s.check * (stp g9 g' op s (.slice B s.piece.length C) (.slice cA s.check.length cc) (.slice tA s.trailer.length tc) * (bytesP (.slice tA s.trailer.length tc) s.trailer * (wrtP Q2 g (m.done r s) * (Q2 * R)))))))) := S9.out.one.perm (Rv.star_comm _ _)
          exact h1.swap) Z9.out)
        obtain ⟨nb, hnb⟩ : ∃ b : Bool, (!cA.isNone) = b := ⟨_, rfl⟩
        have hck : (nb = false → s.check = []) ∧ (nb = true → s.check ≠ []) := by
          cases ho : s.owed with
          | none =>
            obtain ⟨h1, h2⟩ := HCN'.out ho
            subst h1
            refine ⟨fun _ => ?_, fun h => by rw [← hnb] at h; cases h⟩
            rw [HSK.out]
            exact check_none (by rw [← HSO.out]; exact ho)
          | some l =>
            have h1 : s.check ≠ [] := by rw [HSK.out]; exact check_some HM.out (by rw [← HSO.out]; exact ho)
            refine ⟨fun h => ?_, fun _ => h1⟩
            have h2 : cA = none := by cases cA <;> simp_all
            subst h2
            have h3 := (bytesP_own S8.out.right).2
            rcases h3 with ⟨_, h4⟩ | ⟨_, _, _, h4, _⟩
            · exact absurd (List.length_eq_zero_iff.1 h4) h1
            · cases h4
        have HCK := Lib.hid hck
        have hn : ∀ w, (binOp .neq 22 (.slice cA s.check.length cc) (.slice none 0 0)).run Tryz.prog w = .ok (.bool nb) w := fun w => by rw [← hnb]; exact run_neq_slice_nil_any w 22 5 cA s.check.length cc 0 0 Tryz.underlying22
        obtain ⟨y0, y1, y2, y3, y4, y5, y6, y7, y8, y9⟩ := stp_facts (S9.out.right.right.right)
        clear hnb hck
        go_upto_if 57 with (fail)
        generalize w7.alloc (.cells #[(.slice B s.piece.length C)] 22) = w8 at *
        generalize w7.heap.size = g11 at *
        go_cut [11] (fun v wx => PutPcs (stp g9 g' op s (.slice B s.piece.length C) (.slice cA s.check.length cc) (.slice tA s.trailer.length tc) * (bytesP (.slice tA s.trailer.length tc) s.trailer * (wrtP Q2 g (m.done r s) * (Q2 * R)))) w wx v ([s.piece] ++ (if s.check = [] then [] else [s.check])))
        case first =>
          cases nb with
          | false =>
            have hc0 := Lib.hid (HCK.out.1 rfl)
            go_wp2_with fail
            go_meet
            case rel =>
              rw [if_pos hc0.out]
              obtain ⟨A1, c1, e1, h1, z1⟩ := M1.out
              exact ⟨A1, c1, e1, h1.drop2, z1⟩
          | true =>
            have hc0 := Lib.hid (HCK.out.2 rfl)
            go_wp2_with (at_builtin; refine sapp_one rfl (.tmp 58) (.tmp 61) 40 22 (.slice none 0 0) 24 rfl Tryz.underlying40 info_bs rfl (by omega) (.slice (some ⟨g11, 0, none⟩) 1 1) [(.slice B s.piece.length C)] (.slice cA s.check.length cc) (by rfl) (by rfl) rfl S9.out (by simp) 2 rfl ?_; intro B1 c1 w9 h9 z9; have S10 := Lib.hid h9; have Z10 := Lib.hid (Z9.out.then z9); clear h9 z9)
            go_meet
            case rel =>
              rw [if_neg hc0.out]
              exact PutPcs.snoc (l := [s.piece]) (vs := [(.slice B s.piece.length C)]) (b := s.check) (y := (.slice cA s.check.length cc)) (A := B1) (c := c1) (by rw [show pcsP [(.slice B s.piece.length C)] [s.piece] = bytesP (.slice B s.piece.length C) s.piece from Rv.star_one _]; exact S10.out) Z10.out
        case rest =>
          rename World => wf
          obtain ⟨A1, c1, rfl, s1, z1⟩ := hcut
          obtain ⟨l1, hl1⟩ : ∃ l, [s.piece] ++ (if s.check = [] then [] else [s.check]) = l := ⟨_, rfl⟩
          rw [hl1] at s1 ⊢
          have S10 := Lib.hid s1
          have Z10 := Lib.hid z1
          have HPF' : Hid (Except.ok (m.done r s, l1 ++ (if s.ends then [s.trailer] else [])) = res) := Lib.hid (by rw [← hl1]; exact HPF.out)
          have hl3 : l1.length ≤ 2 := by rw [← hl1]; split <;> simp
          clear s1 z1 S9 Z9 S8 M1 HCK hn y0 y1 y2 y3 y4 y5 y6 y7 y8 y9 HPF hl1 Z7
          obtain ⟨y0, y1, y2, y3, y4, y5, y6, y7, y8, y9⟩ := stp_facts (S10.out.right)
          have HRES' : Hid (∀ l wx A c, l1 ++ (if s.ends then [s.trailer] else []) = l → Sat wx (piecesP (.slice A l.length c) l * (stp g9 g' op s (.slice B s.piece.length C) (.slice cA s.check.length cc) (.slice tA s.trailer.length tc) * (wrtP Q2 g (m.done r s) * (Q2 * R)))) → Same w wx → PutRes Q R w g m res (.returned (.tuple #[.slice A l.length c, .int .i64 0])) wx) := Lib.hid fun l wx A c hl h z => by
            rw [← HPF'.out, hl]
            exact ⟨A, c, rfl, Q2, X7.out, h.drop2, z⟩
          clear HPF' HRES
          cases he : s.ends with
          | false =>
            rw [he] at y9
            have hfin := HRES'.out l1 wf A1 c1 (by rw [he]; simp) (S10.out.drop3.perm (by ac_rfl)) Z10.out
            have HFIN := Lib.hid hfin
            clear hfin HRES' he
            go_wp2_with fail
            go_ret2
            exact HFIN.out
          | true =>
            rw [he] at y9
            obtain ⟨vs, h1⟩ := piecesP_open S10.out
            have hvl : vs.length = l1.length := pcsP_length h1.right
            have S11 := Lib.hid h1
            have HVL := Lib.hid hvl
            have HE1 := Lib.hid he
            clear h1 hvl he
            go_wp2_with (at_builtin; refine sapp_one rfl (.tmp 65) (.tmp 68) 40 22 (.slice none 0 0) 24 rfl Tryz.underlying40 info_bs rfl (by omega) (.slice A1 l1.length c1) vs (.slice tA s.trailer.length tc) (by rfl) (by rfl) rfl S11.out (by rw [HVL.out]; omega) (l1.length + 1) (by rw [HVL.out]) ?_; intro B2 c2 w9 h9 z9; have S12 := Lib.hid h9; have Z12 := Lib.hid (Z10.out.then z9); clear h9 z9)
            have h12 : Sat w9 (row 22 (.slice B2 (l1 ++ [s.trailer]).length c2) (vs ++ [(.slice tA s.trailer.length tc)]) * (pcsP vs l1 * (bytesP (.slice tA s.trailer.length tc) s.trailer * (stp g9 g' op s (.slice B s.piece.length C) (.slice cA s.check.length cc) (.slice tA s.trailer.length tc) * (wrtP Q2 g (m.done r s) * (Q2 * R)))))) := by
              rw [List.length_append, List.length_singleton]
              exact S12.out.perm (by ac_rfl)
            obtain ⟨A3, c3, e3, h3, _⟩ := PutPcs.snoc (w := w) h12 Z12.out
            injection e3 with e4 e5 e6
            subst e4; subst e6
            have hfin := HRES'.out (l1 ++ [s.trailer]) w9 B2 c2 (by rw [HE1.out]; rfl) h3 Z12.out
            rw [List.length_append, List.length_singleton] at hfin
            go_ret2
            exact hfin
  · have e1 : (m.coder.putE r != 0) = true := by simpa using hE
    have HE := Lib.hid (put_bad hE)
    have HP := Lib.hid (sput_bad w3 _ g' m.coder r S3.out.third hE)
    clear hE
    obtain rfl := HE.out.symm.trans HRES.out
    clear HE HRES
    generalize m.coder.putE r = x at *
    go_wp2_with fail
    refine HP.out.mono ?_
    rintro e w4 ⟨rfl, b4⟩
    have S4 := Lib.hid (S3.out.below b4)
    have Z4 := Lib.hid (Z3.out.then (Rv.Same.below b4))
    clear b4 S3 Z3 HP r0 r1 r2 r3
    go_wp2_with fail
    go_ret2
    refine ⟨rfl, Q, Ext.refl Q, ?_, Z4.out⟩
    exact wrtP_shut (mkrP_shut ((S4.out.perm (show _ = rcP g3 r * (coderP g' m.coder * (mb 69 g m gc gl sA sc (.slice hA m.p.header.length hc) * (ledP Q gl m.owed * (sg m sA sc * (coderP gc m.coder * (bytesP (.slice hA m.p.header.length hc) m.p.header * (Q * R))))))) by ac_rfl)).right.right))
end Go.Proofs.YtcmndglhileeoaaGreat
