/- The walks of package tape: done. -/
import Derived.Test.YtcmndglhileeoaaGreatQTapeC
set_option linter.unusedSimpArgs false
set_option linter.unusedVariables false
namespace Go.Proofs.YtcmndglhileeoaaGreat
open Go.RowKit
open Rv (HP Sat Same pt allOf sat_all RdIn row own)

/-- append of bytes that stand somewhere onto a row of one's own: its run. -/
theorem run_sapp {P : Program} {W : World} {R : HP} (t ty : TypeId)
    (ht : P.underlying t = some (.slice 5)) (hinfo : (P.info? 5).map (fun i => (i.zero, i.size, i.bytes)) = some (some (.int .u8 0), 1, 1))
    (v : Value) (xs news : List UInt8) (A : Option Addr) (n c : Nat) (hn : n = news.length) (HS : Sat W (bytesP v xs * R)) (HR : RdB W A news) (hnone : A = none → c = 0)
    (N : Nat) (hN : xs.length + news.length = N) (hl : N ≤ 140737488355328) :
    ∃ B1 c1 w1, (Builtin.append_ #[t, t] ty #[v, .slice A n c]).run P W = .ok (.slice B1 N c1) w1 ∧ Sat w1 (bytesP (.slice B1 N c1) (xs ++ news) * R) ∧ Same W w1 := by
  subst hn
  subst hN
  obtain ⟨i0, hi, hz0, hz1, hz2⟩ := info_parts' hinfo
  have HO := Rv.Sat.row_own HS
  have hxl : (u8s xs).length = xs.length := u8s_length _
  cases A with
  | some ad =>
    obtain ⟨v1, w1, hr, hown, hg, _, hat⟩ := run_append_own_at (P := P) W 0 t ty 5 i0 (.int .u8 0) 1 1 ht hi hz0 hz1 hz2 rfl (by omega) v xs.length (u8s xs) (by have := HO; unfold OwnV at this; rw [hxl] at this; exact this) ad news.length c (u8s news) (by rw [u8s_length]; omega)
      (fun j u hu => by obtain ⟨ad', e', hc⟩ := HR.toV j u hu; cases e'; exact hc) (u8s_one _) (by simp only [maxLen]; omega) (by omega) (Nat.zero_le _)
    have o1 : OwnV w1 0 5 v1 (u8s xs ++ u8s news) := by unfold OwnV; rw [List.length_append, u8s_length, u8s_length]; exact hown
    obtain ⟨B1, c1, rfl, _, _, _⟩ := o1.shape
    rw [List.length_append, u8s_length, u8s_length] at o1 hat hr
    refine ⟨B1, c1, w1, hr, ?_, Rv.Same.of (Kept.of_grown (S := fun k => v.ownBlock = some k) hg fun k hk _ => hk)⟩
    rw [← u8s_append] at o1
    refine HS.row_turn (Kept.of_grown hg fun k hk _ => hk) o1 (fun k hk => ?_)
    rcases hat with hat | hat
    · exact .inl (hat ▸ hk)
    · rw [hat] at hk
      injection hk with hk
      exact .inr (by omega)
  | none =>
    have h0 : news = [] := by
      cases news with
      | nil => rfl
      | cons u r => obtain ⟨ad', e', _⟩ := HR 0 u rfl; cases e'
    subst h0
    obtain rfl := hnone rfl
    obtain ⟨B1, c1, rfl, _, _, _⟩ := HO.shape
    rw [hxl]
    refine ⟨B1, c1, W, ?_, by rw [List.append_nil]; rw [hxl] at HS; exact HS, Rv.Same.refl W⟩
    have := run_append_owned_none (P := P) (w := W) 0 t ty 5 i0 1 ht hi (.slice B1 (u8s xs).length c1) _ (u8s xs) HO
    rw [hxl] at this
    exact this
/-- The same, as one step of a region that draws. -/
theorem step_sapp {P : Program} {ops : Array Oper} {o : Oper} {a : Act} {W : World} {K : Act → World → Prop} {Q : Exit → Act → World → Prop} {E : Prop} {R : HP} (hgd : o.guard = none) (s x : Operand) (t : TypeId)
    (ho : o.op = .call { callee := .builtin .append, args := #[s, x], argTypes := #[t, t] })
    (ht : P.underlying t = some (.slice 5)) (hinfo : (P.info? 5).map (fun i => (i.zero, i.size, i.bytes)) = some (some (.int .u8 0), 1, 1))
    (v : Value) (xs news : List UInt8) (A : Option Addr) (n c : Nat) (hs : a.eval s = v) (hx : a.eval x = .slice A n c) (hn : n = news.length) (HS : Sat W (bytesP v xs * R)) (HR : RdB W A news) (hnone : A = none → c = 0)
    (N : Nat) (hN : xs.length + news.length = N) (hl : N ≤ 140737488355328)
    (h : ∀ B1 c1 w1, Sat w1 (bytesP (.slice B1 N c1) (xs ++ news) * R) → Same W w1 → K (a.put o.dst (.slice B1 N c1)) w1) :
    if Region.wanted o (yielded ops a.tmps) = true then Oper.wp P o a W K Q else E := by
  have hw : Region.wanted o (yielded ops a.tmps) = true := by simp [Region.wanted, hgd]
  rw [if_pos hw]
  obtain ⟨B1, c1, w1, hr, h1, h2⟩ := run_sapp (P := P) t o.type ht hinfo v xs news A n c hn HS HR hnone N hN hl
  unfold Oper.wp execOp
  simp only [ho, resolve, invoke, builtin, Sem.run_bind, Sem.run_pure, Result.andThen_ok, List.map_toArray, List.map_cons, List.map_nil, hs, hx, hr]
  exact h B1 c1 w1 h1 h2
theorem owedP_yes {w : World} {Q R : HP} {op : Option Addr} {l : Rv.Ledger} (h : Sat w (owedP Q (.pointer op) (some l) * R)) : ∃ g, op = some ⟨g, 0, none⟩ ∧ Sat w (ledP Q g l * R) := by
  obtain ⟨a, b, ⟨g, e, ha⟩, hb, hd, h1, h2⟩ := h.parts
  injection e with e
  exact ⟨g, e, Rv.Sat.of_parts ha hb hd h1 h2⟩
theorem owedP_no {w : World} {Q R : HP} {op : Option Addr} (h : Sat w (owedP Q (.pointer op) none * R)) : op = none ∧ Sat w R := by
  obtain ⟨a, ⟨e, _⟩, _⟩ := h.left
  injection e with e
  exact ⟨e, h.right⟩
/-- Behind the ledger. -/
def DoneMid (T : TypeId) (Q F : HP) (w wx : World) (g gc n z : Nat) (p : Rv.Pol) (lk : Rv.Link) (sv ev : Value) (l : Rv.Ledger) : Prop :=
  ∃ gl' Q', Ext Q Q' ∧ Sat wx (makBox T g p gc gl' lk sv n z ev * (ledP Q' gl' l * (Q' * F))) ∧ Same w wx

set_option maxHeartbeats 4000000 in
set_option maxRecDepth 100000 in
theorem done_any (T : TypeId) (w : World) (Q R : HP) (g gc0 gl gc : Nat) (m : Rv.Maker) (r : Rv.Rec) (s : Rv.Step) (sA pA cA tA op : Option Addr) (sc pc cc tc : Nat) (ev : Value)
    (hm : MOk m) (h : Sat w (makBox T g m.p gc0 gl m.link (.slice sA m.segment.length sc) (m.records) (m.size) ev * (ledP Q gl m.owed * (bytesP (.slice sA m.segment.length sc) m.segment * (owedP Q (.pointer op) s.owed * (Q * R)))))) (hp : RdIn R pA (u8s s.piece)) (hpn : pA = none → pc = 0) (hc : RdIn R cA (u8s s.check)) (hcn : cA = none → cc = 0)
    (hlp : s.piece.length ≤ 4194304) (hlc : s.check.length ≤ 4194304) (hlt : s.trailer.length ≤ 1099511627776) (hr : r.right = 0) (ht : m.coder.tick ≤ r.tick) :
    Calls Tryz.prog 25 #[.pointer (some ⟨g, 0, none⟩), .agg #[.int .i64 r.tick, .string r.key, .int .i64 r.cost, .int .i64 r.verdict], .agg (stepCells gc (.pointer op) s.link (.slice pA s.piece.length pc) (.slice cA s.check.length cc) (.slice tA s.trailer.length tc) s.ends)] w fun e w' =>
      e = .returned (.tuple #[]) ∧ ∃ gl' sv' Q', Ext Q Q' ∧ Sat w' (makBox T g m.p gc gl' (m.done r s).link sv' ((m.done r s).records) ((m.done r s).size) ev * (ledP Q' gl' (m.done r s).owed * (bytesP sv' (m.done r s).segment * (Q' * R)))) ∧ Same w w' := by
  have hn1 := hm.n1
  have hz1 := hm.z1
  have hs1 := hm.s1
  have S0 : Hid (Sat ((w.alloc (.cells #[.int .i64 r.tick, .string r.key, .int .i64 r.cost, .int .i64 r.verdict] 44)).alloc (.cells (stepCells gc (.pointer op) s.link (.slice pA s.piece.length pc) (.slice cA s.check.length cc) (.slice tA s.trailer.length tc) s.ends) 74)) (makBox T g m.p gc0 gl m.link (.slice sA m.segment.length sc) (m.records) (m.size) ev * (pt (w.heap.size + 1) (.cells (stepCells gc (.pointer op) s.link (.slice pA s.piece.length pc) (.slice cA s.check.length cc) (.slice tA s.trailer.length tc) s.ends) 74) * (pt w.heap.size (.cells #[.int .i64 r.tick, .string r.key, .int .i64 r.cost, .int .i64 r.verdict] 44) * (ledP Q gl m.owed * (bytesP (.slice sA m.segment.length sc) m.segment * (owedP Q (.pointer op) s.owed * (Q * R)))))))) := Lib.hid (by
    have := (h.alloc (.cells #[.int .i64 r.tick, .string r.key, .int .i64 r.cost, .int .i64 r.verdict] 44)).alloc (.cells (stepCells gc (.pointer op) s.link (.slice pA s.piece.length pc) (.slice cA s.check.length cc) (.slice tA s.trailer.length tc) s.ends) 74)
    rw [World.size_alloc] at this
    exact this.perm (by ac_rfl))
  have Z0 : Hid (Same w ((w.alloc (.cells #[.int .i64 r.tick, .string r.key, .int .i64 r.cost, .int .i64 r.verdict] 44)).alloc (.cells (stepCells gc (.pointer op) s.link (.slice pA s.piece.length pc) (.slice cA s.check.length cc) (.slice tA s.trailer.length tc) s.ends) 74))) := Lib.hid (Same.of (((Kept.refl (fun _ => False) w).alloc _).alloc _))
  have HM := Lib.hid hm
  have HPI := Lib.hid hp
  have HPN := Lib.hid hpn
  have HCI := Lib.hid hc
  have HCN := Lib.hid hcn
  have HR := Lib.hid hr
  clear h hm hp hpn hc hcn hr
  go_enter Tryz.func25, Tryz.ntmps25
  go_upto_region 1 with (fail)
  generalize ((w.alloc (.cells #[.int .i64 r.tick, .string r.key, .int .i64 r.cost, .int .i64 r.verdict] 44)).alloc (.cells (stepCells gc (.pointer op) s.link (.slice pA s.piece.length pc) (.slice cA s.check.length cc) (.slice tA s.trailer.length tc) s.ends) 74)) = w0 at *
  generalize w.heap.size + 1 = g5 at *
  generalize w.heap.size = g4 at *
  obtain ⟨d8, d9, d10, d11, d12, d13, d14, d15, d16, d17, d18, d19⟩ := mak_facts S0.out
  have f17 : w0.frozen? ⟨g, 17, none⟩ = false := frozen_of S0.out.heap 17
  go_upto_region 2 with (fail)
  have S1 : Hid (Sat (w0.setCell ⟨g, 17, none⟩ (.int .i64 ((m.records : Int) + 1))) (makBox T g m.p gc0 gl m.link (.slice sA m.segment.length sc) (m.records + 1) (m.size) ev * (pt g5 (.cells (stepCells gc (.pointer op) s.link (.slice pA s.piece.length pc) (.slice cA s.check.length cc) (.slice tA s.trailer.length tc) s.ends) 74) * (pt g4 (.cells #[.int .i64 r.tick, .string r.key, .int .i64 r.cost, .int .i64 r.verdict] 44) * (ledP Q gl m.owed * (bytesP (.slice sA m.segment.length sc) m.segment * (owedP Q (.pointer op) s.owed * (Q * R)))))))) := Lib.hid (S0.out.setCell (i := 17) (.int .i64 ((m.records : Int) + 1)))
  have Z1 : Hid (Same w (w0.setCell ⟨g, 17, none⟩ (.int .i64 ((m.records : Int) + 1)))) := Lib.hid (Z0.out.then (Kept.setCell (Kept.refl _ _) _ _ (.inl trivial)))
  clear S0 Z0 f17 d8 d9 d10 d11 d12 d13 d14 d15 d16 d17 d18 d19
  generalize w0.setCell ⟨g, 17, none⟩ (.int .i64 ((m.records : Int) + 1)) = w1 at *
  obtain ⟨d8, d9, d10, d11, d12, d13, d14, d15, d16, d17, d18, d19⟩ := mak_facts S1.out
  obtain ⟨s0, s1, s2, s3, s4, s5, s6, s7, s8, s9⟩ := stp_facts S1.out.right
  have f18 : w1.frozen? ⟨g, 18, none⟩ = false := frozen_of S1.out.heap 18
  go_region
  go_upto_region 3 with (fail)
  have S2 : Hid (Sat (w1.setCell ⟨g, 18, none⟩ (.int .i64 ((m.size : Int) + ((s.piece.length : Int) + (s.check.length : Int) + (s.trailer.length : Int))))).drew (makBox T g m.p gc0 gl m.link (.slice sA m.segment.length sc) (m.records + 1) (m.size + (s.piece.length + s.check.length + s.trailer.length)) ev * (pt g5 (.cells (stepCells gc (.pointer op) s.link (.slice pA s.piece.length pc) (.slice cA s.check.length cc) (.slice tA s.trailer.length tc) s.ends) 74) * (pt g4 (.cells #[.int .i64 r.tick, .string r.key, .int .i64 r.cost, .int .i64 r.verdict] 44) * (ledP Q gl m.owed * (bytesP (.slice sA m.segment.length sc) m.segment * (owedP Q (.pointer op) s.owed * (Q * R)))))))) := Lib.hid (S1.out.setCell (i := 18) (.int .i64 ((m.size : Int) + ((s.piece.length : Int) + (s.check.length : Int) + (s.trailer.length : Int))))).drew
  have Z2 : Hid (Same w (w1.setCell ⟨g, 18, none⟩ (.int .i64 ((m.size : Int) + ((s.piece.length : Int) + (s.check.length : Int) + (s.trailer.length : Int))))).drew) := Lib.hid (Z1.out.then (Kept.setCell (Kept.refl _ _) _ _ (.inl trivial))).drew
  clear S1 Z1 f18 d8 d9 d10 d11 d12 d13 d14 d15 d16 d17 d18 d19 s0 s1 s2 s3 s4 s5 s6 s7 s8 s9
  generalize (w1.setCell ⟨g, 18, none⟩ (.int .i64 ((m.size : Int) + ((s.piece.length : Int) + (s.check.length : Int) + (s.trailer.length : Int))))).drew = w2 at *
  obtain ⟨d8, d9, d10, d11, d12, d13, d14, d15, d16, d17, d18, d19⟩ := mak_facts S2.out
  obtain ⟨s0, s1, s2, s3, s4, s5, s6, s7, s8, s9⟩ := stp_facts S2.out.right
  have f10 : w2.frozen? ⟨g, 10, none⟩ = false := frozen_of S2.out.heap 10
  have f12 : w2.frozen? ⟨g, 12, none⟩ = false := frozen_of S2.out.heap 12
  have f13 : w2.frozen? ⟨g, 13, none⟩ = false := frozen_of S2.out.heap 13
  have f14 : w2.frozen? ⟨g, 14, none⟩ = false := frozen_of S2.out.heap 14
  have f15 : w2.frozen? ⟨g, 15, none⟩ = false := frozen_of S2.out.heap 15
  go_region
  go_upto_region 4 with (fail)
  have S3 : Hid (Sat (((((w2.setCell ⟨g, 10, none⟩ (.pointer (some ⟨gc, 0, none⟩))).setCell ⟨g, 12, none⟩ (.int .i64 s.link.number)).setCell ⟨g, 13, none⟩ (.int .i64 s.link.bytes)).setCell ⟨g, 14, none⟩ (.int .i64 s.link.sl.re)).setCell ⟨g, 15, none⟩ (.int .i64 s.link.sl.im)).drew (makBox T g m.p gc gl s.link (.slice sA m.segment.length sc) (m.records + 1) (m.size + (s.piece.length + s.check.length + s.trailer.length)) ev * (pt g5 (.cells (stepCells gc (.pointer op) s.link (.slice pA s.piece.length pc) (.slice cA s.check.length cc) (.slice tA s.trailer.length tc) s.ends) 74) * (pt g4 (.cells #[.int .i64 r.tick, .string r.key, .int .i64 r.cost, .int .i64 r.verdict] 44) * (ledP Q gl m.owed * (bytesP (.slice sA m.segment.length sc) m.segment * (owedP Q (.pointer op) s.owed * (Q * R)))))))) := Lib.hid (((((S2.out.setCell (i := 10) (.pointer (some ⟨gc, 0, none⟩))).setCell (i := 12) (.int .i64 s.link.number)).setCell (i := 13) (.int .i64 s.link.bytes)).setCell (i := 14) (.int .i64 s.link.sl.re)).setCell (i := 15) (.int .i64 s.link.sl.im)).drew
  have Z3 : Hid (Same w (((((w2.setCell ⟨g, 10, none⟩ (.pointer (some ⟨gc, 0, none⟩))).setCell ⟨g, 12, none⟩ (.int .i64 s.link.number)).setCell ⟨g, 13, none⟩ (.int .i64 s.link.bytes)).setCell ⟨g, 14, none⟩ (.int .i64 s.link.sl.re)).setCell ⟨g, 15, none⟩ (.int .i64 s.link.sl.im)).drew) := Lib.hid (((((Z2.out.then (Kept.setCell (Kept.refl _ _) _ _ (.inl trivial))).then (Kept.setCell (Kept.refl _ _) _ _ (.inl trivial))).then (Kept.setCell (Kept.refl _ _) _ _ (.inl trivial))).then (Kept.setCell (Kept.refl _ _) _ _ (.inl trivial))).then (Kept.setCell (Kept.refl _ _) _ _ (.inl trivial))).drew
  clear S2 Z2 f10 f12 f13 f14 f15 d8 d9 d10 d11 d12 d13 d14 d15 d16 d17 d18 d19 s0 s1 s2 s3 s4 s5 s6 s7 s8 s9
  generalize (((((w2.setCell ⟨g, 10, none⟩ (.pointer (some ⟨gc, 0, none⟩))).setCell ⟨g, 12, none⟩ (.int .i64 s.link.number)).setCell ⟨g, 13, none⟩ (.int .i64 s.link.bytes)).setCell ⟨g, 14, none⟩ (.int .i64 s.link.sl.re)).setCell ⟨g, 15, none⟩ (.int .i64 s.link.sl.im)).drew = w3 at *
  obtain ⟨s0, s1, s2, s3, s4, s5, s6, s7, s8, s9⟩ := stp_facts S3.out.right
  go_upto_if 43 with (fail)
  go_cut [] (fun wx => DoneMid T Q (pt g5 (.cells (stepCells gc (.pointer op) s.link (.slice pA s.piece.length pc) (.slice cA s.check.length cc) (.slice tA s.trailer.length tc) s.ends) 74) * (bytesP (.slice sA m.segment.length sc) m.segment * R)) w wx g gc (m.records + 1) (m.size + (s.piece.length + s.check.length + s.trailer.length)) m.p s.link (.slice sA m.segment.length sc) ev (s.owed.getD (Rv.applyL m.owed r)))
  case first =>
    cases ho : s.owed with
    | none =>
      have S4 := S3.out
      rw [ho] at S4
      obtain ⟨e, S4⟩ := owedP_no (S4.perm (show _ = owedP Q (.pointer op) none * (makBox T g m.p gc gl s.link (.slice sA m.segment.length sc) (m.records + 1) (m.size + (s.piece.length + s.check.length + s.trailer.length)) ev * (pt g5 (.cells (stepCells gc (.pointer op) s.link (.slice pA s.piece.length pc) (.slice cA s.check.length cc) (.slice tA s.trailer.length tc) s.ends) 74) * (pt g4 (.cells #[.int .i64 r.tick, .string r.key, .int .i64 r.cost, .int .i64 r.verdict] 44) * (ledP Q gl m.owed * (bytesP (.slice sA m.segment.length sc) m.segment * (Q * R)))))) by ac_rfl))
      subst e
      have S4 := Lib.hid S4
      have HO := Lib.hid ho
      clear ho
      obtain ⟨d8, d9, d10, d11, d12, d13, d14, d15, d16, d17, d18, d19⟩ := mak_facts S4.out
      have HK0 : Hid (∀ (w' : World) (X : HP), Sat w' (makBox T g m.p gc gl s.link (.slice sA m.segment.length sc) (m.records + 1) (m.size + (s.piece.length + s.check.length + s.trailer.length)) ev * (pt g4 (.cells #[.int .i64 r.tick, .string r.key, .int .i64 r.cost, .int .i64 r.verdict] 44) * X)) → w'.cell? ⟨g, 11, none⟩ = some (.pointer (some ⟨gl, 0, none⟩)) ∧ w'.cell? ⟨g4, 0, none⟩ = some (.int .i64 r.tick) ∧ w'.cell? ⟨g4, 1, none⟩ = some (.string r.key) ∧ w'.cell? ⟨g4, 2, none⟩ = some (.int .i64 r.cost) ∧ w'.cell? ⟨g4, 3, none⟩ = some (.int .i64 r.verdict)) := Lib.hid (fun w' X h => by
        obtain ⟨_, _, _, d11, _, _, _, _, _, _, _, _⟩ := mak_facts h
        have q4 := h.right.heap
        exact ⟨d11, (cells_of q4 0).trans rfl, (cells_of q4 1).trans rfl, (cells_of q4 2).trans rfl, (cells_of q4 3).trans rfl⟩)
      have K0 := Lib.hid (HK0.out _ _ (S4.out.perm (show _ = makBox T g m.p gc gl s.link (.slice sA m.segment.length sc) (m.records + 1) (m.size + (s.piece.length + s.check.length + s.trailer.length)) ev * (pt g4 (.cells #[.int .i64 r.tick, .string r.key, .int .i64 r.cost, .int .i64 r.verdict] 44) * (pt g5 (.cells (stepCells gc (.pointer none) s.link (.slice pA s.piece.length pc) (.slice cA s.check.length cc) (.slice tA s.trailer.length tc) s.ends) 74) * (ledP Q gl m.owed * (bytesP (.slice sA m.segment.length sc) m.segment * (Q * R))))) by ac_rfl)))
      have HAP := Lib.hid (apply_any w3.drew Q (makBox T g m.p gc gl s.link (.slice sA m.segment.length sc) (m.records + 1) (m.size + (s.piece.length + s.check.length + s.trailer.length)) ev * (pt g4 (.cells #[.int .i64 r.tick, .string r.key, .int .i64 r.cost, .int .i64 r.verdict] 44) * (pt g5 (.cells (stepCells gc (.pointer none) s.link (.slice pA s.piece.length pc) (.slice cA s.check.length cc) (.slice tA s.trailer.length tc) s.ends) 74) * (bytesP (.slice sA m.segment.length sc) m.segment * R)))) gl m.owed r (S4.out.drew.perm (by ac_rfl)) HR.out (Int.le_trans HM.out.tk ht))
      clear d8 d9 d10 d11 d12 d13 d14 d15 d16 d17 d18 d19
      go_upto_region 6 with (fail)
      go_region_held3 (fun w' => w'.cell? ⟨g, 11, none⟩ = some (.pointer (some ⟨gl, 0, none⟩)) ∧ w'.cell? ⟨g4, 0, none⟩ = some (.int .i64 r.tick) ∧ w'.cell? ⟨g4, 1, none⟩ = some (.string r.key) ∧ w'.cell? ⟨g4, 2, none⟩ = some (.int .i64 r.cost) ∧ w'.cell? ⟨g4, 3, none⟩ = some (.int .i64 r.verdict))
        (first | exact K0.out | exact KE.out | go_keep)
        (first | (go_at_call 44; refine HAP.out.mono ?_; rintro e w4 ⟨rfl, Q1, x1, s1', z1⟩; have X5 := Lib.hid x1; have S5 : Hid (Sat w4 (makBox T g m.p gc gl s.link (.slice sA m.segment.length sc) (m.records + 1) (m.size + (s.piece.length + s.check.length + s.trailer.length)) ev * (pt g4 (.cells #[.int .i64 r.tick, .string r.key, .int .i64 r.cost, .int .i64 r.verdict] 44) * (ledP Q1 gl (Rv.applyL m.owed r) * (Q1 * (pt g5 (.cells (stepCells gc (.pointer none) s.link (.slice pA s.piece.length pc) (.slice cA s.check.length cc) (.slice tA s.trailer.length tc) s.ends) 74) * (bytesP (.slice sA m.segment.length sc) m.segment * R))))))) := Lib.hid (s1'.perm (by ac_rfl)); have Z5 := Lib.hid (Z3.out.drew.then z1); have KE := Lib.hid (HK0.out _ _ S5.out); clear x1 s1' z1))
      go_wp2_with fail
      go_meet
      case rel =>
        refine ⟨gl, Q1, X5.out, ?_, Z5.out⟩
        rw [HO.out]
        exact S5.out.drop2
    | some l =>
      have S4 := S3.out
      rw [ho] at S4
      obtain ⟨g', e, S4⟩ := owedP_yes (S4.perm (show _ = owedP Q (.pointer op) (some l) * (makBox T g m.p gc gl s.link (.slice sA m.segment.length sc) (m.records + 1) (m.size + (s.piece.length + s.check.length + s.trailer.length)) ev * (pt g5 (.cells (stepCells gc (.pointer op) s.link (.slice pA s.piece.length pc) (.slice cA s.check.length cc) (.slice tA s.trailer.length tc) s.ends) 74) * (pt g4 (.cells #[.int .i64 r.tick, .string r.key, .int .i64 r.cost, .int .i64 r.verdict] 44) * (ledP Q gl m.owed * (bytesP (.slice sA m.segment.length sc) m.segment * (Q * R)))))) by ac_rfl))
      subst e
      have S4 : Hid (Sat w3 (makBox T g m.p gc gl s.link (.slice sA m.segment.length sc) (m.records + 1) (m.size + (s.piece.length + s.check.length + s.trailer.length)) ev * (ledP Q g' l * (pt g5 (.cells (stepCells gc (.pointer (some ⟨g', 0, none⟩)) s.link (.slice pA s.piece.length pc) (.slice cA s.check.length cc) (.slice tA s.trailer.length tc) s.ends) 74) * (pt g4 (.cells #[.int .i64 r.tick, .string r.key, .int .i64 r.cost, .int .i64 r.verdict] 44) * (ledP Q gl m.owed * (bytesP (.slice sA m.segment.length sc) m.segment * (Q * R)))))))) := Lib.hid (S4.perm (by ac_rfl))
      have HO := Lib.hid ho
      clear ho
      obtain ⟨d8, d9, d10, d11, d12, d13, d14, d15, d16, d17, d18, d19⟩ := mak_facts S4.out
      have f11 : w3.frozen? ⟨g, 11, none⟩ = false := frozen_of S4.out.heap 11
      go_wp2_with fail
      go_meet
      case rel =>
        refine ⟨g', Q, Ext.refl Q, ?_, Z3.out.then (Kept.setCell (Kept.refl _ _) _ _ (.inl trivial))⟩
        rw [HO.out]
        show Sat _ (makBox T g m.p gc g' s.link (.slice sA m.segment.length sc) (m.records + 1) (m.size + (s.piece.length + s.check.length + s.trailer.length)) ev * (ledP Q g' l * (Q * (pt g5 (.cells (stepCells gc (.pointer (some ⟨g', 0, none⟩)) s.link (.slice pA s.piece.length pc) (.slice cA s.check.length cc) (.slice tA s.trailer.length tc) s.ends) 74) * (bytesP (.slice sA m.segment.length sc) m.segment * R)))))
        have s5 : Sat (w3.setCell ⟨g, 11, none⟩ (.pointer (some ⟨g', 0, none⟩))) (makBox T g m.p gc g' s.link (.slice sA m.segment.length sc) (m.records + 1) (m.size + (s.piece.length + s.check.length + s.trailer.length)) ev * (ledP Q g' l * (pt g5 (.cells (stepCells gc (.pointer (some ⟨g', 0, none⟩)) s.link (.slice pA s.piece.length pc) (.slice cA s.check.length cc) (.slice tA s.trailer.length tc) s.ends) 74) * (pt g4 (.cells #[.int .i64 r.tick, .string r.key, .int .i64 r.cost, .int .i64 r.verdict] 44) * (ledP Q gl m.owed * (bytesP (.slice sA m.segment.length sc) m.segment * (Q * R))))))) := S4.out.setCell (i := 11) (.pointer (some ⟨g', 0, none⟩))
        exact (s5.perm (show _ = ledP Q gl m.owed * (pt g4 (.cells #[.int .i64 r.tick, .string r.key, .int .i64 r.cost, .int .i64 r.verdict] 44) * (makBox T g m.p gc g' s.link (.slice sA m.segment.length sc) (m.records + 1) (m.size + (s.piece.length + s.check.length + s.trailer.length)) ev * (ledP Q g' l * (Q * (pt g5 (.cells (stepCells gc (.pointer (some ⟨g', 0, none⟩)) s.link (.slice pA s.piece.length pc) (.slice cA s.check.length cc) (.slice tA s.trailer.length tc) s.ends) 74) * (bytesP (.slice sA m.segment.length sc) m.segment * R)))))) by ac_rfl)).right.right
  case rest =>
    rename World => w5
    obtain ⟨gl', Q1, x1, s1', z1⟩ := hcut
    have S6 : Hid (Sat w5 (makBox T g m.p gc gl' s.link (.slice sA m.segment.length sc) (m.records + 1) (m.size + (s.piece.length + s.check.length + s.trailer.length)) ev * (ledP Q1 gl' (s.owed.getD (Rv.applyL m.owed r)) * (Q1 * (pt g5 (.cells (stepCells gc (.pointer op) s.link (.slice pA s.piece.length pc) (.slice cA s.check.length cc) (.slice tA s.trailer.length tc) s.ends) 74) * (bytesP (.slice sA m.segment.length sc) m.segment * R)))))) := Lib.hid s1'
    have Z6 := Lib.hid z1
    have X6 := Lib.hid x1
    clear x1 s1' z1 S3 Z3 s0 s1 s2 s3 s4 s5 s6 s7 s8 s9
    have S7 : Hid (Sat w5 (bytesP (.slice sA m.segment.length sc) m.segment * (pt g5 (.cells (stepCells gc (.pointer op) s.link (.slice pA s.piece.length pc) (.slice cA s.check.length cc) (.slice tA s.trailer.length tc) s.ends) 74) * (makBox T g m.p gc gl' s.link (.slice sA m.segment.length sc) (m.records + 1) (m.size + (s.piece.length + s.check.length + s.trailer.length)) ev * (ledP Q1 gl' (s.owed.getD (Rv.applyL m.owed r)) * (Q1 * R)))))) := Lib.hid (S6.out.perm (by ac_rfl))
    obtain ⟨d8, d9, d10, d11, d12, d13, d14, d15, d16, d17, d18, d19⟩ := mak_facts S6.out
    obtain ⟨s0, s1, s2, s3, s4, s5, s6, s7, s8, s9⟩ := stp_facts S7.out.right
    have f16 : w5.frozen? ⟨g, 16, none⟩ = false := frozen_of S6.out.heap 16
    cases he : s.ends with
    | true =>
      rw [he] at s9
      have HE := Lib.hid he
      clear he
      go_wp2_with fail
      refine bodyPost_ret (v := .tuple #[]) (by simp [results, Tryz.results25, go_sem]) rfl ⟨rfl, gl', .slice none 0 0, Q1, X6.out, ?_, Z6.out.then (Kept.setCell (Kept.refl _ _) _ _ (.inl trivial))⟩
      have hs : (m.done r s).segment = [] := by unfold Rv.Maker.done; simp only [HE.out, if_true]
      rw [hs]
      show Sat _ (makBox T g m.p gc gl' s.link (.slice none 0 0) (m.records + 1) (m.size + (s.piece.length + s.check.length + s.trailer.length)) ev * (ledP Q1 gl' (s.owed.getD (Rv.applyL m.owed r)) * (bytesP (.slice none 0 0) [] * (Q1 * R))))
      have s10 : Sat (w5.setCell ⟨g, 16, none⟩ (.slice none 0 0)) (makBox T g m.p gc gl' s.link (.slice none 0 0) (m.records + 1) (m.size + (s.piece.length + s.check.length + s.trailer.length)) ev * (ledP Q1 gl' (s.owed.getD (Rv.applyL m.owed r)) * (Q1 * (pt g5 (.cells (stepCells gc (.pointer op) s.link (.slice pA s.piece.length pc) (.slice cA s.check.length cc) (.slice tA s.trailer.length tc) s.ends) 74) * (bytesP (.slice sA m.segment.length sc) m.segment * R))))) := S6.out.setCell (i := 16) (.slice none 0 0)
      have s11 := (s10.perm (show _ = bytesP (.slice sA m.segment.length sc) m.segment * (pt g5 (.cells (stepCells gc (.pointer op) s.link (.slice pA s.piece.length pc) (.slice cA s.check.length cc) (.slice tA s.trailer.length tc) s.ends) 74) * (makBox T g m.p gc gl' s.link (.slice none 0 0) (m.records + 1) (m.size + (s.piece.length + s.check.length + s.trailer.length)) ev * (ledP Q1 gl' (s.owed.getD (Rv.applyL m.owed r)) * (Q1 * R)))) by ac_rfl)).right.right
      exact (s11.row_nil 5).perm (show bytesP (.slice none 0 0) [] * _ = _ by ac_rfl)
    | false =>
      rw [he] at s9
      have HE := Lib.hid he
      clear he
      obtain ⟨y1, hy1⟩ : ∃ y, m.segment ++ s.piece = y := ⟨_, rfl⟩
      obtain ⟨y2, hy2⟩ : ∃ y, y1 ++ s.check = y := ⟨_, rfl⟩
      have hl1 : m.segment.length + s.piece.length = y1.length := by rw [← hy1, List.length_append]
      have hl2 : y1.length + s.check.length = y2.length := by rw [← hy2, List.length_append]
      have HY1 := Lib.hid hy1
      have HY2 := Lib.hid hy2
      clear hy1 hy2
      have K0 : Hid ((w5.cell? ⟨g5, 6, none⟩ = some (.slice pA s.piece.length pc)) ∧ w5.cell? ⟨g5, 7, none⟩ = some (.slice cA s.check.length cc)) := Lib.hid ⟨s6, s7⟩
      have S8 : Hid (Sat w5.drew (bytesP (.slice sA m.segment.length sc) m.segment * (pt g5 (.cells (stepCells gc (.pointer op) s.link (.slice pA s.piece.length pc) (.slice cA s.check.length cc) (.slice tA s.trailer.length tc) s.ends) 74) * (makBox T g m.p gc gl' s.link (.slice sA m.segment.length sc) (m.records + 1) (m.size + (s.piece.length + s.check.length + s.trailer.length)) ev * (ledP Q1 gl' (s.owed.getD (Rv.applyL m.owed r)) * (Q1 * R)))))) := Lib.hid S7.out.drew
      go_upto_region 9 with (fail)
      have K0d : Hid (w5.drew.cell? ⟨g5, 6, none⟩ = some (.slice pA s.piece.length pc) ∧ w5.drew.cell? ⟨g5, 7, none⟩ = some (.slice cA s.check.length cc)) := Lib.hid ⟨K0.out.1, K0.out.2⟩
      refine wp_region_held_drew (S := (fun w' => w'.cell? ⟨g5, 6, none⟩ = some (.slice pA s.piece.length pc) ∧ w'.cell? ⟨g5, 7, none⟩ = some (.slice cA s.check.length cc))) (by kernel_rfl) K0d.out (fun hHeld => ?_)
      refine wpAnyH_take (i := 0) (oi := ⟨some 60, .move (.tmp 0), 116, "tape.go:93", #[], none⟩) (v := ?_) rfl (by kernel_rfl) (by kernel_rfl) (by kernel_rfl) (fun _ _ _ h => h) (Or.inl ⟨by rfl, ?_⟩) (by assumption) ?_
      rotate_left
      · intro w hSw
        try dsimp only at hSw
        go_simp
        try with_reducible rfl
      try simp only [Act.put, List.setIfInBounds_toArray, List.set_cons_zero, List.set_cons_succ]
      refine wpAnyH_take (i := 1) (oi := ⟨some 61, .move (.tmp 0), 116, "tape.go:93", #[], none⟩) (v := ?_) rfl (by kernel_rfl) (by kernel_rfl) (by kernel_rfl) (fun _ _ _ h => h) (Or.inl ⟨by rfl, ?_⟩) (by assumption) ?_
      rotate_left
      · intro w hSw
        try dsimp only at hSw
        go_simp
        try with_reducible rfl
      try simp only [Act.put, List.setIfInBounds_toArray, List.set_cons_zero, List.set_cons_succ]
      refine wpAnyH_take (i := 2) (oi := ⟨some 62, .nilCheck (.tmp 61), 0, "tape.go:93", #[⟨1, .data⟩], none⟩) (v := ?_) rfl (by kernel_rfl) (by kernel_rfl) (by kernel_rfl) (fun _ _ _ h => h) (Or.inl ⟨by rfl, ?_⟩) (by assumption) ?_
      rotate_left
      · intro w hSw
        try dsimp only at hSw
        go_simp
        try with_reducible rfl
      try simp only [Act.put, List.setIfInBounds_toArray, List.set_cons_zero, List.set_cons_succ]
      refine wpAnyH_take (i := 3) (oi := ⟨some 63, .fieldAddr 65 (.tmp 62) 4, 0, "tape.go:93", #[⟨2, .data⟩], none⟩) (v := ?_) rfl (by kernel_rfl) (by kernel_rfl) (by kernel_rfl) (fun _ _ _ h => h) (Or.inl ⟨by rfl, ?_⟩) (by assumption) ?_
      rotate_left
      · intro w hSw
        try dsimp only at hSw
        go_simp
        try with_reducible rfl
      try simp only [Act.put, List.setIfInBounds_toArray, List.set_cons_zero, List.set_cons_succ]
      refine wpAnyH_take (i := 5) (oi := ⟨some 65, .fieldAddr 74 (.tmp 5) 3, 0, "tape.go:93", #[], none⟩) (v := ?_) rfl (by kernel_rfl) (by kernel_rfl) (by kernel_rfl) (fun _ _ _ h => h) (Or.inl ⟨by rfl, ?_⟩) (by assumption) ?_
      rotate_left
      · intro w hSw
        try dsimp only at hSw
        go_simp
        try with_reducible rfl
      try simp only [Act.put, List.setIfInBounds_toArray, List.set_cons_zero, List.set_cons_succ]
      refine wpAnyH_take (i := 6) (oi := ⟨some 66, .load 22 (.tmp 65), 22, "tape.go:93", #[⟨5, .data⟩], none⟩) (v := ?_) rfl (by kernel_rfl) (by kernel_rfl) (by kernel_rfl) (fun _ _ _ h => h) (Or.inl ⟨by rfl, ?_⟩) (by assumption) ?_
      rotate_left
      · intro w hSw
        try dsimp only at hSw
        go_simp
        try with_reducible rfl
      try simp only [Act.put, List.setIfInBounds_toArray, List.set_cons_zero, List.set_cons_succ]
      refine wpAnyH_take (i := 8) (oi := ⟨some 68, .fieldAddr 74 (.tmp 5) 4, 0, "tape.go:93", #[], none⟩) (v := ?_) rfl (by kernel_rfl) (by kernel_rfl) (by kernel_rfl) (fun _ _ _ h => h) (Or.inl ⟨by rfl, ?_⟩) (by assumption) ?_
      rotate_left
      · intro w hSw
        try dsimp only at hSw
        go_simp
        try with_reducible rfl
      try simp only [Act.put, List.setIfInBounds_toArray, List.set_cons_zero, List.set_cons_succ]
      refine wpAnyH_take (i := 9) (oi := ⟨some 69, .load 22 (.tmp 68), 22, "tape.go:93", #[⟨8, .data⟩], none⟩) (v := ?_) rfl (by kernel_rfl) (by kernel_rfl) (by kernel_rfl) (fun _ _ _ h => h) (Or.inl ⟨by rfl, ?_⟩) (by assumption) ?_
      rotate_left
      · intro w hSw
        try dsimp only at hSw
        go_simp
        try with_reducible rfl
      try simp only [Act.put, List.setIfInBounds_toArray, List.set_cons_zero, List.set_cons_succ]
      refine wpAnyH_ready (rs := [4]) (by kernel_rfl) (by simp) ?_
      refine AllReadyH.cons (o := ⟨some 64, .load 22 (.tmp 63), 22, "tape.go:93", #[⟨3, .data⟩], none⟩) rfl (fun K hK => ?_) AllReadyH.nil
      go_simp
      refine hK.out _ _ K0d.out (fun hHeld2 => ?_)
      clear hK K hHeld
      try simp only [Act.put, List.setIfInBounds_toArray, List.set_cons_zero, List.set_cons_succ]
      refine wpAnyH_ready (rs := [7]) (by kernel_rfl) (by simp) ?_
      refine AllReadyH.cons (o := ⟨some 67, .call { callee := .builtin .append, args := #[.tmp 64, .tmp 66], argTypes := #[22, 22] }, 22, "tape.go:93", #[⟨4, .data⟩, ⟨6, .data⟩], none⟩) rfl (fun K hK => ?_) AllReadyH.nil
      (refine step_sapp rfl (.tmp 64) (.tmp 66) 22 rfl Tryz.underlying22 infoB (.slice sA m.segment.length sc) m.segment s.piece pA s.piece.length pc (by rfl) (by rfl) rfl S8.out (rdV_u8 (HPI.out _ S8.out.right.right.right.right.right)) HPN.out y1.length hl1 (by omega) ?_; intro B1 k1 w6 h6 z6; rw [HY1.out] at h6; have S9 := Lib.hid h6; have Z9 := Lib.hid (Z6.out.drew.then z6); have K1 : Hid ((w6.cell? ⟨g5, 6, none⟩ = some (.slice pA s.piece.length pc)) ∧ w6.cell? ⟨g5, 7, none⟩ = some (.slice cA s.check.length cc)) := Lib.hid ⟨(stp_facts h6.right).2.2.2.2.2.2.1, (stp_facts h6.right).2.2.2.2.2.2.2.1⟩; clear h6 z6)
      refine hK.out _ _ K1.out (fun hHeld3 => ?_)
      clear hK K hHeld2
      try simp only [Act.put, List.setIfInBounds_toArray, List.set_cons_zero, List.set_cons_succ]
      refine wpAnyH_ready (rs := [10]) (by kernel_rfl) (by simp) ?_
      refine AllReadyH.cons (o := ⟨some 70, .call { callee := .builtin .append, args := #[.tmp 67, .tmp 69], argTypes := #[22, 22] }, 22, "tape.go:93", #[⟨7, .data⟩, ⟨9, .data⟩, ⟨7, .chain⟩], none⟩) rfl (fun K hK => ?_) AllReadyH.nil
      (refine step_sapp rfl (.tmp 67) (.tmp 69) 22 rfl Tryz.underlying22 infoB (.slice B1 y1.length k1) y1 s.check cA s.check.length cc (by rfl) (by rfl) rfl S9.out (rdV_u8 (HCI.out _ S9.out.right.right.right.right.right)) HCN.out y2.length hl2 (by omega) ?_; intro B2 k2 w7 h7 z7; rw [HY2.out] at h7; have SA := Lib.hid h7; have ZA := Lib.hid (Z9.out.then z7); have K2 : Hid ((w7.cell? ⟨g5, 6, none⟩ = some (.slice pA s.piece.length pc)) ∧ w7.cell? ⟨g5, 7, none⟩ = some (.slice cA s.check.length cc)) := Lib.hid ⟨(stp_facts h7.right).2.2.2.2.2.2.1, (stp_facts h7.right).2.2.2.2.2.2.2.1⟩; have dA : w7.cell? ⟨g, 16, none⟩ = some (.slice sA m.segment.length sc) := (mak_facts h7.right.right).2.2.2.2.2.2.2.2.1; have fA : w7.frozen? ⟨g, 16, none⟩ = false := frozen_of h7.right.right.heap 16; have SB : Hid (Sat (w7.setCell ⟨g, 16, none⟩ (.slice B2 y2.length k2)) (makBox T g m.p gc gl' s.link (.slice B2 y2.length k2) (m.records + 1) (m.size + (s.piece.length + s.check.length + s.trailer.length)) ev * (bytesP (.slice B2 y2.length k2) y2 * (pt g5 (.cells (stepCells gc (.pointer op) s.link (.slice pA s.piece.length pc) (.slice cA s.check.length cc) (.slice tA s.trailer.length tc) s.ends) 74) * (ledP Q1 gl' (s.owed.getD (Rv.applyL m.owed r)) * (Q1 * R)))))) := Lib.hid ((h7.perm (show _ = makBox T g m.p gc gl' s.link (.slice sA m.segment.length sc) (m.records + 1) (m.size + (s.piece.length + s.check.length + s.trailer.length)) ev * (bytesP (.slice B2 y2.length k2) y2 * (pt g5 (.cells (stepCells gc (.pointer op) s.link (.slice pA s.piece.length pc) (.slice cA s.check.length cc) (.slice tA s.trailer.length tc) s.ends) 74) * (ledP Q1 gl' (s.owed.getD (Rv.applyL m.owed r)) * (Q1 * R)))) by ac_rfl)).setCell (i := 16) (.slice B2 y2.length k2)); have KE : Hid (((w7.setCell ⟨g, 16, none⟩ (.slice B2 y2.length k2)).cell? ⟨g5, 6, none⟩ = some (.slice pA s.piece.length pc)) ∧ (w7.setCell ⟨g, 16, none⟩ (.slice B2 y2.length k2)).cell? ⟨g5, 7, none⟩ = some (.slice cA s.check.length cc)) := Lib.hid ⟨(stp_facts SB.out.right.right).2.2.2.2.2.2.1, (stp_facts SB.out.right.right).2.2.2.2.2.2.2.1⟩; clear h7 z7)
      refine hK.out _ _ K2.out (fun hHeld4 => ?_)
      clear hK K hHeld3
      try simp only [Act.put, List.setIfInBounds_toArray, List.set_cons_zero, List.set_cons_succ]
      refine wpAnyH_take (i := 11) (oi := ⟨some 71, .nilCheck (.tmp 60), 0, "tape.go:93", #[⟨0, .data⟩, ⟨0, .phase⟩, ⟨1, .phase⟩, ⟨2, .phase⟩, ⟨3, .phase⟩, ⟨4, .phase⟩, ⟨5, .phase⟩, ⟨6, .phase⟩, ⟨7, .phase⟩, ⟨8, .phase⟩, ⟨9, .phase⟩, ⟨10, .phase⟩], none⟩) (v := ?_) rfl (by kernel_rfl) (by kernel_rfl) (by kernel_rfl) (fun _ _ _ h => h) (Or.inl ⟨by rfl, ?_⟩) (by assumption) ?_
      rotate_left
      · intro w hSw
        try dsimp only at hSw
        go_simp
        try with_reducible rfl
      try simp only [Act.put, List.setIfInBounds_toArray, List.set_cons_zero, List.set_cons_succ]
      refine wpAnyH_take (i := 12) (oi := ⟨some 72, .fieldAddr 65 (.tmp 71) 4, 0, "tape.go:93", #[⟨11, .data⟩, ⟨0, .phase⟩, ⟨1, .phase⟩, ⟨2, .phase⟩, ⟨3, .phase⟩, ⟨4, .phase⟩, ⟨5, .phase⟩, ⟨6, .phase⟩, ⟨7, .phase⟩, ⟨8, .phase⟩, ⟨9, .phase⟩, ⟨10, .phase⟩], none⟩) (v := ?_) rfl (by kernel_rfl) (by kernel_rfl) (by kernel_rfl) (fun _ _ _ h => h) (Or.inl ⟨by rfl, ?_⟩) (by assumption) ?_
      rotate_left
      · intro w hSw
        try dsimp only at hSw
        go_simp
        try with_reducible rfl
      try simp only [Act.put, List.setIfInBounds_toArray, List.set_cons_zero, List.set_cons_succ]
      refine wpAnyH_ready (rs := [13]) (by kernel_rfl) (by simp) ?_
      refine AllReadyH.cons (o := ⟨none, .store 22 (.tmp 72) (.tmp 70), 0, "tape.go:93", #[⟨12, .data⟩, ⟨10, .data⟩, ⟨10, .chain⟩, ⟨0, .phase⟩, ⟨1, .phase⟩, ⟨2, .phase⟩, ⟨3, .phase⟩, ⟨4, .phase⟩, ⟨5, .phase⟩, ⟨6, .phase⟩, ⟨7, .phase⟩, ⟨8, .phase⟩, ⟨9, .phase⟩, ⟨10, .phase⟩], none⟩) rfl (fun K hK => ?_) AllReadyH.nil
      go_simp
      refine hK.out _ _ KE.out (fun hHeld5 => ?_)
      clear hK K hHeld4
      try simp only [Act.put, List.setIfInBounds_toArray, List.set_cons_zero, List.set_cons_succ]
      refine wpAnyH_done (by kernel_rfl) ?_ _
      clear hHeld5
      go_wp2_with fail
      refine bodyPost_end (v := .tuple #[]) (by simp [results, Tryz.results25, go_sem]) rfl ⟨rfl, gl', .slice B2 y2.length k2, Q1, X6.out, ?_, ZA.out.then (Kept.setCell (Kept.refl _ _) _ _ (.inl trivial))⟩
      have hs : (m.done r s).segment = y2 := by unfold Rv.Maker.done; simp only [HE.out]; rw [← HY2.out, ← HY1.out]; rfl
      rw [hs]
      exact ((SB.out.perm (show _ = pt g5 (.cells (stepCells gc (.pointer op) s.link (.slice pA s.piece.length pc) (.slice cA s.check.length cc) (.slice tA s.trailer.length tc) s.ends) 74) * (makBox T g m.p gc gl' s.link (.slice B2 y2.length k2) (m.records + 1) (m.size + (s.piece.length + s.check.length + s.trailer.length)) ev * (ledP Q1 gl' (s.owed.getD (Rv.applyL m.owed r)) * (bytesP (.slice B2 y2.length k2) y2 * (Q1 * R)))) by ac_rfl)).right)
end Go.Proofs.YtcmndglhileeoaaGreat
