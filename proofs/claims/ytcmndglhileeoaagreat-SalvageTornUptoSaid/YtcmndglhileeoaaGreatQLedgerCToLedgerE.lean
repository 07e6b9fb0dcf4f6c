/- A part of the proof: its texts in a row: LedgerC, LedgerD, LedgerE. Each text's own remark stands at its head. -/
import Derived.Test.YtcmndglhileeoaaGreatQWindow4ToLedgerB
import Derived.Test.YtcmndglhileeoaaGreatQOwed
/- What a ledger is, as a part of memory; the walks of none and debt. -/
set_option linter.unusedSimpArgs false
set_option linter.unusedVariables false
namespace Go.Proofs.YtcmndglhileeoaaGreat
open Go.RowKit
open Rv (HP Sat Same pt allOf sat_all RdIn row own)

/-! ### windows stay as they should be -/
theorem grid_le (p : Rv.Pol) (t : Int) (hw : 1 ≤ p.width) : 0 ≤ Rv.gridOf p t ∧ Rv.gridOf p t ≤ Rv.gridOf p 1099511627776 := by
  unfold Rv.gridOf
  have h1 := clipN_bd 1099511627776 t (by omega)
  have h2 : Rv.clipN 1099511627776 1099511627776 = 1099511627776 := by unfold Rv.clipN; omega
  rw [h2]
  exact ⟨Int.ediv_nonneg h1.1 (by omega), Int.ediv_le_ediv (by omega) h1.2⟩
theorem SOk.fresh {p : Rv.Pol} (h : p.ok = true) (hk : p.kind = 2) (t : Int) : SOk p (Rv.freshW p t) := by
  obtain ⟨q1, q2, q3, q4⟩ := width_ok h hk
  obtain ⟨g0, g1⟩ := grid_le p t q1
  refine ⟨g0, g1, ?_, fun n hn => ?_⟩
  · unfold Rv.freshW; simp; omega
  · unfold Rv.freshW at hn
    have := List.eq_of_mem_replicate hn
    omega
theorem SOk.move {p : Rv.Pol} {s : Rv.Sums} (hs : SOk p s) (h : p.ok = true) (hk : p.kind = 2) (t : Int) : SOk p (Rv.moveW p s t) := by
  obtain ⟨q1, q2, q3, q4⟩ := width_ok h hk
  obtain ⟨g0, g1⟩ := grid_le p t q1
  by_cases h1 : Rv.gridOf p t ≤ s.grid
  · rw [move_stay hs h1]; exact hs
  · by_cases h2 : p.count ≤ Rv.gridOf p t - s.grid
    · rw [move_far hs (by omega) h2]; exact SOk.fresh h hk t
    · obtain ⟨k, hk'⟩ : ∃ k : Nat, Rv.gridOf p t - s.grid = (k : Int) := ⟨(Rv.gridOf p t - s.grid).toNat, by omega⟩
      rw [move_near hs (by omega) hk' (by omega)]
      refine ⟨g0, g1, ?_, fun n hn => ?_⟩
      · have := hs.len; simp; omega
      · rcases List.mem_append.1 hn with hn | hn
        · exact hs.all n (List.mem_of_mem_drop hn)
        · have := List.eq_of_mem_replicate hn; omega
theorem SOk.take {p : Rv.Pol} {s : Rv.Sums} (hs : SOk p s) (h : p.ok = true) (hk : p.kind = 2) {cost : Int} (hc : Rv.costOk cost = true) : SOk p (Rv.takeW p s cost) := by
  obtain ⟨q1, q2, q3, q4⟩ := width_ok h hk
  have hcb : 1 ≤ cost ∧ cost ≤ 1048576 := by simpa [Rv.costOk, Rv.inB] using hc
  unfold Rv.takeW
  rw [hs.counts]
  refine ⟨hs.g0, hs.g1, by simpa using hs.len, fun n hn => ?_⟩
  rcases List.mem_or_eq_of_mem_set hn with hn | hn
  · exact hs.all n hn
  · have hl := hs.len
    obtain ⟨x, hx⟩ := some_at (xs := s.l) (i := (p.count - 1).toNat) (by omega)
    have hb := hs.all x (List.mem_of_getElem? hx)
    simp only [List.getD, hx, Option.getD_some] at hn
    omega

/-! ### the ledger -/
def EntRel (Q : HP) (p : Rv.Pol) : Option Rv.Debt → Option Value → Prop
  | none, none => True
  | some d, some v => DebtIn Q p v d
  | _, _ => False
theorem EntRel.ext {Q Q' : HP} {p : Rv.Pol} {d : Option Rv.Debt} {v : Option Value} (h : EntRel Q p d v) (e : Ext Q Q') : EntRel Q' p d v := by
  cases d <;> cases v <;> first | exact h | exact DebtIn.ext h e
abbrev ledCells (p : Rv.Pol) (tick : Int) (bm : Nat) : Array Value := #[.int .i64 p.kind, .int .i64 p.cap, .int .i64 p.num, .int .i64 p.den, .int .i64 p.width, .int .i64 p.count, .int .i64 p.keys, .int .i64 p.slots, .int .i64 p.every, .int .i64 p.seg, .int .i64 tick, .map (some bm)]
structure LOk (Q : HP) (l : Rv.Ledger) (es : Array MapEntry) (clock : Nat) : Prop where
  ok : l.p.ok = true
  t0 : 0 ≤ l.tick
  t1 : l.tick ≤ 1099511627776
  fit : Rv.SMap es clock
  rel : ∀ k, EntRel Q l.p (l.of.get? k) (Rv.findE es.toList k)
  sorted : Rv.Sorted l.of
  keys : ∀ e ∈ l.of, 1 ≤ e.1.size ∧ e.1.size ≤ 64
def ledBox (g : Nat) (l : Rv.Ledger) (bm : Nat) : HP := pt g (.cells (ledCells l.p l.tick bm) 156)
def mapBox (bm : Nat) (es : Array MapEntry) (clock : Nat) : HP := pt bm (.map es clock)
def ledP (Q : HP) (g : Nat) (l : Rv.Ledger) : HP := fun h => ∃ bm es clock, LOk Q l es clock ∧ (ledBox g l bm * mapBox bm es clock) h
theorem ledP_open {w : World} {Q R : HP} {g : Nat} {l : Rv.Ledger} (h : Sat w (ledP Q g l * R)) : ∃ bm es clock, LOk Q l es clock ∧ Sat w (ledBox g l bm * (mapBox bm es clock * R)) := by
  obtain ⟨a, b, ⟨bm, es, clock, hl, ha⟩, hb, hd, h1, h2⟩ := h.parts
  exact ⟨bm, es, clock, hl, (Rv.Sat.of_parts ha hb hd h1 h2).perm (Rv.star_assoc _ _ _)⟩
theorem ledP_shut {w : World} {Q R : HP} {g bm : Nat} {l : Rv.Ledger} {es : Array MapEntry} {clock : Nat} (hl : LOk Q l es clock) (h : Sat w (ledBox g l bm * (mapBox bm es clock * R))) : Sat w (ledP Q g l * R) := by
  rw [← Rv.star_assoc] at h
  exact h.imp (fun a ha => ⟨bm, es, clock, hl, ha⟩)
theorem LOk.ext {Q Q' : HP} {l : Rv.Ledger} {es : Array MapEntry} {clock : Nat} (h : LOk Q l es clock) (e : Ext Q Q') : LOk Q' l es clock := ⟨h.ok, h.t0, h.t1, h.fit, fun k => (h.rel k).ext e, h.sorted, h.keys⟩
theorem ledP_ext {w : World} {Q Q' R : HP} {g : Nat} {l : Rv.Ledger} (h : Sat w (ledP Q g l * R)) (e : Ext Q Q') : Sat w (ledP Q' g l * R) := by
  obtain ⟨bm, es, clock, hl, hs⟩ := ledP_open h
  exact ledP_shut (hl.ext e) hs

/-- What none and debt tell. -/
def DebtRes (Q : HP) (L : HP) (R : HP) (p : Rv.Pol) (w : World) (d : Rv.Debt) (e : Ending) (w' : World) : Prop :=
  ∃ v Q', e = .returned v ∧ DebtIn Q' p v d ∧ Ext Q Q' ∧ Sat w' (L * (Q' * R)) ∧ Same w w'
theorem led_cells {w : World} {g bm : Nat} {l : Rv.Ledger} {R : HP} (h : Sat w (ledBox g l bm * R)) : w.heap[g]? = some (.cells (ledCells l.p l.tick bm) 156 (0, 0)) := Rv.Sat.heap h

set_option maxHeartbeats 2000000 in
set_option maxRecDepth 100000 in
theorem none_level (w : World) (Q L R : HP) (g bm : Nat) (l : Rv.Ledger) (h : Sat w (ledBox g l bm * R)) (hk : l.p.kind = 1) :
    Calls Tryz.prog 142 #[.pointer (some ⟨g, 0, none⟩)] w fun e w' => e = .returned (levelV 0) ∧ w = w' := by
  have d0 : w.cell? ⟨g, 0, none⟩ = some (.int .i64 1) := by rw [cells_of (led_cells h)]; show some (Value.int .i64 l.p.kind) = _; rw [hk]
  clear h hk
  go_enter Tryz.func142, Tryz.ntmps142
  go_wp2
  go_ret
  exact ⟨rfl, rfl⟩
theorem led_eleven {w : World} {g bm : Nat} {l : Rv.Ledger} {R : HP} (h : Sat w (ledBox g l bm * R)) : w.cell? ⟨g, 0, none⟩ = some (.int .i64 l.p.kind) ∧ w.cell? ⟨g, 1, none⟩ = some (.int .i64 l.p.cap) ∧ w.cell? ⟨g, 2, none⟩ = some (.int .i64 l.p.num) ∧ w.cell? ⟨g, 3, none⟩ = some (.int .i64 l.p.den) ∧ w.cell? ⟨g, 4, none⟩ = some (.int .i64 l.p.width) ∧ w.cell? ⟨g, 5, none⟩ = some (.int .i64 l.p.count) ∧ w.cell? ⟨g, 6, none⟩ = some (.int .i64 l.p.keys) ∧ w.cell? ⟨g, 7, none⟩ = some (.int .i64 l.p.slots) ∧ w.cell? ⟨g, 8, none⟩ = some (.int .i64 l.p.every) ∧ w.cell? ⟨g, 9, none⟩ = some (.int .i64 l.p.seg) ∧ w.cell? ⟨g, 10, none⟩ = some (.int .i64 l.tick) := by
  have q := led_cells h
  refine ⟨?_, ?_, ?_, ?_, ?_, ?_, ?_, ?_, ?_, ?_, ?_⟩ <;> (rw [cells_of q]; rfl)
theorem led_twelve {w : World} {g bm : Nat} {l : Rv.Ledger} {R : HP} (h : Sat w (ledBox g l bm * R)) : w.cell? ⟨g, 0, none⟩ = some (.int .i64 l.p.kind) ∧ w.cell? ⟨g, 1, none⟩ = some (.int .i64 l.p.cap) ∧ w.cell? ⟨g, 2, none⟩ = some (.int .i64 l.p.num) ∧ w.cell? ⟨g, 3, none⟩ = some (.int .i64 l.p.den) ∧ w.cell? ⟨g, 4, none⟩ = some (.int .i64 l.p.width) ∧ w.cell? ⟨g, 5, none⟩ = some (.int .i64 l.p.count) ∧ w.cell? ⟨g, 6, none⟩ = some (.int .i64 l.p.keys) ∧ w.cell? ⟨g, 7, none⟩ = some (.int .i64 l.p.slots) ∧ w.cell? ⟨g, 8, none⟩ = some (.int .i64 l.p.every) ∧ w.cell? ⟨g, 9, none⟩ = some (.int .i64 l.p.seg) ∧ w.cell? ⟨g, 10, none⟩ = some (.int .i64 l.tick) ∧ w.cell? ⟨g, 11, none⟩ = some (.map (some bm)) := by
  have q := led_cells h
  refine ⟨?_, ?_, ?_, ?_, ?_, ?_, ?_, ?_, ?_, ?_, ?_, ?_⟩ <;> (rw [cells_of q]; rfl)

set_option maxHeartbeats 2000000 in
set_option maxRecDepth 100000 in
theorem none_sums (w : World) (R : HP) (g bm : Nat) (l : Rv.Ledger) (h : Sat w (ledBox g l bm * R)) (hok : l.p.ok = true) (hk : l.p.kind = 2) :
    Calls Tryz.prog 142 #[.pointer (some ⟨g, 0, none⟩)] w fun e w' => ∃ B c', e = .returned (owedV (Rv.freshW l.p l.tick) B c') ∧ Sat w' (intsP (.slice B (Rv.freshW l.p l.tick).l.length c') (Rv.freshW l.p l.tick).l * (ledBox g l bm * R)) ∧ Same w w' := by
  have d0 : w.cell? ⟨g, 0, none⟩ = some (.int .i64 l.p.kind) := by rw [cells_of (led_cells h)]; rfl
  have d1 : (l.p.kind == 1) = false := by rw [hk]; rfl
  have Hok := Lib.hid hok
  have Hk := Lib.hid hk
  have H := Lib.hid h
  have K0 := Lib.hid (led_eleven h)
  clear h hok hk
  go_enter Tryz.func142, Tryz.ntmps142
  go_upto_region 3 with (fail)
  clear d0 d1
  go_region_held3 (fun w' => w'.cell? ⟨g, 0, none⟩ = some (.int .i64 l.p.kind) ∧ w'.cell? ⟨g, 1, none⟩ = some (.int .i64 l.p.cap) ∧ w'.cell? ⟨g, 2, none⟩ = some (.int .i64 l.p.num) ∧ w'.cell? ⟨g, 3, none⟩ = some (.int .i64 l.p.den) ∧ w'.cell? ⟨g, 4, none⟩ = some (.int .i64 l.p.width) ∧ w'.cell? ⟨g, 5, none⟩ = some (.int .i64 l.p.count) ∧ w'.cell? ⟨g, 6, none⟩ = some (.int .i64 l.p.keys) ∧ w'.cell? ⟨g, 7, none⟩ = some (.int .i64 l.p.slots) ∧ w'.cell? ⟨g, 8, none⟩ = some (.int .i64 l.p.every) ∧ w'.cell? ⟨g, 9, none⟩ = some (.int .i64 l.p.seg) ∧ w'.cell? ⟨g, 10, none⟩ = some (.int .i64 l.tick)) (first | exact K1.out | exact K0.out | go_keep)
    (first
      | (go_at_call 156; refine (fresh_any _ l.p l.tick w.drew H.out.drew Hok.out Hk.out).mono ?_; rintro e w2 ⟨B, C, rfl, s2, z2⟩; have S2 := Lib.hid s2; have Z2 := Lib.hid z2; have K1 := Lib.hid (led_eleven S2.out.right); clear s2 z2))
  clear K0 K1 H
  go_wp2_with fail
  go_ret
  exact ⟨B, C, rfl, S2.out, (Same.drew (Same.refl w)).then Z2.out⟩

theorem fresh_debt {Q : HP} {p : Rv.Pol} {t : Int} (h : p.ok = true) (hk : p.kind = 2) {B : Option Addr} {c : Nat} {w : World} {R : HP} (hs : Sat w (intsP (.slice B (Rv.freshW p t).l.length c) (Rv.freshW p t).l * R)) :
    DebtIn (intsP (.slice B (Rv.freshW p t).l.length c) (Rv.freshW p t).l * Q) p (owedV (Rv.freshW p t) B c) (.sums (Rv.freshW p t)) :=
  ⟨hk, SOk.fresh h hk t, B, c, rfl, Rv.RdIn.left Rv.RdIn.row, (Rv.Sat.row_own hs).nilcap⟩

theorem none_any (w : World) (Q M R : HP) (g bm : Nat) (l : Rv.Ledger) (h : Sat w (ledBox g l bm * (M * (Q * R)))) (hok : l.p.ok = true) :
    Calls Tryz.prog 142 #[.pointer (some ⟨g, 0, none⟩)] w (DebtRes Q (ledBox g l bm * M) R l.p w l.none_) := by
  unfold Rv.Ledger.none_
  rcases kind_ok hok with hk | hk
  · rw [if_pos hk]
    refine (none_level w Q M _ g bm l h hk).mono ?_
    rintro e w' ⟨rfl, rfl⟩
    exact ⟨_, Q, rfl, ⟨hk, by omega, by omega, rfl⟩, Ext.refl Q, h.perm (by ac_rfl), Same.refl w⟩
  · rw [if_neg (by omega)]
    refine (none_sums w _ g bm l h hok hk).mono ?_
    rintro e w' ⟨B, c, rfl, s2, z2⟩
    exact ⟨_, _, rfl, fresh_debt hok hk s2, Ext.more _ Q, s2.perm (by ac_rfl), z2⟩

theorem zero_debt (w : World) : (zeroValue 175).run Tryz.prog w = .ok .nilIface w := by kernel_rfl
theorem neq_level (n : Int) (w : World) : (binOp .neq 175 (levelV n) .nilIface).run Tryz.prog w = .ok (.bool true) w := by kernel_rfl
theorem neq_sums (s : Rv.Sums) (A : Option Addr) (c : Nat) (w : World) : (binOp .neq 175 (owedV s A c) .nilIface).run Tryz.prog w = .ok (.bool true) w := by kernel_rfl
theorem neq_nil (w : World) : (binOp .neq 175 .nilIface .nilIface).run Tryz.prog w = .ok (.bool false) w := by kernel_rfl

set_option maxHeartbeats 2000000 in
set_option maxRecDepth 100000 in
theorem debt_any (w : World) (Q R : HP) (g bm : Nat) (l : Rv.Ledger) (es : Array MapEntry) (clock : Nat) (key : ByteArray) (hl : LOk Q l es clock) (h : Sat w (ledBox g l bm * (mapBox bm es clock * (Q * R)))) :
    Calls Tryz.prog 120 #[.pointer (some ⟨g, 0, none⟩), .string key] w (DebtRes Q (ledBox g l bm * mapBox bm es clock) R l.p w (l.debt key)) := by
  have d11 : w.cell? ⟨g, 11, none⟩ = some (.map (some bm)) := by rw [cells_of (led_cells h)]; rfl
  have hb : w.heap[bm]? = some (.map es clock) := Rv.Sat.heap (o := .map es clock) h.right
  have hrun := Rv.run_look (P := Tryz.prog) (t := 154) (k := 9) (e := 175) Tryz.underlying154 Tryz.underlying9 hb hl.fit key zero_debt false
  have hrel := hl.rel key
  have Hok := Lib.hid hl.ok
  have H := Lib.hid h
  cases ho : l.of.get? key with
  | none =>
    cases hf : Rv.findE es.toList key with
    | some v => rw [ho, hf] at hrel; exact hrel.elim
    | none =>
      have HX : Hid (l.debt key = l.none_) := Lib.hid (by unfold Rv.Ledger.debt; rw [ho]; rfl)
      have Hn := Lib.hid (none_any w Q (mapBox bm es clock) R g bm l h hl.ok)
      rw [hf] at hrun
      simp only [Option.getD_none, Bool.false_eq_true, if_false] at hrun
      have hq := neq_nil
      clear hb hrel ho hf hl h
      go_enter Tryz.func120, Tryz.ntmps120
      go_wp2_with fail
      refine Hn.out.mono ?_
      rintro e w2 ⟨v, Q', rfl, h1, h2, h3, h4⟩
      have H1 := Lib.hid h1
      have H2 := Lib.hid h2
      have H3 := Lib.hid h3
      have H4 := Lib.hid h4
      clear h1 h2 h3 h4
      go_wp2_with fail
      go_ret
      rw [HX.out]
      exact ⟨v, Q', rfl, H1.out, H2.out, H3.out, H4.out⟩
  | some d =>
    cases hf : Rv.findE es.toList key with
    | none => rw [ho, hf] at hrel; exact hrel.elim
    | some v =>
      rw [ho, hf] at hrel
      have hd : DebtIn Q l.p v d := hrel
      have HX : Hid (l.debt key = d) := Lib.hid (by unfold Rv.Ledger.debt; rw [ho]; rfl)
      have HD := Lib.hid hd
      rw [hf] at hrun
      simp only [Option.getD_some, Bool.false_eq_true, if_false] at hrun
      clear hb hrel ho hf hl h
      cases d with
      | level n =>
        obtain ⟨_, _, _, rfl⟩ := hd
        have hq := neq_level n
        go_enter Tryz.func120, Tryz.ntmps120
        go_wp2_with fail
        go_ret
        rw [HX.out]
        exact ⟨_, Q, rfl, HD.out, Ext.refl Q, H.out.perm (by ac_rfl), Same.refl w⟩
      | sums s =>
        obtain ⟨_, _, A, c, rfl, _⟩ := hd
        have hq := neq_sums s A c
        go_enter Tryz.func120, Tryz.ntmps120
        go_wp2_with fail
        go_ret
        rw [HX.out]
        exact ⟨_, Q, rfl, HD.out, Ext.refl Q, H.out.perm (by ac_rfl), Same.refl w⟩
end Go.Proofs.YtcmndglhileeoaaGreat

/- The walks of package ledger: Charge. -/
set_option linter.unusedSimpArgs false
set_option linter.unusedVariables false
namespace Go.Proofs.YtcmndglhileeoaaGreat
open Go.RowKit
open Rv (HP Sat Same pt allOf sat_all RdIn row own)

theorem takeB_bd (p : Rv.Pol) (n c : Int) : 0 ≤ Rv.takeB p n c ∧ Rv.takeB p n c ≤ 4611686018427387903 := by unfold Rv.takeB Rv.maxNumber; exact clipN_bd _ _ (by omega)
theorem decay_bd (p : Rv.Pol) (n c : Int) : 0 ≤ Rv.decay p n c ∧ Rv.decay p n c ≤ 4611686018427387903 := by unfold Rv.decay Rv.maxNumber; exact clipN_bd _ _ (by omega)

theorem nil_level (n : Int) (w : World) : (nilAhead 387 244 (.int .i64 n) "reeve/ledger.take").run Tryz.prog w = .ok (some false) w := by kernel_rfl
theorem nil_sums (v : Value) (w : World) : (nilAhead 387 246 v "reeve/ledger.take").run Tryz.prog w = .ok (some false) w := by kernel_rfl
theorem nil_level2 (n : Int) (w : World) : (nilAhead 387 244 (.int .i64 n) "reeve/ledger.later").run Tryz.prog w = .ok (some false) w := by kernel_rfl
theorem nil_sums2 (v : Value) (w : World) : (nilAhead 387 246 v "reeve/ledger.later").run Tryz.prog w = .ok (some false) w := by kernel_rfl

/-- A ledger behind a call, and what it reads. -/
def LedRes (Q R : HP) (w : World) (g : Nat) (l' : Rv.Ledger) (v : Value) (e : Ending) (w' : World) : Prop :=
  e = .returned v ∧ ∃ Q', Ext Q Q' ∧ Sat w' (ledP Q' g l' * (Q' * R)) ∧ Same w w'
theorem sat_setB {w : World} {bm : Nat} {es es' : Array MapEntry} {clock clock' : Nat} {R : HP} (h : Sat w (mapBox bm es clock * R)) : Sat (Rv.setB w bm (.map es' clock')) (mapBox bm es' clock' * R) :=
  Rv.Sat.put (o := .map es clock) h (Rv.setB_same (Rv.Sat.heap (o := .map es clock) h)) (fun k hk => Rv.setB_other hk)
theorem same_setB (w : World) (bm : Nat) (o : Obj) : Same w (Rv.setB w bm o) := (Kept.refl _ _).setB _ _ (.inl trivial)
theorem LOk.put {Q Q' : HP} {l : Rv.Ledger} {es es' : Array MapEntry} {clock clock' : Nat} {key : ByteArray} {d : Rv.Debt} {v : Value} (h : LOk Q l es clock) (e : Ext Q Q') (hk : Rv.keyOk key = true) (hd : DebtIn Q' l.p v d) (fit : Rv.SMap es' clock')
    (hf : ∀ k, Rv.findE es'.toList k = if k = key then some v else Rv.findE es.toList k) : LOk Q' { l with of := l.of.put key d } es' clock' := by
  refine ⟨h.ok, h.t0, h.t1, fit, fun k => ?_, Rv.sorted_put h.sorted key d, fun x hx => ?_⟩
  · show EntRel Q' l.p ((l.of.put key d).get? k) _
    rw [Rv.get_put, hf]
    by_cases hkk : k = key
    · rw [if_pos hkk, if_pos hkk]; exact hd
    · rw [if_neg hkk, if_neg hkk]; exact (h.rel k).ext e
  · rcases Rv.mem_put hx with rfl | hx
    · simpa [Rv.keyOk] using hk
    · exact h.keys x hx
theorem charge_eq {l : Rv.Ledger} {key : ByteArray} {cost : Int} (hk : Rv.keyOk key = true) (hc : Rv.costOk cost = true) : l.charge key cost = { l with of := l.of.put key ((l.debt key).take l.p cost) } := by
  unfold Rv.Ledger.charge Rv.Ledger.chargeE
  rw [hk, hc]; rfl

set_option maxHeartbeats 2000000 in
set_option maxRecDepth 100000 in
theorem charge_level (w : World) (Q R : HP) (g bm : Nat) (l : Rv.Ledger) (es : Array MapEntry) (clock : Nat) (key : ByteArray) (cost : Int) (n : Int) (hl : LOk Q l es clock) (h : Sat w (ledBox g l bm * (mapBox bm es clock * (Q * R))))
    (hk : Rv.keyOk key = true) (hc : Rv.costOk cost = true) (hd : l.debt key = .level n) :
    Calls Tryz.prog 89 #[.pointer (some ⟨g, 0, none⟩), .string key, .int .i64 cost] w (LedRes Q R w g (l.charge key cost) (.int .i64 0)) := by
  have hcb : 1 ≤ cost ∧ cost ≤ 1048576 := by simpa [Rv.costOk, Rv.inB] using hc
  have e1 : decide (cost < 1) = false := by simp; omega
  have e2 : decide (1048576 < cost) = false := by simp; omega
  have HL := Lib.hid hl
  have H := Lib.hid h
  have HK := Lib.hid hk
  have HC := Lib.hid hc
  have HD := Lib.hid hd
  have HE := Lib.hid (charge_eq (l := l) hk hc)
  have K0 := Lib.hid (led_twelve h)
  clear hl h hk hc hd
  go_enter Tryz.func89, Tryz.ntmps89
  go_wp2_with fail
  refine (is_any key true HK.out w).mono ?_
  rintro e w' ⟨rfl, rfl⟩
  go_upto_region 5 with (fail)
  have hm := fun n w => meth_level n w "reeve/ledger.take" _ (.inr (.inr rfl))
  have hnl := nil_level
  go_region_held3 (fun w' => w'.cell? ⟨g, 0, none⟩ = some (.int .i64 l.p.kind) ∧ w'.cell? ⟨g, 1, none⟩ = some (.int .i64 l.p.cap) ∧ w'.cell? ⟨g, 2, none⟩ = some (.int .i64 l.p.num) ∧ w'.cell? ⟨g, 3, none⟩ = some (.int .i64 l.p.den) ∧ w'.cell? ⟨g, 4, none⟩ = some (.int .i64 l.p.width) ∧ w'.cell? ⟨g, 5, none⟩ = some (.int .i64 l.p.count) ∧ w'.cell? ⟨g, 6, none⟩ = some (.int .i64 l.p.keys) ∧ w'.cell? ⟨g, 7, none⟩ = some (.int .i64 l.p.slots) ∧ w'.cell? ⟨g, 8, none⟩ = some (.int .i64 l.p.every) ∧ w'.cell? ⟨g, 9, none⟩ = some (.int .i64 l.p.seg) ∧ w'.cell? ⟨g, 10, none⟩ = some (.int .i64 l.tick) ∧ w'.cell? ⟨g, 11, none⟩ = some (.map (some bm)))
    (first | exact K1.out | exact K0.out | exact KE.out | go_keep)
    (first
      | (go_at_call 120; refine (debt_any w.drew Q R g bm l es clock key HL.out H.out.drew).mono ?_; rw [HD.out]; rintro e w2 ⟨v, Q', rfl, h1, h4, h5, h6⟩; obtain ⟨a1, a2, a3, rfl⟩ := h1; have HN := Lib.hid (And.intro a1 (And.intro a2 a3)); clear a1 a2 a3; have S2 := Lib.hid (h5.perm (Rv.star_assoc _ _ _)); have Z2 := Lib.hid ((Same.drew (Same.refl w)).then h6); have X2 := Lib.hid h4; have K1 := Lib.hid (led_twelve S2.out); clear h4 h5 h6)
      | (go_at_call 204; refine (ltake_any l.p n cost w2 HL.out.ok HN.out.1 HC.out).mono ?_; rintro e w3 ⟨rfl, b3⟩; have S3 := Lib.hid (S2.out.below b3); have Z3 := Lib.hid (Z2.out.then (Rv.Same.below b3)); have XF := Lib.hid X2.out; have HT : Hid (DebtIn Q' l.p (levelV (Rv.takeB l.p n cost)) ((Rv.Debt.level n).take l.p cost)) := Lib.hid ⟨HN.out.1, (takeB_bd _ _ _).1, (takeB_bd _ _ _).2, rfl⟩; clear b3; have K1 := Lib.hid (led_twelve S3.out); obtain ⟨es', clock', hput, fit', find', -⟩ := Rv.run_put (P := Tryz.prog) (w := w3) (t := 154) (k := 9) (e := 175) Tryz.underlying154 Tryz.underlying9 (Rv.Sat.heap (o := .map es clock) S3.out.right) HL.out.fit key (levelV (Rv.takeB l.p n cost)); have FIT := Lib.hid fit'; have FIND := Lib.hid find'; have SE := Lib.hid ((sat_setB (es' := es') (clock' := clock') S3.out.swap).swap); have KE := Lib.hid (led_twelve SE.out); clear fit' find'))
  have ZE : Hid (Same w (Rv.setB w3 bm (.map es' clock'))) := Lib.hid (Z3.out.then (same_setB _ _ _))
  clear K0 K1 KE hput hm hnl
  go_wp2_with fail
  go_ret
  rw [HE.out, HD.out]
  exact ⟨rfl, _, XF.out, ledP_shut (LOk.put HL.out XF.out HK.out HT.out FIT.out FIND.out) SE.out, ZE.out⟩

set_option maxHeartbeats 2000000 in
set_option maxRecDepth 100000 in
theorem charge_sums (w : World) (Q R : HP) (g bm : Nat) (l : Rv.Ledger) (es : Array MapEntry) (clock : Nat) (key : ByteArray) (cost : Int) (n : Rv.Sums) (hl : LOk Q l es clock) (h : Sat w (ledBox g l bm * (mapBox bm es clock * (Q * R))))
    (hk : Rv.keyOk key = true) (hc : Rv.costOk cost = true) (hd : l.debt key = .sums n) :
    Calls Tryz.prog 89 #[.pointer (some ⟨g, 0, none⟩), .string key, .int .i64 cost] w (LedRes Q R w g (l.charge key cost) (.int .i64 0)) := by
  have hcb : 1 ≤ cost ∧ cost ≤ 1048576 := by simpa [Rv.costOk, Rv.inB] using hc
  have e1 : decide (cost < 1) = false := by simp; omega
  have e2 : decide (1048576 < cost) = false := by simp; omega
  have HL := Lib.hid hl
  have H := Lib.hid h
  have HK := Lib.hid hk
  have HC := Lib.hid hc
  have HD := Lib.hid hd
  have HE := Lib.hid (charge_eq (l := l) hk hc)
  have K0 := Lib.hid (led_twelve h)
  clear hl h hk hc hd
  go_enter Tryz.func89, Tryz.ntmps89
  go_wp2_with fail
  refine (is_any key true HK.out w).mono ?_
  rintro e w' ⟨rfl, rfl⟩
  go_upto_region 5 with (fail)
  have hm := fun n w => meth_sums n w "reeve/ledger.take" _ (.inr (.inr rfl))
  have hnl := nil_sums
  go_region_held3 (fun w' => w'.cell? ⟨g, 0, none⟩ = some (.int .i64 l.p.kind) ∧ w'.cell? ⟨g, 1, none⟩ = some (.int .i64 l.p.cap) ∧ w'.cell? ⟨g, 2, none⟩ = some (.int .i64 l.p.num) ∧ w'.cell? ⟨g, 3, none⟩ = some (.int .i64 l.p.den) ∧ w'.cell? ⟨g, 4, none⟩ = some (.int .i64 l.p.width) ∧ w'.cell? ⟨g, 5, none⟩ = some (.int .i64 l.p.count) ∧ w'.cell? ⟨g, 6, none⟩ = some (.int .i64 l.p.keys) ∧ w'.cell? ⟨g, 7, none⟩ = some (.int .i64 l.p.slots) ∧ w'.cell? ⟨g, 8, none⟩ = some (.int .i64 l.p.every) ∧ w'.cell? ⟨g, 9, none⟩ = some (.int .i64 l.p.seg) ∧ w'.cell? ⟨g, 10, none⟩ = some (.int .i64 l.tick) ∧ w'.cell? ⟨g, 11, none⟩ = some (.map (some bm)))
    (first | exact K1.out | exact K0.out | exact KE.out | go_keep)
    (first
      | (go_at_call 120; refine (debt_any w.drew Q R g bm l es clock key HL.out H.out.drew).mono ?_; rw [HD.out]; rintro e w2 ⟨v, Q', rfl, h1, h4, h5, h6⟩; obtain ⟨a1, a2, A, c, rfl, a4, a5⟩ := h1; have HN := Lib.hid (And.intro a1 a2); have HR := Lib.hid a4; have HNil := Lib.hid a5; clear a1 a2 a4 a5; have S2 := Lib.hid (h5.perm (Rv.star_assoc _ _ _)); have Z2 := Lib.hid ((Same.drew (Same.refl w)).then h6); have X2 := Lib.hid h4; have K1 := Lib.hid (led_twelve S2.out); clear h4 h5 h6)
      | (go_at_call 214; refine (stake_any _ l.p n cost A c w2 S2.out (Rv.RdIn.right (Rv.RdIn.right (Rv.RdIn.left HR.out))) HNil.out HN.out.2 HL.out.ok HN.out.1 HC.out).mono ?_; rintro e w3 ⟨B, c', rfl, s3, z3⟩; have S3 : Hid (Sat w3 (ledBox g l bm * (mapBox bm es clock * ((intsP (.slice B (Rv.takeW l.p n cost).l.length c') (Rv.takeW l.p n cost).l * Q') * R)))) := Lib.hid (s3.perm (by ac_rfl)); have Z3 := Lib.hid (Z2.out.then z3); have XF : Hid (Ext Q (intsP (.slice B (Rv.takeW l.p n cost).l.length c') (Rv.takeW l.p n cost).l * Q')) := Lib.hid (X2.out.then (Ext.more _ _)); have HT : Hid (DebtIn (intsP (.slice B (Rv.takeW l.p n cost).l.length c') (Rv.takeW l.p n cost).l * Q') l.p (owedV (Rv.takeW l.p n cost) B c') ((Rv.Debt.sums n).take l.p cost)) := Lib.hid ⟨HN.out.1, HN.out.2.take HL.out.ok HN.out.1 HC.out, B, c', rfl, Rv.RdIn.left Rv.RdIn.row, (Rv.Sat.row_own s3).nilcap⟩; clear s3 z3; have K1 := Lib.hid (led_twelve S3.out); obtain ⟨es', clock', hput, fit', find', -⟩ := Rv.run_put (P := Tryz.prog) (w := w3) (t := 154) (k := 9) (e := 175) Tryz.underlying154 Tryz.underlying9 (Rv.Sat.heap (o := .map es clock) S3.out.right) HL.out.fit key (owedV (Rv.takeW l.p n cost) B c'); have FIT := Lib.hid fit'; have FIND := Lib.hid find'; have SE := Lib.hid ((sat_setB (es' := es') (clock' := clock') S3.out.swap).swap); have KE := Lib.hid (led_twelve SE.out); clear fit' find'))
  have ZE : Hid (Same w (Rv.setB w3 bm (.map es' clock'))) := Lib.hid (Z3.out.then (same_setB _ _ _))
  clear K0 K1 KE hput hm hnl
  go_wp2_with fail
  go_ret
  rw [HE.out, HD.out]
  exact ⟨rfl, _, XF.out, ledP_shut (LOk.put HL.out XF.out HK.out HT.out FIT.out FIND.out) SE.out, ZE.out⟩

theorem charge_any (w : World) (Q R : HP) (g : Nat) (l : Rv.Ledger) (key : ByteArray) (cost : Int) (h : Sat w (ledP Q g l * (Q * R))) (hk : Rv.keyOk key = true) (hc : Rv.costOk cost = true) :
    Calls Tryz.prog 89 #[.pointer (some ⟨g, 0, none⟩), .string key, .int .i64 cost] w (LedRes Q R w g (l.charge key cost) (.int .i64 0)) := by
  obtain ⟨bm, es, clock, hl, hs⟩ := ledP_open h
  cases hd : l.debt key with
  | level n => exact charge_level w Q R g bm l es clock key cost n hl hs hk hc hd
  | sums s => exact charge_sums w Q R g bm l es clock key cost s hl hs hk hc hd
end Go.Proofs.YtcmndglhileeoaaGreat

/- The walks of package ledger: New, Clone. -/
set_option linter.unusedSimpArgs false
set_option linter.unusedVariables false
namespace Go.Proofs.YtcmndglhileeoaaGreat
open Go.RowKit
open Rv (HP Sat Same pt allOf sat_all RdIn row own)

set_option maxHeartbeats 1000000 in
set_option maxRecDepth 100000 in
theorem lnew_ok (R : HP) (p : Rv.Pol) (w : World) (hR : Sat w R) (h : p.ok = true) :
    Calls Tryz.prog 36 #[.agg (polCells p)] w fun e w' => ∃ g, e = .returned (.tuple #[.pointer (some ⟨g, 0, none⟩), .int .i64 0]) ∧ Sat w' (ledP 1 g (Rv.Ledger.new p) * (1 * R)) ∧ Same w w' := by
  have S0 := Lib.hid (hR.alloc (.cells (polCells p) 33))
  have Z0 : Hid (Same w (w.alloc (.cells (polCells p) 33))) := Lib.hid (Same.of (Kept.alloc (Kept.refl (fun _ => False) _) _))
  have Hok := Lib.hid h
  have HR := Lib.hid (right_0 h)
  have hmm := @run_makeMap Tryz.prog
  clear h hR
  go_enter Tryz.func36, Tryz.ntmps36
  go_wp2_with ((with_reducible refine at_slot 5 ?_); refine wpList_load_row rfl 33 (.tmp 1) rfl w.heap.size (by rfl) 33 (polCells p) (0, 0) _ (heap_alloc_new w _) Tryz.underlying33 (by rfl) info_pol ?_)
  refine (pright_any p _).mono ?_
  rintro e w1 ⟨rfl, b1⟩
  rw [HR.out]
  have S1 := Lib.hid (S0.out.below b1)
  have Z1 := Lib.hid (Z0.out.then (Rv.Same.below b1))
  have q1 := Lib.hid S1.out.heap
  have S2 : Hid (Sat ((w1.alloc (.map #[] 0)).alloc (.cells (ledCells p 0 w1.heap.size) 156)) (pt (w1.heap.size + 1) (.cells (ledCells p 0 w1.heap.size) 156) * (pt w1.heap.size (.map #[] 0) * (pt w.heap.size (.cells (polCells p) 33) * R)))) := Lib.hid (by
    have h := (S1.out.alloc (.map #[] 0)).alloc (.cells (ledCells p 0 w1.heap.size) 156)
    rw [World.size_alloc] at h
    exact h)
  have Z2 := Lib.hid (Z1.out.then (Same.of (((Kept.refl (fun _ => False) w1).alloc (.map #[] 0)).alloc (.cells (ledCells p 0 w1.heap.size) 156))))
  clear b1 S0 Z0
  go_wp2_with ((with_reducible refine at_slot 10 ?_); refine wpList_load_row rfl 33 (.tmp 1) rfl w.heap.size (by rfl) 33 (polCells p) (0, 0) _ q1.out Tryz.underlying33 (by rfl) info_pol ?_)
  go_ret2
  refine ⟨_, rfl, ledP_shut (bm := w1.heap.size) (es := #[]) (clock := 0) (l := Rv.Ledger.new p) ⟨Hok.out, by show (0 : Int) ≤ 0; omega, by show (0 : Int) ≤ _; omega, Rv.smap_nil, fun k => trivial, List.Pairwise.nil, fun e he => by cases he⟩ ?_, Z2.out⟩
  rw [Rv.one_star]
  exact S2.out.drop3

set_option maxHeartbeats 1000000 in
set_option maxRecDepth 100000 in
theorem mclone_debt (b : Nat) (es : Array MapEntry) (clock : Nat) (w : World) (hb : w.heap[b]? = some (.map es clock)) :
    Calls Tryz.prog 87 #[.map (some b)] w fun e w' => e = .returned (.map (some w.heap.size)) ∧ w.alloc (.map es clock) = w' := by
  have hq := fun w => eql_map_nil (P := Tryz.prog) w 154 _ _ b Tryz.underlying154
  go_enter Tryz.func87, Tryz.ntmps87
  go_wp2
  rw [run_callFunc_extern Tryz.func115 (by kernel_rfl) (by kernel_rfl) (by kernel_rfl) (e := Extern.MapsClone.clone) (by kernel_rfl), clone_entry w 154 hb]
  simp only [Result.andThen]
  rw [Oper.upon_value]
  go_wp2
  rw [assert_map _ 154 _ _ _ _ Tryz.underlying154]
  simp only [Result.andThen]
  rw [Oper.upon_value]
  go_wp2
  go_ret
  exact ⟨rfl, rfl⟩

set_option maxHeartbeats 2000000 in
set_option maxRecDepth 100000 in
theorem lclone_any (w : World) (Q R : HP) (g : Nat) (l : Rv.Ledger) (h : Sat w (ledP Q g l * R)) :
    Calls Tryz.prog 43 #[.pointer (some ⟨g, 0, none⟩)] w fun e w' => ∃ g', e = .returned (.pointer (some ⟨g', 0, none⟩)) ∧ Sat w' (ledP Q g' l * (ledP Q g l * R)) ∧ Same w w' := by
  obtain ⟨bm, es, clock, hl, hs⟩ := ledP_open h
  have HL := Lib.hid hl
  have H := Lib.hid hs
  have K0 := Lib.hid (led_twelve hs)
  have hb := Lib.hid (Rv.Sat.heap (o := .map es clock) hs.right)
  have S1 := Lib.hid (H.out.drew.alloc (.map es clock))
  have K1 := Lib.hid (led_twelve S1.out.swap)
  have S2 := Lib.hid ((((H.out.alloc (.map es clock)).alloc (.cells (ledCells l.p l.tick w.heap.size) 156))).drew)
  rw [World.size_alloc] at S2
  have K2 := Lib.hid (led_twelve S2.out.third)
  clear h hl hs
  go_enter Tryz.func43, Tryz.ntmps43
  go_upto_region 1 with (fail)
  go_region_held3 (fun w' => w'.cell? ⟨g, 0, none⟩ = some (.int .i64 l.p.kind) ∧ w'.cell? ⟨g, 1, none⟩ = some (.int .i64 l.p.cap) ∧ w'.cell? ⟨g, 2, none⟩ = some (.int .i64 l.p.num) ∧ w'.cell? ⟨g, 3, none⟩ = some (.int .i64 l.p.den) ∧ w'.cell? ⟨g, 4, none⟩ = some (.int .i64 l.p.width) ∧ w'.cell? ⟨g, 5, none⟩ = some (.int .i64 l.p.count) ∧ w'.cell? ⟨g, 6, none⟩ = some (.int .i64 l.p.keys) ∧ w'.cell? ⟨g, 7, none⟩ = some (.int .i64 l.p.slots) ∧ w'.cell? ⟨g, 8, none⟩ = some (.int .i64 l.p.every) ∧ w'.cell? ⟨g, 9, none⟩ = some (.int .i64 l.p.seg) ∧ w'.cell? ⟨g, 10, none⟩ = some (.int .i64 l.tick) ∧ w'.cell? ⟨g, 11, none⟩ = some (.map (some bm)))
    (first | exact K0.out | exact K1.out | exact K2.out | go_keep)
    (first
      | (go_at_call 87; refine (mclone_debt bm es clock w.drew hb.out).mono ?_; rintro e w2 ⟨rfl, rfl⟩))
  have Z2 : Hid (Same w ((w.alloc (.map es clock)).alloc (.cells (ledCells l.p l.tick w.heap.size) 156)).drew) := Lib.hid ((Same.of (((Kept.refl (fun _ => False) w).alloc _).alloc _)).drew)
  clear K0 K1 K2 S1 hb
  go_wp2_with fail
  go_ret
  refine ⟨w.heap.size + 1, rfl, ledP_shut (bm := w.heap.size) HL.out ?_, Z2.out⟩
  have h1 : Sat _ (ledBox g l bm * (mapBox bm es clock * (ledBox (w.heap.size + 1) l w.heap.size * (mapBox w.heap.size es clock * R)))) := S2.out.perm (by unfold ledBox mapBox; ac_rfl)
  have h2 := ledP_shut HL.out h1
  exact h2.perm (by ac_rfl)
end Go.Proofs.YtcmndglhileeoaaGreat
