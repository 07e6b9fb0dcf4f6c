/- A part of the proof: its texts in a row: LedgerF, LedgerG. Each text's own remark stands at its head. -/
import Derived.Test.YtcmndglhileeoaaGreatQLedgerCToLedgerE
import Derived.Test.YtcmndglhileeoaaGreatQMap2
/- What stands while a ledger is moved: the plain part of the walk of Move. -/
set_option linter.unusedSimpArgs false
set_option linter.unusedVariables false
namespace Go.Proofs.YtcmndglhileeoaaGreat
open Go.RowKit
open Rv (HP Sat Same pt allOf sat_all RdIn row own findE SMap)

/-- What is owed behind the move. -/
def mvO (l : Rv.Ledger) (tick : Int) (k : ByteArray) : Option Rv.Debt := match l.of.get? k with
  | none => none
  | some d => if (d.later l.p l.tick tick).owes then some (d.later l.p l.tick tick) else none
structure MvInv (Q : HP) (l : Rv.Ledger) (tick : Int) (es0 : Array MapEntry) (clock : Nat) (es : Array MapEntry) (seen : Array Nat) : Prop where
  fit : SMap es clock
  old : ∀ y ∈ es.toList, y.born ∉ seen.toList → y ∈ es0.toList
  rel : ∃ D : ByteArray → Prop, (∀ y ∈ es.toList, ∀ k, y.key = .string k → (y.born ∈ seen.toList ↔ D k)) ∧
    ∀ k, (D k → EntRel Q l.p (mvO l tick k) (findE es.toList k)) ∧ (¬ D k → EntRel Q l.p (l.of.get? k) (findE es.toList k))
theorem MvInv.ext {Q Q' : HP} {l : Rv.Ledger} {tick : Int} {es0 es : Array MapEntry} {clock : Nat} {seen : Array Nat} (h : MvInv Q l tick es0 clock es seen) (e : Ext Q Q') : MvInv Q' l tick es0 clock es seen := by
  obtain ⟨h1, h2, D, h3, h4⟩ := h
  exact ⟨h1, h2, D, h3, fun k => ⟨fun hd => ((h4 k).1 hd).ext e, fun hd => ((h4 k).2 hd).ext e⟩⟩
theorem MvInv.begin {Q : HP} {l : Rv.Ledger} {tick : Int} {es : Array MapEntry} {clock : Nat} (h : LOk Q l es clock) : MvInv Q l tick es clock es #[] :=
  ⟨h.fit, fun y hy _ => hy, fun _ => False, fun y hy k hk => by simp, fun k => ⟨fun h => h.elim, fun _ => h.rel k⟩⟩
theorem MvInv.end_ {Q : HP} {l : Rv.Ledger} {tick : Int} {es0 es : Array MapEntry} {clock : Nat} {seen : Array Nat} (h : MvInv Q l tick es0 clock es seen) (ha : ∀ x ∈ es.toList, x.born ∈ seen.toList) (k : ByteArray) : EntRel Q l.p (mvO l tick k) (findE es.toList k) := by
  obtain ⟨h1, h2, D, h3, h4⟩ := h
  by_cases hd : D k
  · exact (h4 k).1 hd
  · have hr := (h4 k).2 hd
    cases hf : findE es.toList k with
    | some v =>
      obtain ⟨y, hy, hk, -⟩ := Rv.findE_some hf
      exact absurd ((h3 y hy k hk).1 (ha y hy)) hd
    | none =>
      rw [hf] at hr
      cases hg : l.of.get? k with
      | none => unfold mvO; rw [hg]; trivial
      | some d => rw [hg] at hr; exact hr.elim
/-- The entry that has come. -/
theorem MvInv.at_ {Q : HP} {l : Rv.Ledger} {tick : Int} {es0 es : Array MapEntry} {clock : Nat} {seen : Array Nat} (h : MvInv Q l tick es0 clock es seen) {x : MapEntry} (hx : x ∈ es.toList) (hs : x.born ∉ seen.toList) :
    ∃ k d, x.key = .string k ∧ l.of.get? k = some d ∧ DebtIn Q l.p x.val d := by
  obtain ⟨h1, h2, D, h3, h4⟩ := h
  obtain ⟨k, hk⟩ := h1.keys x hx
  have hd : ¬ D k := fun e => hs ((h3 x hx k hk).2 e)
  have hr := (h4 k).2 hd
  rw [Rv.findE_of h1.nodup hx hk] at hr
  cases hg : l.of.get? k with
  | none => rw [hg] at hr; exact hr.elim
  | some d => rw [hg] at hr; exact ⟨k, d, hk, hg, hr⟩
theorem MvInv.step {Q : HP} {l : Rv.Ledger} {tick : Int} {es0 es es' : Array MapEntry} {clock : Nat} {seen : Array Nat} (h : MvInv Q l tick es0 clock es seen) {x : MapEntry} (hx : x ∈ es.toList) {k0 : ByteArray} (hk0 : x.key = .string k0)
    (ov : Option Value) (hv : EntRel Q l.p (mvO l tick k0) ov) (fit : SMap es' clock) (hf : ∀ k, findE es'.toList k = if k = k0 then ov else findE es.toList k)
    (hm : ∀ y ∈ es'.toList, (y.born = x.born ∧ y.key = .string k0) ∨ (y ∈ es.toList ∧ y.key ≠ .string k0)) : MvInv Q l tick es0 clock es' (seen.push x.born) := by
  obtain ⟨h1, h2, D, h3, h4⟩ := h
  refine ⟨fit, fun y hy hs => ?_, fun k => D k ∨ k = k0, fun y hy k hk => ?_, fun k => ⟨fun hd => ?_, fun hd => ?_⟩⟩
  · rw [Array.toList_push, List.mem_append, List.mem_singleton] at hs
    rcases hm y hy with ⟨hb, _⟩ | ⟨hm, _⟩
    · exact absurd (.inr hb) hs
    · exact h2 y hm (fun e => hs (.inl e))
  · rw [Array.toList_push, List.mem_append, List.mem_singleton]
    rcases hm y hy with ⟨hb, hk'⟩ | ⟨hm, hk'⟩
    · have : k = k0 := by rw [hk] at hk'; injection hk'
      exact ⟨fun _ => .inr this, fun _ => .inr hb⟩
    · have hne : k ≠ k0 := fun e => hk' (by rw [hk, e])
      have hnb : y.born ≠ x.born := fun e => hk' (by rw [Rv.entry_born h1.born hm hx e]; exact hk0)
      constructor
      · rintro (h | h)
        · exact .inl ((h3 y hm k hk).1 h)
        · exact absurd h hnb
      · rintro (h | h)
        · exact .inl ((h3 y hm k hk).2 h)
        · exact absurd h hne
  · rw [hf]
    by_cases hkk : k = k0
    · rw [if_pos hkk, hkk]; exact hv
    · rw [if_neg hkk]; exact (h4 k).1 (hd.resolve_right hkk)
  · rw [hf]
    have hkk : k ≠ k0 := fun e => hd (.inr e)
    rw [if_neg hkk]
    exact (h4 k).2 (fun e => hd (.inl e))

theorem move_eq {l : Rv.Ledger} {tick : Int} (h : l.tick ≤ tick) (h1 : tick ≤ 1099511627776) : l.move tick = { l with tick := tick, of := (l.of.map fun e => (e.1, e.2.later l.p l.tick tick)).filter fun e => e.2.owes } := by
  unfold Rv.Ledger.move Rv.Ledger.moveE
  rw [if_neg]
  rw [if_neg (by omega)]; simp
theorem LOk.move {Q : HP} {l : Rv.Ledger} {tick : Int} {es0 es : Array MapEntry} {clock c0 : Nat} {seen : Array Nat} (hl : LOk Q l es0 c0) (h : MvInv Q l tick es0 clock es seen) (ha : ∀ x ∈ es.toList, x.born ∈ seen.toList) (h0 : l.tick ≤ tick) (h1 : tick ≤ 1099511627776) :
    LOk Q (l.move tick) es clock := by
  rw [move_eq h0 h1]
  refine ⟨hl.ok, by show 0 ≤ tick; have := hl.t0; omega, h1, h.fit, fun k => ?_, Rv.sorted_move hl.sorted _, fun x hx => ?_⟩
  · have := h.end_ ha k
    show EntRel Q l.p (Rv.Owed.get? _ k) _
    rw [Rv.get_move hl.sorted]
    exact this
  · have hx' := (List.mem_filter.1 hx).1
    obtain ⟨y, hy, rfl⟩ := List.mem_map.1 hx'
    exact hl.keys y hy

/-- How many are still to come: of those that there were. -/
def toCome (es0 : Array MapEntry) (gi : Nat) (w : World) : Nat := match w.heap[gi]? with
  | some (.mapIter _ _ seen _) => es0.toList.countP fun e => !seen.toList.contains e.born
  | _ => 0
theorem toCome_lt {es0 : Array MapEntry} {gi : Nat} {w w' : World} {m m' : Option Nat} {s s' c c' : Nat} {seen : Array Nat} {x : MapEntry} (h : w.heap[gi]? = some (.mapIter m s seen c)) (h' : w'.heap[gi]? = some (.mapIter m' s' (seen.push x.born) c')) (hx : x ∈ es0.toList) (hs : x.born ∉ seen.toList) : toCome es0 gi w' < toCome es0 gi w := by
  unfold toCome
  rw [h, h']
  refine Rv.countP_lt hx (by simpa using hs) (by simp) (fun y hy => ?_)
  simp only [Array.toList_push, Bool.not_eq_true', List.contains_eq_mem, List.mem_append, List.mem_singleton, decide_eq_false_iff_not, not_or] at hy ⊢
  exact hy.1
end Go.Proofs.YtcmndglhileeoaaGreat

/- The walk of package ledger: Move. -/
set_option linter.unusedSimpArgs false
set_option linter.unusedVariables false
namespace Go.Proofs.YtcmndglhileeoaaGreat
open Go.RowKit
open Rv (HP Sat Same pt allOf sat_all RdIn row own findE SMap)

/-- An arm's gate: a call whose result is dropped. -/
theorem at_nocall {P : Program} {ops : Array Oper} {rest : List Oper} {a : Act} {Q : Exit → Act → World → Prop} {c : Call} {ty : TypeId} {pos : String} {after : Array Edge} {g : Option (Nat × Bool)} {W : World} (h : wpList P ops Q (⟨none, .call c, ty, pos, after, g⟩ :: rest) a W) : wpList P ops Q (⟨none, .call c, ty, pos, after, g⟩ :: rest) a W := h
/-- What stands in the loop of Move. -/
def MvMid (Q R : HP) (w wr : World) (g bm gi : Nat) (l : Rv.Ledger) (tick : Int) (es0 : Array MapEntry) (clock : Nat) : Prop :=
  ∃ Q' es seen, Ext Q Q' ∧ MvInv Q' l tick es0 clock es seen ∧ Sat wr (ledBox g l bm * (mapBox bm es clock * (pt gi (.mapIter (some bm) clock seen clock) * (Q' * R)))) ∧ Same w wr

set_option maxHeartbeats 4000000 in
set_option maxRecDepth 100000 in
theorem lmove_any (w : World) (Q R : HP) (g : Nat) (l : Rv.Ledger) (tick : Int) (h : Sat w (ledP Q g l * (Q * R))) (h0 : l.tick ≤ tick) (h1 : tick ≤ 1099511627776) :
    Calls Tryz.prog 88 #[.pointer (some ⟨g, 0, none⟩), .int .i64 tick] w (LedRes Q R w g (l.move tick) (.int .i64 0)) := by
  obtain ⟨bm, es0, clock, hl, hs⟩ := ledP_open h
  have ht0 := hl.t0
  have ht1 := hl.t1
  have e1 : decide (tick < l.tick) = false := by simp; omega
  have e2 : decide (1099511627776 < tick) = false := by simp; omega
  obtain ⟨_, _, _, _, _, _, _, _, _, _, d10, d11⟩ := led_twelve hs
  have HL := Lib.hid hl
  have H := Lib.hid hs
  have hb := Rv.Sat.heap (o := .map es0 clock) hs.right
  have hrg := run_range_map (P := Tryz.prog) w 154 _ _ bm es0 clock Tryz.underlying154 hb
  have M0 : Hid (MvMid Q R w (w.alloc (.mapIter (some bm) clock #[] clock)) g bm w.heap.size l tick es0 clock) := Lib.hid ⟨Q, es0, #[], Ext.refl Q, MvInv.begin hl, (hs.alloc _).perm (by unfold ledBox mapBox; ac_rfl), Same.of (Kept.alloc (Kept.refl (fun _ => False) _) _)⟩
  clear h hl hs hb
  go_enter Tryz.func88, Tryz.ntmps88
  go_wp2_with fail
  clear hrg d10 d11
  go_loopw [22] (fun _ wr => MvMid Q R w wr g bm w.heap.size l tick es0 clock) (fun _ wr => toCome es0 w.heap.size wr)
  case atStart => exact M0.out
  case round =>
    obtain ⟨Q', es, seen, hx, hi, hs, hz⟩ := hrel
    have X := Lib.hid hx
    have I := Lib.hid hi
    have S := Lib.hid hs
    have Z := Lib.hid hz
    clear hx hi hs hz M0
    generalize w.heap.size = gi at *
    have hgi := Lib.hid (Rv.Sat.heap (o := .mapIter (some bm) clock seen clock) S.out.right.right)
    have hbm := Lib.hid (Rv.Sat.heap (o := .map es clock) S.out.right)
    go_wp2_with ((with_reducible refine at_slot 22 ?_); refine Rv.wpList_next_at rfl (.tmp 21) rfl gi bm clock clock seen es clock (by rfl) hgi.out hbm.out I.out.fit.low (Nat.le_refl _) ?_ ?_)
    · intro hdone
      obtain ⟨_, _, _, _, _, _, _, _, _, _, d10, d11⟩ := led_twelve S.out
      have f10 : wr.frozen? ⟨g, 10, none⟩ = false := frozen_of (led_cells S.out) 10
      go_wp2_with fail
      go_ret
      refine ⟨rfl, Q', X.out, ledP_shut (bm := bm) (es := es) (clock := clock) (LOk.move (HL.out.ext X.out) I.out hdone h0 h1) ?_, Z.out.then (Kept.setCell (Kept.refl _ _) _ _ (.inl trivial))⟩
      have hs2 := Rv.Sat.setCell (i := 10) S.out (.int .i64 tick)
      have he : ledBox g (l.move tick) bm = pt g (.cells ((ledCells l.p l.tick bm).setIfInBounds 10 (.int .i64 tick)) 156) := by rw [move_eq h0 h1]; rfl
      rw [he]
      exact hs2.drop3
    · intro x hx wn hwn
      have S1 : Hid (Sat wn (ledBox g l bm * (mapBox bm es clock * (pt gi (.mapIter (some bm) clock (seen.push x.born) clock) * (Q' * R))))) := Lib.hid (by
        obtain ⟨w1, hw1, rfl⟩ := hwn
        have hs1 : Sat w1 (ledBox g l bm * (mapBox bm es clock * (pt gi (.mapIter (some bm) clock seen clock) * (Q' * R)))) := by rcases hw1 with rfl | rfl; exact S.out; exact S.out.drew
        have := hs1.third.put (Rv.setB_same (o' := .mapIter (some bm) clock (seen.push x.born) clock) hs1.third.heap) (fun k hk => Rv.setB_other hk)
        exact this.swap.third.swap.perm (by ac_rfl))
      have Z1 : Hid (Same w wn) := Lib.hid (by
        obtain ⟨w1, hw1, rfl⟩ := hwn
        rcases hw1 with rfl | rfl
        · exact Z.out.then (same_setB _ _ _)
        · exact Z.out.drew.then (same_setB _ _ _))
      have hgn := Lib.hid (Rv.Sat.heap (o := .mapIter (some bm) clock (seen.push x.born) clock) S1.out.right.right)
      have hbn := Lib.hid (Rv.Sat.heap (o := .map es clock) S1.out.right)
      have hen := run_entry_at (P := Tryz.prog) wn gi bm clock seen es clock x hgn.out hbn.out hx.1 (List.nodup_iff_pairwise_ne.2 (List.Pairwise.map _ (fun a b h => Nat.ne_of_lt h) I.out.fit.born))
      obtain ⟨key, d, hkey, hget, hdi⟩ := I.out.at_ hx.1 hx.2
      rw [hkey] at hen ⊢
      have HKEY := Lib.hid hkey
      have HGET := Lib.hid hget
      have K0 := Lib.hid (led_twelve S1.out)
      clear hwn S Z hbm hkey hget
      cases d with
      | level n =>
        obtain ⟨a1, a2, a3, a4⟩ := hdi
        rw [a4] at hen ⊢
        have HN := Lib.hid (And.intro a1 (And.intro a2 a3))
        clear a1 a2 a3 a4
        go_upto_region 6 with (fail)
        clear hen
        have hm := fun v w => meth_level v w "reeve/ledger.later" _ (.inr (.inl rfl))
        have hnl := nil_level2
        go_region_held3 (fun w' => w'.cell? ⟨g, 0, none⟩ = some (.int .i64 l.p.kind) ∧ w'.cell? ⟨g, 1, none⟩ = some (.int .i64 l.p.cap) ∧ w'.cell? ⟨g, 2, none⟩ = some (.int .i64 l.p.num) ∧ w'.cell? ⟨g, 3, none⟩ = some (.int .i64 l.p.den) ∧ w'.cell? ⟨g, 4, none⟩ = some (.int .i64 l.p.width) ∧ w'.cell? ⟨g, 5, none⟩ = some (.int .i64 l.p.count) ∧ w'.cell? ⟨g, 6, none⟩ = some (.int .i64 l.p.keys) ∧ w'.cell? ⟨g, 7, none⟩ = some (.int .i64 l.p.slots) ∧ w'.cell? ⟨g, 8, none⟩ = some (.int .i64 l.p.every) ∧ w'.cell? ⟨g, 9, none⟩ = some (.int .i64 l.p.seg) ∧ w'.cell? ⟨g, 10, none⟩ = some (.int .i64 l.tick) ∧ w'.cell? ⟨g, 11, none⟩ = some (.map (some bm))) (first | exact K1.out | exact K0.out | go_keep)
          (first | (go_at_call 201; refine (llater_any l.p n l.tick tick wn.drew HL.out.ok HN.out.1 ht0 ht1 (by omega) h1).mono ?_; rintro e w2 ⟨rfl, b2⟩; have S2 := Lib.hid (S1.out.drew.below b2); have Z2 := Lib.hid (Z1.out.drew.then (Rv.Same.below b2)); have XF := Lib.hid X.out; have HT : Hid (DebtIn Q' l.p (levelV (Rv.decay l.p n (tick - l.tick))) ((Rv.Debt.level n).later l.p l.tick tick)) := Lib.hid ⟨HN.out.1, (decay_bd _ _ _).1, (decay_bd _ _ _).2, rfl⟩; have K1 := Lib.hid (led_twelve S2.out); have XE := Lib.hid (Ext.refl Q'); clear b2))
        clear hm hnl K0 K1
        go_upto_region 7 with (fail)
        cases how : ((Rv.Debt.level n).later l.p l.tick tick).owes with
        | true =>
          have HMV : Hid (EntRel Q' l.p (mvO l tick key) (some (levelV (Rv.decay l.p n (tick - l.tick))))) := Lib.hid (by unfold mvO; rw [HGET.out]; simp only; rw [if_pos how]; exact HT.out)
          go_wp2_with fail
          refine (owes_any Q' w2 HT.out S2.out.third.right.right.right HL.out.ok true how).mono ?_
          rintro e w3 ⟨rfl, b3⟩
          have S3 := Lib.hid (S2.out.below b3)
          have Z3 := Lib.hid (Z2.out.then (Rv.Same.below b3))
          obtain ⟨es', hput, fit', find', mem'⟩ := Rv.run_put_old (P := Tryz.prog) (w := w3) (t := 154) (k := 9) (e := 175) Tryz.underlying154 Tryz.underlying9 (Rv.Sat.heap (o := .map es clock) S3.out.right) I.out.fit key (levelV (Rv.decay l.p n (tick - l.tick))) hx.1 HKEY.out
          have I2 := Lib.hid ((I.out.ext XE.out).step hx.1 HKEY.out _ HMV.out fit' find' mem')
          have S4 := Lib.hid ((sat_setB (es' := es') (clock' := clock) S3.out.swap).swap)
          have Z4 := Lib.hid (Z3.out.then (same_setB w3 bm (.map es' clock)))
          obtain ⟨_, _, _, _, _, _, _, _, _, _, d10, d11⟩ := led_twelve S3.out
          clear b3 fit' find' mem' S2 Z2 how
          go_wp2_with fail
          clear hput d10 d11
          go_roundw
          case rel => exact ⟨Q', es', seen.push x.born, XF.out, I2.out, S4.out, Z4.out⟩
          case measure => exact toCome_lt (hgi.out) (Rv.Sat.heap (o := .mapIter (some bm) clock (seen.push x.born) clock) S4.out.right.right) (I.out.old x hx.1 hx.2) hx.2
        | false =>
          have HMV : Hid (EntRel Q' l.p (mvO l tick key) none) := Lib.hid (by unfold mvO; rw [HGET.out]; simp only; rw [if_neg (by rw [how]; simp)]; trivial)
          go_wp2_with fail
          refine (owes_any Q' w2 HT.out S2.out.third.right.right.right HL.out.ok false how).mono ?_
          rintro e w3 ⟨rfl, b3⟩
          have S3 := Lib.hid (S2.out.below b3)
          have Z3 := Lib.hid (Z2.out.then (Rv.Same.below b3))
          have hb3 := Lib.hid (Rv.Sat.heap (o := .map es clock) S3.out.right)
          obtain ⟨_, _, _, _, _, _, _, _, _, _, d10, d11⟩ := led_twelve S3.out
          clear b3 S2 Z2 how
          go_wp2_with ((with_reducible refine at_nocall ?_); refine Rv.wpList_delete_sm rfl (.tmp 52) (.tmp 53) 154 9 rfl Tryz.underlying154 Tryz.underlying9 bm es clock key (by rfl) (by rfl) hb3.out I.out.fit ?_; intro es' fit' find' mem'; have FIT := Lib.hid fit'; have FIND := Lib.hid find'; have MEM := Lib.hid mem'; clear fit' find' mem'; simp only [Act.put])
          have I2 := Lib.hid ((I.out.ext XE.out).step hx.1 HKEY.out none HMV.out FIT.out FIND.out (fun y hy => .inr ⟨MEM.out y hy, fun e => by
            have h1 := Rv.findE_of FIT.out.nodup hy e
            rw [FIND.out, if_pos rfl] at h1
            cases h1⟩))
          have S4 := Lib.hid ((sat_setB (es' := es') (clock' := clock) S3.out.swap).swap)
          have Z4 := Lib.hid (Z3.out.then (same_setB w3 bm (.map es' clock)))
          clear d10 d11
          go_roundw
          case rel => exact ⟨Q', es', seen.push x.born, XF.out, I2.out, S4.out, Z4.out⟩
          case measure => exact toCome_lt (hgi.out) (Rv.Sat.heap (o := .mapIter (some bm) clock (seen.push x.born) clock) S4.out.right.right) (I.out.old x hx.1 hx.2) hx.2
      | sums n =>
        obtain ⟨a1, a2, A, c, a3, a4, a5⟩ := hdi
        rw [a3] at hen ⊢
        have HN := Lib.hid (And.intro a1 a2)
        have HR := Lib.hid a4
        have HNil := Lib.hid a5
        clear a1 a2 a3 a4 a5
        go_upto_region 6 with (fail)
        clear hen
        have hm := fun v w => meth_sums v w "reeve/ledger.later" _ (.inr (.inl rfl))
        have hnl := nil_sums2
        go_region_held3 (fun w' => w'.cell? ⟨g, 0, none⟩ = some (.int .i64 l.p.kind) ∧ w'.cell? ⟨g, 1, none⟩ = some (.int .i64 l.p.cap) ∧ w'.cell? ⟨g, 2, none⟩ = some (.int .i64 l.p.num) ∧ w'.cell? ⟨g, 3, none⟩ = some (.int .i64 l.p.den) ∧ w'.cell? ⟨g, 4, none⟩ = some (.int .i64 l.p.width) ∧ w'.cell? ⟨g, 5, none⟩ = some (.int .i64 l.p.count) ∧ w'.cell? ⟨g, 6, none⟩ = some (.int .i64 l.p.keys) ∧ w'.cell? ⟨g, 7, none⟩ = some (.int .i64 l.p.slots) ∧ w'.cell? ⟨g, 8, none⟩ = some (.int .i64 l.p.every) ∧ w'.cell? ⟨g, 9, none⟩ = some (.int .i64 l.p.seg) ∧ w'.cell? ⟨g, 10, none⟩ = some (.int .i64 l.tick) ∧ w'.cell? ⟨g, 11, none⟩ = some (.map (some bm))) (first | exact K1.out | exact K0.out | go_keep)
          (first | (go_at_call 211; refine (slater_any _ l.p n l.tick tick A c wn.drew S1.out.drew (Rv.RdIn.right (Rv.RdIn.right (Rv.RdIn.right (Rv.RdIn.left HR.out)))) HNil.out HN.out.2 HL.out.ok HN.out.1).mono ?_; rintro e w2 ⟨B, c', rfl, s2, z2⟩; have S2 : Hid (Sat w2 (ledBox g l bm * (mapBox bm es clock * (pt gi (.mapIter (some bm) clock (seen.push x.born) clock) * ((intsP (.slice B (Rv.moveW l.p n tick).l.length c') (Rv.moveW l.p n tick).l * Q') * R))))) := Lib.hid (s2.perm (by ac_rfl)); have Z2 := Lib.hid (Z1.out.drew.then z2); have XF : Hid (Ext Q (intsP (.slice B (Rv.moveW l.p n tick).l.length c') (Rv.moveW l.p n tick).l * Q')) := Lib.hid (X.out.then (Ext.more _ _)); have HT : Hid (DebtIn (intsP (.slice B (Rv.moveW l.p n tick).l.length c') (Rv.moveW l.p n tick).l * Q') l.p (owedV (Rv.moveW l.p n tick) B c') ((Rv.Debt.sums n).later l.p l.tick tick)) := Lib.hid ⟨HN.out.1, HN.out.2.move HL.out.ok HN.out.1 tick, B, c', rfl, Rv.RdIn.left Rv.RdIn.row, (Rv.Sat.row_own s2).nilcap⟩; have K1 := Lib.hid (led_twelve S2.out); have XE : Hid (Ext Q' (intsP (.slice B (Rv.moveW l.p n tick).l.length c') (Rv.moveW l.p n tick).l * Q')) := Lib.hid (Ext.more _ _); clear s2 z2))
        clear hm hnl K0 K1
        go_upto_region 7 with (fail)
        cases how : ((Rv.Debt.sums n).later l.p l.tick tick).owes with
        | true =>
          have HMV : Hid (EntRel (intsP (.slice B (Rv.moveW l.p n tick).l.length c') (Rv.moveW l.p n tick).l * Q') l.p (mvO l tick key) (some (owedV (Rv.moveW l.p n tick) B c'))) := Lib.hid (by unfold mvO; rw [HGET.out]; simp only; rw [if_pos how]; exact HT.out)
          go_wp2_with fail
          refine (owes_any (intsP (.slice B (Rv.moveW l.p n tick).l.length c') (Rv.moveW l.p n tick).l * Q') w2 HT.out S2.out.third.right.right.right HL.out.ok true how).mono ?_
          rintro e w3 ⟨rfl, b3⟩
          have S3 := Lib.hid (S2.out.below b3)
          have Z3 := Lib.hid (Z2.out.then (Rv.Same.below b3))
          obtain ⟨es', hput, fit', find', mem'⟩ := Rv.run_put_old (P := Tryz.prog) (w := w3) (t := 154) (k := 9) (e := 175) Tryz.underlying154 Tryz.underlying9 (Rv.Sat.heap (o := .map es clock) S3.out.right) I.out.fit key (owedV (Rv.moveW l.p n tick) B c') hx.1 HKEY.out
          have I2 := Lib.hid ((I.out.ext XE.out).step hx.1 HKEY.out _ HMV.out fit' find' mem')
          have S4 := Lib.hid ((sat_setB (es' := es') (clock' := clock) S3.out.swap).swap)
          have Z4 := Lib.hid (Z3.out.then (same_setB w3 bm (.map es' clock)))
          obtain ⟨_, _, _, _, _, _, _, _, _, _, d10, d11⟩ := led_twelve S3.out
          clear b3 fit' find' mem' S2 Z2 how
          go_wp2_with fail
          clear hput d10 d11
          go_roundw
          case rel => exact ⟨(intsP (.slice B (Rv.moveW l.p n tick).l.length c') (Rv.moveW l.p n tick).l * Q'), es', seen.push x.born, XF.out, I2.out, S4.out, Z4.out⟩
          case measure => exact toCome_lt (hgi.out) (Rv.Sat.heap (o := .mapIter (some bm) clock (seen.push x.born) clock) S4.out.right.right) (I.out.old x hx.1 hx.2) hx.2
        | false =>
          have HMV : Hid (EntRel (intsP (.slice B (Rv.moveW l.p n tick).l.length c') (Rv.moveW l.p n tick).l * Q') l.p (mvO l tick key) none) := Lib.hid (by unfold mvO; rw [HGET.out]; simp only; rw [if_neg (by rw [how]; simp)]; trivial)
          go_wp2_with fail
          refine (owes_any (intsP (.slice B (Rv.moveW l.p n tick).l.length c') (Rv.moveW l.p n tick).l * Q') w2 HT.out S2.out.third.right.right.right HL.out.ok false how).mono ?_
          rintro e w3 ⟨rfl, b3⟩
          have S3 := Lib.hid (S2.out.below b3)
          have Z3 := Lib.hid (Z2.out.then (Rv.Same.below b3))
          have hb3 := Lib.hid (Rv.Sat.heap (o := .map es clock) S3.out.right)
          obtain ⟨_, _, _, _, _, _, _, _, _, _, d10, d11⟩ := led_twelve S3.out
          clear b3 S2 Z2 how
          go_wp2_with ((with_reducible refine at_nocall ?_); refine Rv.wpList_delete_sm rfl (.tmp 52) (.tmp 53) 154 9 rfl Tryz.underlying154 Tryz.underlying9 bm es clock key (by rfl) (by rfl) hb3.out I.out.fit ?_; intro es' fit' find' mem'; have FIT := Lib.hid fit'; have FIND := Lib.hid find'; have MEM := Lib.hid mem'; clear fit' find' mem'; simp only [Act.put])
          have I2 := Lib.hid ((I.out.ext XE.out).step hx.1 HKEY.out none HMV.out FIT.out FIND.out (fun y hy => .inr ⟨MEM.out y hy, fun e => by
            have h1 := Rv.findE_of FIT.out.nodup hy e
            rw [FIND.out, if_pos rfl] at h1
            cases h1⟩))
          have S4 := Lib.hid ((sat_setB (es' := es') (clock' := clock) S3.out.swap).swap)
          have Z4 := Lib.hid (Z3.out.then (same_setB w3 bm (.map es' clock)))
          clear d10 d11
          go_roundw
          case rel => exact ⟨(intsP (.slice B (Rv.moveW l.p n tick).l.length c') (Rv.moveW l.p n tick).l * Q'), es', seen.push x.born, XF.out, I2.out, S4.out, Z4.out⟩
          case measure => exact toCome_lt (hgi.out) (Rv.Sat.heap (o := .mapIter (some bm) clock (seen.push x.born) clock) S4.out.right.right) (I.out.old x hx.1 hx.2) hx.2
end Go.Proofs.YtcmndglhileeoaaGreat
