/- Walks of package dict: Use where all slots are taken. -/
import Derived.Test.YtcmndglhileeoaaGreatQUse
import Derived.BigQuiet
set_option linter.unusedSimpArgs false
set_option linter.unusedVariables false
namespace Go.Proofs.YtcmndglhileeoaaGreat
open Go.RowKit

theorem add_zero_off (b j : Nat) : (⟨b, 0, none⟩ : Addr).add j = ⟨b, j, none⟩ := by unfold Addr.add; split <;> simp_all

theorem nodup_set {α : Type} : ∀ {l : List α} (_ : l.Nodup) {x : α} (_ : x ∉ l) (i : Nat), (l.set i x).Nodup
  | [], _, _, _, _ => by simp
  | a :: r, h, x, hx, 0 => by
    obtain ⟨h1, h2⟩ := List.nodup_cons.1 h
    exact List.nodup_cons.2 ⟨fun e => hx (List.mem_cons_of_mem _ e), h2⟩
  | a :: r, h, x, hx, i + 1 => by
    obtain ⟨h1, h2⟩ := List.nodup_cons.1 h
    refine List.nodup_cons.2 ⟨fun e => ?_, nodup_set h2 (fun e => hx (List.mem_cons_of_mem _ e)) i⟩
    rcases List.mem_or_eq_of_mem_set e with e | e
    · exact h1 e
    · exact hx (e ▸ List.mem_cons_self)

theorem full_ok {d : Rv.Dict} (ok : DOk d) {key : ByteArray} (h : key.size ≤ 64) (hf : key ∉ d.keys) (s : Nat) : DOk { d with keys := d.keys.set s key } :=
  ⟨ok.r0, ok.r1, by simpa using ok.few, nodup_set ok.nodup hf s, fun k hk => by
    rcases List.mem_or_eq_of_mem_set hk with e | e
    · exact ok.size k e
    · rw [e]; exact h, by simpa using ok.perm⟩

theorem full_find {d : Rv.Dict} (ok : DOk d) {key old : ByteArray} (h : key.size ≤ 64) (hf : key ∉ d.keys) {s : Nat} (hs : d.keys[s]? = some old) (k : ByteArray) :
    Rv.Dict.find { d with keys := d.keys.set s key } k = if k = key then some s else if k = old then none else d.find k := by
  have ok' := full_ok ok h hf s
  have hsl : s < d.keys.length := (List.getElem?_eq_some_iff.1 hs).1
  by_cases h1 : k = key
  · subst h1
    rw [if_pos rfl]
    exact find_of ok'.nodup (by show (d.keys.set s k)[s]? = _; rw [List.getElem?_set_self hsl])
  · rw [if_neg h1]
    by_cases h2 : k = old
    · subst h2
      rw [if_pos rfl]
      refine find_none.2 (fun hm => ?_)
      obtain ⟨i, hi⟩ := List.getElem?_of_mem hm
      have hi' : (d.keys.set s key)[i]? = some k := hi
      by_cases his : s = i
      · subst his
        rw [List.getElem?_set_self hsl] at hi'
        injection hi' with hi'
        exact h1 hi'.symm
      · rw [List.getElem?_set_ne his] at hi'
        have e1 := find_of ok.nodup hs
        rw [find_of ok.nodup hi'] at e1
        injection e1 with e1
        exact his e1.symm
    · rw [if_neg h2]
      cases hk : d.find k with
      | none =>
        refine find_none.2 (fun hm => ?_)
        rcases List.mem_or_eq_of_mem_set hm with e | e
        · exact find_none.1 hk e
        · exact h1 e
      | some i =>
        have hi := find_some hk
        refine find_of ok'.nodup ?_
        show (d.keys.set s key)[i]? = some k
        rw [List.getElem?_set_ne (fun e => by subst e; rw [hs] at hi; injection hi with hi; exact h2 hi.symm)]
        exact hi

theorem step_delete {P : Program} {ops : Array Oper} {o : Oper} {a : Act} {w w' : World} {K : Act → World → Prop} {Q : Exit → Act → World → Prop} {E : Prop} (hgd : o.guard = none) (m x : Operand) (T Kt : TypeId)
    (ho : o.op = .call { callee := .builtin .delete, args := #[m, x], argTypes := #[T, Kt] }) (b : Nat) (key : ByteArray) (hm : a.eval m = .map (some b)) (hx : a.eval x = .string key)
    (hrun : (Builtin.delete_ #[T, Kt] o.type #[.map (some b), .string key]).run P w = .ok (.tuple #[]) w') (h : K (a.put o.dst (.tuple #[])) w') :
    if Region.wanted o (yielded ops a.tmps) = true then Oper.wp P o a w K Q else E := by
  have hw : Region.wanted o (yielded ops a.tmps) = true := by simp [Region.wanted, hgd]
  rw [if_pos hw]
  unfold Oper.wp
  simp [execOp, ho, resolve, invoke, builtin, hm, hx, hrun, Result.andThen]
  exact h

theorem DictMid.drew {w : World} {g : Nat} {room : Int} {kv : Value} {bm : Nat} {ov : Value} {ks os : List Value} {es : Array MapEntry} {clock : Nat} (h : DictMid w g room kv bm ov ks os es clock) : DictMid w.drew g room kv bm ov ks os es clock :=
  ⟨h.row, h.keys, h.order, h.slots, h.fit⟩
theorem Kept.drew {S : Nat → Prop} {a b : World} (h : Kept S a b) : Kept S a b.drew := ⟨h.os, h.tape, h.output, h.size, h.block⟩

set_option maxHeartbeats 2000000 in
set_option maxRecDepth 100000 in
theorem use_full (w : World) (S : Nat → Prop) (g : Nat) (d : Rv.Dict) (key : ByteArray) (h : DictAt w S g d) (h0 : 1 ≤ key.size) (h1 : key.size ≤ 64) (hf : d.find key = none) (hroom : d.keys.length = d.room) :
    Calls Tryz.prog 42 #[.pointer (some ⟨g, 0, none⟩), .string key] w (UseOk w S g d key) := by
  have g0 : decide ((key.size : Int) < 1) = false := by simp; omega
  have g1 : decide ((64 : Int) < (key.size : Int)) = false := by simp; omega
  obtain ⟨n, hn⟩ : ∃ n, n = d.room := ⟨_, rfl⟩
  have g2 : decide (n < n) = false := by simp
  have hlr : lookRes (d.find key) = -1 := by rw [hf]; rfl
  have h1' := Lib.hid h1
  have H := Lib.hid h
  have Hlr := Lib.hid hlr
  obtain ⟨ok, kv, bm, ov, es, clock, q1, q2, q3, q4, q5, h6, h7, h8, h9, h10⟩ := h
  have hr1 := ok.r0
  have hr2 := ok.r1
  have hkl : (d.keys.map Value.string).length = n := by simp; omega
  have hol : (d.order.map intv).length = n := by simp [ok.len]; omega
  obtain ⟨s, hs⟩ : ∃ s, d.order[n - 1]? = some s := some_at (by rw [ok.len]; omega)
  have hsm : s ∈ d.order := List.mem_of_getElem? hs
  have hsl : s < d.keys.length := ok.mem.1 hsm
  obtain ⟨old, hold⟩ := some_at hsl
  have hu : d.use key = (Rv.Dict.used { d with keys := d.keys.set s key } s, s, false) := by
    unfold Rv.Dict.use; rw [hf]; simp only; rw [if_neg (by omega), ← hn]; simp [List.getD, hs]
  have Hu := Lib.hid hu
  rw [← hn] at q1
  have M : Hid (DictMid w g n kv bm ov (d.keys.map .string) (d.order.map intv) es clock) := Lib.hid ⟨q1, q2, q3, q4, q5⟩
  have hS : Hid (S g ∧ S bm ∧ (∀ k, kv.ownBlock = some k → S k) ∧ (∀ k, ov.ownBlock = some k → S k)) := Lib.hid ⟨h7, h8, h9, h10⟩
  obtain ⟨A, c, hkv, -, -, hrk⟩ := q2.shape
  obtain ⟨A', c', hov, -, -, hro⟩ := q3.shape
  rw [hkl] at hkv
  rw [hol] at hov
  subst hkv
  subst hov
  obtain ⟨kb, -, rfl, -⟩ := q2.row (by rw [hkl]; omega)
  obtain ⟨ob, -, rfl, -⟩ := q3.row (by rw [hol]; omega)
  have hrk1 : w.cell? ⟨kb, s, none⟩ = some (.string old) := by
    obtain ⟨ad, e, hc⟩ := hrk s (.string old) (by simp [hold])
    injection e with e
    subst e
    rw [← hc, add_zero_off]
  have hro1 : w.cell? ⟨ob, n - 1, none⟩ = some (intv s) := by
    obtain ⟨ad, e, hc⟩ := hro (n - 1) (intv s) (by simp [hs])
    injection e with e
    subst e
    rw [← hc, add_zero_off]
  have Ok := Lib.hid ok
  have H6 := Lib.hid h6
  have Hf := Lib.hid hf
  have Hold := Lib.hid hold
  have Hsm := Lib.hid hsm
  have Hroom := Lib.hid hroom
  have Hn := Lib.hid hn
  have hsn : s < n := by omega
  have hn64 : n ≤ 64 := by omega
  have hn1 : 1 ≤ n := by omega
  clear ok h6 hf hold hsm hroom q1 q2 q3 q4 q5 h7 h8 h9 h10 hkl hol hsl hu hlr hn hrk hro hs
  obtain ⟨c0, c1, c2, c3, cf⟩ := M.out.cells
  have hw1 : IntKind.i64.wrap ((n : Int) - 1) = (n : Int) - 1 := IntWalk.i64_in _ (by omega)
  have hw2 : (0 : Int) ≤ (n : Int) - 1 := by omega
  have hw2' : (1 : Int) ≤ (n : Int) := by omega
  have hw3 : (n : Int) - 1 < (n : Int) := by omega
  have hw4 : ((n : Int) - 1).toNat = n - 1 := by omega
  go_enter Tryz.func42, Tryz.ntmps42
  go_wp2_with fail
  refine (look_any _ S g d key H.out).mono ?_
  rintro e w1 ⟨rfl, rfl⟩
  rw [Hlr.out]
  go_upto_region 11 with (fail)
  go_quiet (fail)
  have M1 : Hid (DictMid (w.drewN nq) g n (.slice (some ⟨kb, 0, none⟩) n c) bm (.slice (some ⟨ob, 0, none⟩) n c') (d.keys.map .string) (d.order.map intv) es clock) := Lib.hid ⟨M.out.row, M.out.keys, M.out.order, M.out.slots, M.out.fit⟩
  have KS1 : Hid (Kept S w (w.drewN nq)) := Lib.hid ⟨rfl, rfl, rfl, Nat.le_refl _, fun _ _ _ => rfl⟩
  have hrk2 : (w.drewN nq).cell? ⟨kb, s, none⟩ = some (.string old) := hrk1
  generalize w.drewN nq = W1 at *
  clear c0 c1 c2 c3 cf hrk1 hro1 hw1 hw2 hw2' hw3 hw4 M
  have hsn' : (s : Int) < (n : Int) := by omega
  obtain ⟨c0, c1, c2, c3, cf⟩ := M1.out.cells
  obtain ⟨es1, hrun, fit1, hfind1, _, _⟩ := Rv.run_del (P := Tryz.prog) (w := W1.drew) (ty := 0) (t := 164) (k := 9) (e := 3) Tryz.underlying164 Tryz.underlying9 M1.out.slots M1.out.fit old
  have Hfind1 := Lib.hid hfind1
  have Fit1 := Lib.hid fit1
  have Hrun := Lib.hid hrun
  clear hfind1 fit1 hrun
  go_wp2_with fail
  go_region_law (refine step_delete rfl (.tmp 71) (.tmp 78) 164 9 rfl bm old (by rfl) (by rfl) Hrun.out ?_)
  all_goals
    have M2 := Lib.hid (M1.out.drew.map Fit1.out)
    have KS2 : Hid (Kept S w (Rv.setB W1.drew bm (.map es1 clock))) := Lib.hid (KS1.out.drew.setB _ _ (.inl hS.out.2.1))
    have hkb2 : (Rv.setB W1.drew bm (.map es1 clock)).cell? ⟨kb, s, none⟩ = some (.string old) := (World.cell?_of_block (w := W1) (Rv.setB_other (w := W1.drew) (fun e => M1.out.kb (by rw [← e]; rfl)))).trans hrk2
    have hfb2 : (Rv.setB W1.drew bm (.map es1 clock)).frozen? ⟨kb, s, none⟩ = false := by
      obtain ⟨cur, hc⟩ := own_type M2.out.keys (k := kb) rfl
      exact frozen_of hc s
    clear Hrun hrk2 c0 c1 c2 c3 cf M1 KS1
    generalize Rv.setB W1.drew bm (.map es1 clock) = W2 at *
    clear W1
    obtain ⟨c0, c1, c2, c3, cf⟩ := M2.out.cells
    go_upto_region 14 with (fail)
    have M3 := Lib.hid (M2.out.keySet (.string key) (b := kb) (i := s) rfl (by simp; rw [Hroom.out, ← Hn.out]; exact hsn))
    have KS3 : Hid (Kept S w (W2.setCell ⟨kb, s, none⟩ (.string key))) := Lib.hid (KS2.out.setCell _ _ (.inl (hS.out.2.2.1 kb rfl)))
    clear c0 c1 c2 c3 cf M2 KS2 hkb2 hfb2
    generalize W2.setCell ⟨kb, s, none⟩ (.string key) = W3 at *
    clear W2
    obtain ⟨c0, c1, c2, c3, cf⟩ := M3.out.cells
    obtain ⟨es2, clock2, hrun, fit2, hfind2, _⟩ := Rv.run_put (P := Tryz.prog) (t := 164) (k := 9) (e := 3) Tryz.underlying164 Tryz.underlying9 M3.out.slots M3.out.fit key (.int .i64 (s : Int))
    have Hfind2 := Lib.hid hfind2
    have Fit2 := Lib.hid fit2
    clear hfind2 fit2
    go_wp2_with fail
    have M4 := Lib.hid (M3.out.map Fit2.out)
    have KS4 : Hid (Kept S w (Rv.setB W3 bm (.map es2 clock2))) := Lib.hid (KS3.out.setB _ _ (.inl hS.out.2.1))
    clear hrun c0 c1 c2 c3 cf M3 KS3
    generalize Rv.setB W3 bm (.map es2 clock2) = W4 at *
    clear W3
    refine (used_low _ g bm n _ _ d.order s M4.out.row M4.out.order (by rw [Ok.out.len, Hroom.out, ← Hn.out]; exact hn64) Hsm.out).mono ?_
    rintro e w5 ⟨rfl, ho, hk⟩
    have hno : key ∉ d.keys := find_none.1 Hf.out
    have M5 := M4.out.orderIn ho hk
    have hfin : DictAt w5 S g (Rv.Dict.used { d with keys := d.keys.set s key } s) := by
      refine ⟨(full_ok Ok.out h1'.out hno s).used (by simp; rw [Hroom.out, ← Hn.out]; exact hsn), _, bm, _, es2, clock2, ?_, ?_, M5.order, M5.slots, M5.fit, ?_, hS.out.1, hS.out.2.1, hS.out.2.2.1, hS.out.2.2.2⟩
      · have := M5.row
        rw [Hn.out] at this ⊢
        exact this
      · have := M5.keys
        rw [show (d.keys.map Value.string).set s (.string key) = (d.keys.set s key).map Value.string by simp] at this
        exact this
      · intro k
        rw [Hfind2.out k, Hfind1.out k, H6.out k, find_used, full_find Ok.out h1'.out hno Hold.out k]
        by_cases e1 : k = key
        · rw [if_pos e1, if_pos e1]; rfl
        · rw [if_neg e1, if_neg e1]
          by_cases e2 : k = old
          · rw [if_pos e2, if_pos e2]; rfl
          · rw [if_neg e2, if_neg e2]
    have hkS : Kept S w w5 := KS4.out.trans hk (fun i hi e => hS.out.2.2.2 i e)
    clear ho hk M5 M4 KS4
    go_wp2_with fail
    go_ret3
    unfold UseOk
    rw [Hu.out]
    exact ⟨rfl, _, hfin, hkS, fun k hk => .inl hk⟩

theorem use_any (w : World) (S : Nat → Prop) (g : Nat) (d : Rv.Dict) (key : ByteArray) (h : DictAt w S g d) (h0 : 1 ≤ key.size) (h1 : key.size ≤ 64) :
    Calls Tryz.prog 42 #[.pointer (some ⟨g, 0, none⟩), .string key] w (UseOk w S g d key) := by
  cases hf : d.find key with
  | some s => exact use_had w S g d key s h h0 h1 hf
  | none =>
    by_cases hr : d.keys.length < d.room
    · exact use_new w S g d key h h0 h1 hf hr
    · exact use_full w S g d key h h0 h1 hf (by have := h.1.few; omega)
end Go.Proofs.YtcmndglhileeoaaGreat
