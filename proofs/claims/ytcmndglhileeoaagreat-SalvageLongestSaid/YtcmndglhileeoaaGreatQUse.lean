/- Walks of package dict: Use. -/
import Derived.Test.YtcmndglhileeoaaGreatQDict
import Derived.Deep.Cut
set_option linter.unusedSimpArgs false
set_option linter.unusedVariables false
namespace Go.Proofs.YtcmndglhileeoaaGreat
open Go.RowKit

/-- The same, taken apart: while a call works on it. -/
structure DictMid (w : World) (g : Nat) (room : Int) (kv : Value) (bm : Nat) (ov : Value) (ks os : List Value) (es : Array MapEntry) (clock : Nat) : Prop where
  row : w.heap[g]? = some (.cells #[.int .i64 room, kv, .map (some bm), ov] 166 (0, 0))
  keys : OwnV w 0 9 kv ks
  order : OwnV w 0 3 ov os
  slots : w.heap[bm]? = some (.map es clock)
  fit : Rv.SMap es clock

section
variable {w w1 : World} {g : Nat} {room : Int} {kv : Value} {bm : Nat} {ov : Value} {ks os : List Value} {es : Array MapEntry} {clock : Nat}
theorem DictMid.kg (h : DictMid w g room kv bm ov ks os es clock) : kv.ownBlock ≠ some g := fun e => by obtain ⟨cur, hc⟩ := own_type h.keys e; rw [h.row] at hc; cases hc
theorem DictMid.og (h : DictMid w g room kv bm ov ks os es clock) : ov.ownBlock ≠ some g := fun e => by obtain ⟨cur, hc⟩ := own_type h.order e; rw [h.row] at hc; cases hc
theorem DictMid.kb (h : DictMid w g room kv bm ov ks os es clock) : kv.ownBlock ≠ some bm := fun e => by obtain ⟨cur, hc⟩ := own_type h.keys e; rw [h.slots] at hc; cases hc
theorem DictMid.ob (h : DictMid w g room kv bm ov ks os es clock) : ov.ownBlock ≠ some bm := fun e => by obtain ⟨cur, hc⟩ := own_type h.order e; rw [h.slots] at hc; cases hc
theorem DictMid.gb (h : DictMid w g room kv bm ov ks os es clock) : g ≠ bm := fun e => by have := h.row; rw [e, h.slots] at this; cases this
theorem DictMid.ko (h : DictMid w g room kv bm ov ks os es clock) {k : Nat} (h1 : kv.ownBlock = some k) : ov.ownBlock ≠ some k := fun e => by
  obtain ⟨cur, hc⟩ := own_type h.keys h1; obtain ⟨cur2, hc2⟩ := own_type h.order e; rw [hc] at hc2; cases hc2
theorem DictMid.lt (h : DictMid w g room kv bm ov ks os es clock) : g < w.heap.size := (Array.getElem?_eq_some_iff.1 h.row).1
theorem DictMid.ltb (h : DictMid w g room kv bm ov ks os es clock) : bm < w.heap.size := (Array.getElem?_eq_some_iff.1 h.slots).1

/-- keys turned (a row of its own, or new). -/
theorem DictMid.keysTo (h : DictMid w g room kv bm ov ks os es clock) {v1 : Value} {ks' : List Value} (o1 : OwnV w1 0 9 v1 ks') (k : Kept (fun i => kv.ownBlock = some i) w w1) : DictMid (w1.setCell ⟨g, 1, none⟩ v1) g room v1 bm ov ks' os es clock := by
  have hg1 : w1.heap[g]? = some (.cells #[.int .i64 room, kv, .map (some bm), ov] 166 (0, 0)) := (k.block g h.lt h.kg).trans h.row
  refine ⟨by rw [set_at hg1]; rfl, ?_, ?_, ?_, h.fit⟩
  · refine o1.step (fun i hi _ => set_off 1 v1 ?_)
    rintro rfl
    obtain ⟨cur, hc⟩ := own_type o1 hi
    rw [hg1] at hc; cases hc
  · exact (h.order.kept k (fun i hi e => h.ko e hi)).step (fun i hi _ => set_off 1 v1 (fun e => h.og (e ▸ hi)))
  · exact (set_off 1 v1 (Ne.symm h.gb)).trans ((k.block bm h.ltb h.kb).trans h.slots)
theorem DictMid.orderTo (h : DictMid w g room kv bm ov ks os es clock) {v1 : Value} {os' : List Value} (o1 : OwnV w1 0 3 v1 os') (k : Kept (fun i => ov.ownBlock = some i) w w1) : DictMid (w1.setCell ⟨g, 3, none⟩ v1) g room kv bm v1 ks os' es clock := by
  have hg1 : w1.heap[g]? = some (.cells #[.int .i64 room, kv, .map (some bm), ov] 166 (0, 0)) := (k.block g h.lt h.og).trans h.row
  refine ⟨by rw [set_at hg1]; rfl, ?_, ?_, ?_, h.fit⟩
  · exact (h.keys.kept k (fun i hi e => h.ko hi e)).step (fun i hi _ => set_off 3 v1 (fun e => h.kg (e ▸ hi)))
  · refine o1.step (fun i hi _ => set_off 3 v1 ?_)
    rintro rfl
    obtain ⟨cur, hc⟩ := own_type o1 hi
    rw [hg1] at hc; cases hc
  · exact (set_off 3 v1 (Ne.symm h.gb)).trans ((k.block bm h.ltb h.ob).trans h.slots)
/-- order turned in its row. -/
theorem DictMid.orderIn (h : DictMid w g room kv bm ov ks os es clock) {os' : List Value} (o1 : OwnV w1 0 3 ov os') (k : Kept (fun i => ov.ownBlock = some i) w w1) : DictMid w1 g room kv bm ov ks os' es clock :=
  ⟨(k.block g h.lt h.og).trans h.row, h.keys.kept k (fun i hi e => h.ko hi e), o1, (k.block bm h.ltb h.ob).trans h.slots, h.fit⟩
theorem DictMid.keySet (h : DictMid w g room kv bm ov ks os es clock) {b n c i : Nat} (u : Value) (hkv : kv = .slice (some ⟨b, 0, none⟩) n c) (hi : i < ks.length) : DictMid (w.setCell ⟨b, i, none⟩ u) g room kv bm ov (ks.set i u) os es clock := by
  subst hkv
  have hb : (Value.slice (some ⟨b, 0, none⟩) n c).ownBlock = some b := rfl
  refine ⟨(set_off i u (fun e => h.kg (by rw [e]; rfl))).trans h.row, h.keys.set i hi u, h.order.step (fun k hk _ => set_off i u (fun e => h.ko hb (e ▸ hk))), (set_off i u (fun e => h.kb (by rw [e]; rfl))).trans h.slots, h.fit⟩
theorem DictMid.map (h : DictMid w g room kv bm ov ks os es clock) {es' : Array MapEntry} {clock' : Nat} (f : Rv.SMap es' clock') : DictMid (Rv.setB w bm (.map es' clock')) g room kv bm ov ks os es' clock' :=
  ⟨(Rv.setB_other h.gb).trans h.row, h.keys.step (fun k hk _ => Rv.setB_other (fun e => h.kb (e ▸ hk))), h.order.step (fun k hk _ => Rv.setB_other (fun e => h.ob (e ▸ hk))), Rv.setB_same h.slots, f⟩
theorem DictMid.cells (h : DictMid w g room kv bm ov ks os es clock) : w.cell? ⟨g, 0, none⟩ = some (.int .i64 room) ∧ w.cell? ⟨g, 1, none⟩ = some kv ∧ w.cell? ⟨g, 2, none⟩ = some (.map (some bm)) ∧ w.cell? ⟨g, 3, none⟩ = some ov ∧
    (∀ i, w.frozen? ⟨g, i, none⟩ = false) := by
  refine ⟨?_, ?_, ?_, ?_, fun i => frozen_of h.row i⟩ <;> · rw [cells_of h.row]; rfl
end

theorem find_used (d : Rv.Dict) (s : Nat) (k : ByteArray) : (d.used s).find k = d.find k := rfl

def UseOk (w : World) (S : Nat → Prop) (g : Nat) (d : Rv.Dict) (key : ByteArray) (e : Ending) (w' : World) : Prop :=
  e = .returned (.tuple #[.int .i64 ((d.use key).2.1 : Int), .bool (d.use key).2.2, .int .i64 0]) ∧ ∃ S', DictAt w' S' g (d.use key).1 ∧ Kept S w w' ∧ (∀ k, S' k → S k ∨ w.heap.size ≤ k)

set_option maxHeartbeats 1000000 in
set_option maxRecDepth 100000 in
theorem use_had (w : World) (S : Nat → Prop) (g : Nat) (d : Rv.Dict) (key : ByteArray) (s : Nat) (h : DictAt w S g d) (h0 : 1 ≤ key.size) (h1 : key.size ≤ 64) (hf : d.find key = some s) :
    Calls Tryz.prog 42 #[.pointer (some ⟨g, 0, none⟩), .string key] w (UseOk w S g d key) := by
  have g0 : decide ((key.size : Int) < 1) = false := by simp; omega
  have g1 : decide ((64 : Int) < (key.size : Int)) = false := by simp; omega
  have hu : d.use key = (d.used s, s, true) := by unfold Rv.Dict.use; rw [hf]
  have hs : s < d.keys.length := (List.getElem?_eq_some_iff.1 (find_some hf)).1
  have hlr : lookRes (d.find key) = (s : Int) := by rw [hf]; rfl
  have H := Lib.hid h
  have Hu := Lib.hid hu
  have Hlr := Lib.hid hlr
  clear hlr hu h hf
  go_enter Tryz.func42, Tryz.ntmps42
  go_wp2_with fail
  refine (look_any _ S g d key H.out).mono ?_
  rintro e w1 ⟨rfl, rfl⟩
  rw [Hlr.out]
  go_wp2_with fail
  obtain ⟨ok, kv, bm, ov, es, clock, h1, h2, h3, h4, h5, h6, h7, h8, h9, h10⟩ := H.out
  refine (used_low _ g bm d.room kv ov d.order s h1 h3 (by rw [ok.len]; have := ok.few; have := ok.r1; omega) (ok.mem.2 hs)).mono ?_
  have ok' := ok.used hs
  rintro e w2 ⟨rfl, ho, hk⟩
  have hfin : DictAt w2 S g (d.used s) := by
    refine ⟨ok', kv, bm, ov, es, clock, ?_, ?_, ho, ?_, h5, h6, h7, h8, h9, h10⟩
    · rw [hk.block g (Array.getElem?_eq_some_iff.1 h1).1 (fun e => by obtain ⟨cur, hc⟩ := own_type h3 e; rw [h1] at hc; cases hc)]; exact h1
    · exact h2.kept hk (fun i hi e => by obtain ⟨cur, hc⟩ := own_type h3 e; obtain ⟨cur2, hc2⟩ := own_type h2 hi; rw [hc] at hc2; cases hc2)
    · rw [hk.block bm (Array.getElem?_eq_some_iff.1 h4).1 (fun e => by obtain ⟨cur, hc⟩ := own_type h3 e; rw [h4] at hc; cases hc)]; exact h4
  have hkS : Kept S w w2 := hk.mono (fun i _ e => h10 i e)
  clear ho hk h1 h2 h3 h4 h5 h6 h7 h8 h9 h10 ok ok'
  go_wp2_with fail
  go_ret3
  unfold UseOk
  rw [Hu.out]
  exact ⟨rfl, S, hfin, hkS, fun k hk => .inl hk⟩

set_option maxHeartbeats 1000000 in
set_option maxRecDepth 100000 in
theorem use_new (w : World) (S : Nat → Prop) (g : Nat) (d : Rv.Dict) (key : ByteArray) (h : DictAt w S g d) (h0 : 1 ≤ key.size) (h1 : key.size ≤ 64) (hf : d.find key = none) (hroom : d.keys.length < d.room) :
    Calls Tryz.prog 42 #[.pointer (some ⟨g, 0, none⟩), .string key] w (UseOk w S g d key) := by
  have g0 : decide ((key.size : Int) < 1) = false := by simp; omega
  have g1 : decide ((64 : Int) < (key.size : Int)) = false := by simp; omega
  have g2 : decide (d.keys.length < d.room) = true := by simp; omega
  have hu : d.use key = (Rv.Dict.used { d with keys := d.keys ++ [key], order := d.order ++ [d.keys.length] } d.keys.length, d.keys.length, false) := by unfold Rv.Dict.use; rw [hf]; simp only; rw [if_pos hroom]
  have hlr : lookRes (d.find key) = -1 := by rw [hf]; rfl
  have h1' := Lib.hid h1
  have H := Lib.hid h
  have Hu := Lib.hid hu
  have Hlr := Lib.hid hlr
  clear hlr hu h
  go_enter Tryz.func42, Tryz.ntmps42
  go_wp2_with fail
  refine (look_any _ S g d key H.out).mono ?_
  rintro e w1 ⟨rfl, rfl⟩
  rw [Hlr.out]
  obtain ⟨ok, kv, bm, ov, es, clock, h1, h2, h3, h4, h5, h6, h7, h8, h9, h10⟩ := H.out
  have M : Hid (DictMid w g d.room kv bm ov (d.keys.map .string) (d.order.map intv) es clock) := Lib.hid ⟨h1, h2, h3, h4, h5⟩
  have hS : Hid (S g ∧ S bm ∧ (∀ k, kv.ownBlock = some k → S k) ∧ (∀ k, ov.ownBlock = some k → S k)) := Lib.hid ⟨h7, h8, h9, h10⟩
  obtain ⟨A, c, hkv, hc1, hc2, hr⟩ := h2.shape
  rw [List.length_map] at hkv
  clear h1 h2 h3 h4 h5 h7 h8 h9 h10 hr hc1 hc2
  obtain ⟨c0, c1, c2, c3, cf⟩ := M.out.cells
  have hlen : d.keys.length ≤ 64 := by have := ok.few; have := ok.r1; omega
  have holen : d.order.length ≤ 64 := by rw [ok.len]; exact hlen
  have Ok := Lib.hid ok
  have H6 := Lib.hid h6
  have Hf := Lib.hid hf
  clear ok h6 hf
  have c1' : w.cell? ⟨g, 1, none⟩ = some (.slice A d.keys.length c) := by rw [← hkv]; exact c1
  have Hkv := Lib.hid hkv
  clear hkv c1
  go_upto_region 9 with (fail)
  have c1 : w.cell? ⟨g, 1, none⟩ = some kv := by rw [Hkv.out]; exact c1'
  clear c1'
  go_upto_region 10 with (at_builtin; refine app_one_at rfl (.tmp 41) (.tmp 43) 163 9 (.string ⟨#[]⟩) 16 rfl Tryz.underlying163 (by rfl) rfl (by omega) kv (d.keys.map .string) (.string key) (by rfl) (by rfl) rfl M.out.keys (by simp; omega) (d.keys.length + 1) (by simp) ?_; intro B1 C1 w1 o1 k1 l1; have cA : w1.cell? ⟨g, 1, none⟩ = some kv := k1.cell' c1 M.out.kg; have cB : w1.frozen? ⟨g, 1, none⟩ = false := (k1.frozen M.out.lt M.out.kg).trans (cf 1); have O1 := Lib.hid o1; have K1 := Lib.hid k1; have L1 := Lib.hid l1; clear o1 k1 l1)
  have M1 := Lib.hid (M.out.keysTo O1.out K1.out)
  have KS1 : Hid (Kept S w (w1.setCell ⟨g, 1, none⟩ (.slice B1 (d.keys.length + 1) C1))) := Lib.hid ((K1.out.mono (fun i _ e => hS.out.2.2.1 i e)).setCell _ _ (.inl hS.out.1))
  have L1' : Hid (∀ k, (Value.slice B1 (d.keys.length + 1) C1).ownBlock = some k → S k ∨ w.heap.size ≤ k) := Lib.hid (fun k hk => (L1.out k hk).imp (hS.out.2.2.1 k) id)
  clear cA cB O1 K1 L1 c1 c0 c2 c3 cf M
  generalize w1.setCell ⟨g, 1, none⟩ (.slice B1 (d.keys.length + 1) C1) = W1 at *
  clear w1
  obtain ⟨c0, c1, c2, c3, cf⟩ := M1.out.cells
  go_upto_region 14 with (at_builtin; refine app_one_at rfl (.tmp 51) (.tmp 53) 39 3 (.int .i64 0) 8 rfl Tryz.underlying39 (by rfl) rfl (by omega) ov (d.order.map intv) (.int .i64 (d.keys.length : Int)) (by rfl) (by rfl) rfl M1.out.order (by simp; omega) (d.order.length + 1) (by simp) ?_; intro B2 C2 w2 o2 k2 l2; have cA : w2.cell? ⟨g, 3, none⟩ = some ov := k2.cell' c3 M1.out.og; have cB : w2.frozen? ⟨g, 3, none⟩ = false := (k2.frozen M1.out.lt M1.out.og).trans (cf 3); have O1 := Lib.hid o2; have K1 := Lib.hid k2; have L1 := Lib.hid l2; clear o2 k2 l2)
  have M2 := Lib.hid (M1.out.orderTo O1.out K1.out)
  have KS2 : Hid (Kept S w (w2.setCell ⟨g, 3, none⟩ (.slice B2 (d.order.length + 1) C2))) := Lib.hid ((KS1.out.trans K1.out (fun i _ e => hS.out.2.2.2 i e)).setCell _ _ (.inl hS.out.1))
  have L2' : Hid (∀ k, (Value.slice B2 (d.order.length + 1) C2).ownBlock = some k → S k ∨ w.heap.size ≤ k) := Lib.hid (fun k hk => (L1.out k hk).imp (hS.out.2.2.2 k) (fun h => by have := KS1.out.size; omega))
  clear cA cB O1 K1 L1 c1 c0 c2 c3 cf M1 KS1
  generalize w2.setCell ⟨g, 3, none⟩ (.slice B2 (d.order.length + 1) C2) = W2 at *
  clear w2
  obtain ⟨c0, c1, c2, c3, cf⟩ := M2.out.cells
  obtain ⟨es2, clock2, hrun, fit2, hfind2, _⟩ := Rv.run_put (P := Tryz.prog) (t := 164) (k := 9) (e := 3) Tryz.underlying164 Tryz.underlying9 M2.out.slots M2.out.fit key (.int .i64 (d.keys.length : Int))
  have Hfind2 := Lib.hid hfind2
  have Fit2 := Lib.hid fit2
  clear hfind2 fit2
  go_wp2_with fail
  have M3 := Lib.hid (M2.out.map Fit2.out)
  have KS3 : Hid (Kept S w (Rv.setB W2 bm (.map es2 clock2))) := Lib.hid (KS2.out.setB _ _ (.inl hS.out.2.1))
  clear hrun c0 c1 c2 c3 cf M2 KS2
  generalize Rv.setB W2 bm (.map es2 clock2) = W3 at *
  clear W2
  have hord : d.order.map intv ++ [Value.int .i64 (d.keys.length : Int)] = (d.order ++ [d.keys.length]).map intv := by simp
  have hks : d.keys.map Value.string ++ [Value.string key] = (d.keys ++ [key]).map Value.string := by simp
  rw [hord, hks] at M3
  refine (used_low _ g bm d.room _ _ (d.order ++ [d.keys.length]) d.keys.length M3.out.row M3.out.order (by rw [List.length_append, Ok.out.len]; have := Ok.out.few; have := Ok.out.r1; simp; omega) (by simp)).mono ?_
  rintro e w4 ⟨rfl, ho, hk⟩
  have hno : key ∉ d.keys := find_none.1 Hf.out
  have ok' : DOk { d with keys := d.keys ++ [key], order := d.order ++ [d.keys.length] } := by
    refine ⟨Ok.out.r0, Ok.out.r1, by simp; omega, ?_, ?_, ?_⟩
    · rw [List.nodup_append]
      exact ⟨Ok.out.nodup, by simp, fun a ha b hb e => by rw [List.mem_singleton.1 hb] at e; exact hno (e ▸ ha)⟩
    · intro k hk
      rcases List.mem_append.1 hk with hk | hk
      · exact Ok.out.size k hk
      · rw [List.mem_singleton.1 hk]; exact h1'.out
    · show (d.order ++ [d.keys.length]).Perm (List.range (d.keys ++ [key]).length)
      rw [List.length_append, List.length_singleton, List.range_succ]
      exact Ok.out.perm.append_right _
  have M4 := M3.out.orderIn ho hk
  have hfin : DictAt w4 (fun k => S k ∨ w.heap.size ≤ k) g (Rv.Dict.used { d with keys := d.keys ++ [key], order := d.order ++ [d.keys.length] } d.keys.length) := by
    refine ⟨ok'.used (by simp), _, bm, _, es2, clock2, M4.row, M4.keys, M4.order, M4.slots, M4.fit, ?_, .inl hS.out.1, .inl hS.out.2.1, L1'.out, L2'.out⟩
    intro k
    rw [Hfind2.out k]
    by_cases hkk : k = key
    · subst hkk
      rw [if_pos rfl]
      show _ = Option.map intv (Rv.Dict.find _ k)
      rw [find_used, find_of (s := d.keys.length) (k := k) ok'.nodup (by simp)]
      rfl
    · rw [if_neg hkk, H6.out k]
      show _ = Option.map intv (Rv.Dict.find _ k)
      cases hfk : d.find k with
      | none =>
        symm
        rw [show Rv.Dict.find (Rv.Dict.used { d with keys := d.keys ++ [key], order := d.order ++ [d.keys.length] } d.keys.length) k = none from find_none.2 (by
          show k ∉ d.keys ++ [key]
          intro hm
          rcases List.mem_append.1 hm with hm | hm
          · exact find_none.1 hfk hm
          · exact hkk (List.mem_singleton.1 hm))]
      | some s =>
        rw [find_used, find_of (s := s) ok'.nodup (show (d.keys ++ [key])[s]? = some k by
          have := find_some hfk
          rw [List.getElem?_append_left (List.getElem?_eq_some_iff.1 this).1]; exact this)]
  have hkS : Kept S w w4 := KS3.out.trans hk (fun i hi e => (L2'.out i e).resolve_right (by omega))
  clear ho hk M4 M3 KS3
  go_wp2_with fail
  go_ret3
  unfold UseOk
  rw [Hu.out]
  exact ⟨rfl, _, hfin, hkS, fun k hk => hk⟩
end Go.Proofs.YtcmndglhileeoaaGreat
