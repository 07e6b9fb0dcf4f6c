/- Walks of package dict: New, Touch, Clone; slices.Clone, maps.Clone. -/
import Derived.Test.YtcmndglhileeoaaGreatQUse2
import Derived.Lib.SliceRun
set_option linter.unusedSimpArgs false
set_option linter.unusedVariables false
namespace Go.Proofs.YtcmndglhileeoaaGreat
open Go.RowKit

set_option maxHeartbeats 1000000 in
theorem touch_yes (w : World) (S : Nat → Prop) (g : Nat) (d : Rv.Dict) (s : Nat) (key : ByteArray) (h : DictAt w S g d) (hk : d.keys[s]? = some key) :
    Calls Tryz.prog 123 #[.pointer (some ⟨g, 0, none⟩), .int .i64 (s : Int)] w fun e w' => e = .returned (.tuple #[.string key, .int .i64 0]) ∧ DictAt w' S g (d.used s) ∧ Kept S w w' := by
  obtain ⟨ok, kv, bm, ov, es, clock, q1, q2, q3, q4, q5, h6, h7, h8, h9, h10⟩ := h
  have hs : s < d.keys.length := (List.getElem?_eq_some_iff.1 hk).1
  have M : Hid (DictMid w g d.room kv bm ov (d.keys.map .string) (d.order.map intv) es clock) := Lib.hid ⟨q1, q2, q3, q4, q5⟩
  have hS : Hid (S g ∧ S bm ∧ (∀ k, kv.ownBlock = some k → S k) ∧ (∀ k, ov.ownBlock = some k → S k)) := Lib.hid ⟨h7, h8, h9, h10⟩
  obtain ⟨A, c, hkv, -, -, hrk⟩ := q2.shape
  rw [List.length_map] at hkv
  subst hkv
  obtain ⟨ad, rfl, hcell⟩ := hrk s (.string key) (by simp [hk])
  obtain ⟨kb, -, e1, -⟩ := q2.row (by simp; omega)
  injection e1 with e1
  subst e1
  rw [add_zero_off] at hcell
  have hs' : decide (d.keys.length ≤ s) = false := by simp; omega
  have hs2 : (s : Int) < (d.keys.length : Int) := by omega
  have Ok := Lib.hid ok
  have H6 := Lib.hid h6
  clear ok h6 q1 q2 q3 q4 q5 h7 h8 h9 h10 hrk hk
  obtain ⟨c0, c1, c2, c3, cf⟩ := M.out.cells
  go_enter Tryz.func123, Tryz.ntmps123
  go_wp2_with fail
  refine (used_low _ g bm d.room _ ov d.order s M.out.row M.out.order (by rw [Ok.out.len]; have := Ok.out.few; have := Ok.out.r1; omega) (Ok.out.mem.2 hs)).mono ?_
  rintro e w2 ⟨rfl, ho, hk⟩
  have M2 := M.out.orderIn ho hk
  obtain ⟨c0', c1', c2', c3', cf'⟩ := M2.cells
  have hcell2 : w2.cell? ⟨kb, s, none⟩ = some (.string key) := hk.cell' hcell (M.out.ko rfl)
  have hfin : DictAt w2 S g (d.used s) := ⟨Ok.out.used hs, _, bm, _, es, clock, M2.row, M2.keys, M2.order, M2.slots, M2.fit, H6.out, hS.out.1, hS.out.2.1, hS.out.2.2.1, hS.out.2.2.2⟩
  have hkS : Kept S w w2 := hk.mono (fun i _ e => hS.out.2.2.2 i e)
  clear ho hk M2 c0 c1 c2 c3 cf hcell
  go_wp2_with fail
  go_ret2
  exact ⟨rfl, hfin, hkS⟩

theorem touch_no (w : World) (S : Nat → Prop) (g : Nat) (d : Rv.Dict) (s : Nat) (h : DictAt w S g d) (hk : d.keys.length ≤ s) :
    Calls Tryz.prog 123 #[.pointer (some ⟨g, 0, none⟩), .int .i64 (s : Int)] w fun e w' => e = .returned (.tuple #[.string ⟨#[]⟩, .int .i64 50]) ∧ w = w' := by
  obtain ⟨ok, kv, bm, ov, es, clock, q1, q2, q3, q4, q5, h6, h7, h8, h9, h10⟩ := h
  obtain ⟨A, c, hkv, -, -, hrk⟩ := q2.shape
  rw [List.length_map] at hkv
  subst hkv
  have c1 : w.cell? ⟨g, 1, none⟩ = some (.slice A d.keys.length c) := by rw [cells_of q1]; rfl
  have hs' : decide (d.keys.length ≤ s) = true := by simp; omega
  clear ok h6 q1 q2 q3 q4 q5 h7 h8 h9 h10 hrk hk
  go_enter Tryz.func123, Tryz.ntmps123
  go_wp2_with fail
  go_ret2
  exact ⟨rfl, rfl⟩

theorem new_ok (room : Nat) (h0 : 1 ≤ room) (h1 : room ≤ 64) : DOk (Rv.Dict.new room) := ⟨h0, h1, by simp [Rv.Dict.new], by simp [Rv.Dict.new], by simp [Rv.Dict.new], by simp [Rv.Dict.new]⟩

theorem dnew_any (w : World) (room : Nat) (h0 : 1 ≤ room) (h1 : room ≤ 64) :
    Calls Tryz.prog 73 #[.int .i64 (room : Int)] w fun e w' => ∃ g, e = .returned (.tuple #[.pointer (some ⟨g, 0, none⟩), .int .i64 0]) ∧ DictAt w' (fun k => w.heap.size ≤ k) g (Rv.Dict.new room) ∧ Below w.heap.size w w' := by
  have g0 : decide ((room : Int) < 1) = false := by simp; omega
  have g1 : decide ((64 : Int) < (room : Int)) = false := by simp; omega
  have hmm := @run_makeMap Tryz.prog
  go_enter Tryz.func73, Tryz.ntmps73
  go_wp2_with fail
  go_ret2
  refine ⟨_, rfl, ⟨new_ok room h0 h1, .slice none 0 0, w.heap.size, .slice none 0 0, #[], 0, ?_, OwnV.nil _ _ _, OwnV.nil _ _ _, ?_, Rv.smap_nil, fun k => rfl, by simp, by simp, by simp [Value.ownBlock], by simp [Value.ownBlock]⟩, ?_⟩
  · have := heap_alloc_new (w.alloc (.map #[] 0)) (.cells #[Value.int IntKind.i64 (room : Int), Value.slice none 0 0, Value.map (some w.heap.size), Value.slice none 0 0] 166)
    simp only [World.size_alloc] at this
    exact this
  · rw [Below.heap_alloc _ _ _ (by simp)]
    exact heap_alloc_new w _
  · exact ((Below.refl _ _).alloc (Nat.le_refl _) _).alloc (by simp) _

set_option maxHeartbeats 1000000 in
set_option maxRecDepth 100000 in
theorem clone_str (w : World) (A : Option Addr) (n c : Nat) (vs : List Value) (hn : vs.length = n) (hr : RdV w A vs) (h1 : ∀ u ∈ vs, u.oneCell' = true) (hnil : A = none → c = 0) (hl : n * 16 ≤ 140737488355328) :
    Calls Tryz.prog 78 #[.slice A n c] w fun e w' => ∃ B C, e = .returned (.slice B n C) ∧ OwnV w' w.heap.size 9 (.slice B n C) vs ∧ Below w.heap.size w w' := by
  have hq := fun (w : World) (A : Option Addr) (n c : Nat) => Lib.run_eql_slice_nil (P := Tryz.prog) w 163 _ A n c 0 0 Tryz.underlying163
  have Hr := Lib.hid hr
  have H1 := Lib.hid h1
  have Hn := Lib.hid hn
  clear hr h1
  cases A with
  | none =>
    have hvs : vs = [] := by
      cases vs with
      | nil => rfl
      | cons u r => obtain ⟨ad, e, _⟩ := Hr.out 0 u rfl; cases e
    subst hvs
    obtain rfl := hnil rfl
    simp only [List.length_nil] at hn
    subst hn
    clear Hn
    go_enter Tryz.func78, Tryz.ntmps78
    go_wp2_with fail
    go_ret
    exact ⟨_, _, rfl, OwnV.nil _ _ _, Below.refl _ _⟩
  | some ad =>
    clear hn hnil
    go_enter Tryz.func78, Tryz.ntmps78
    go_wp2_with (at_builtin; refine app_src (w0 := w) w.heap.size rfl (.tmp 5) (.tmp 6) 163 9 (.string ⟨#[]⟩) 16 rfl Tryz.underlying163 (by rfl) rfl (by omega) (.slice (some ⟨w.heap.size, 0, none⟩) 0 0) [] vs (some ad) c (by rfl) (by rw [Hn.out]; rfl) H1.out (own_lit (n := 0) rfl rfl (Nat.le_refl _) (by omega)) (Hr.out.alloc _) ((Below.refl _ _).alloc (Nat.le_refl _) _) (by simp) (by simp; rw [Hn.out]; omega) (by simp) ?_; intro v1 w1 h2 h3 h4 h5; obtain ⟨B, C, hv, -, -, -⟩ := h2.shape; rw [List.nil_append, Hn.out] at hv; rw [List.nil_append] at h2; subst hv; have H2 := Lib.hid h2; have H3 := Lib.hid h3; clear h2 h3 h4 h5)
    go_ret
    exact ⟨_, _, rfl, H2.out, H3.out⟩

set_option maxHeartbeats 1000000 in
set_option maxRecDepth 100000 in
theorem clone_int (w : World) (A : Option Addr) (n c : Nat) (vs : List Value) (hn : vs.length = n) (hr : RdV w A vs) (h1 : ∀ u ∈ vs, u.oneCell' = true) (hnil : A = none → c = 0) (hl : n * 8 ≤ 140737488355328) :
    Calls Tryz.prog 80 #[.slice A n c] w fun e w' => ∃ B C, e = .returned (.slice B n C) ∧ OwnV w' w.heap.size 3 (.slice B n C) vs ∧ Below w.heap.size w w' := by
  have hq := fun (w : World) (A : Option Addr) (n c : Nat) => Lib.run_eql_slice_nil (P := Tryz.prog) w 39 _ A n c 0 0 Tryz.underlying39
  have Hr := Lib.hid hr
  have H1 := Lib.hid h1
  have Hn := Lib.hid hn
  clear hr h1
  cases A with
  | none =>
    have hvs : vs = [] := by
      cases vs with
      | nil => rfl
      | cons u r => obtain ⟨ad, e, _⟩ := Hr.out 0 u rfl; cases e
    subst hvs
    obtain rfl := hnil rfl
    simp only [List.length_nil] at hn
    subst hn
    clear Hn
    go_enter Tryz.func80, Tryz.ntmps80
    go_wp2_with fail
    go_ret
    exact ⟨_, _, rfl, OwnV.nil _ _ _, Below.refl _ _⟩
  | some ad =>
    clear hn hnil
    go_enter Tryz.func80, Tryz.ntmps80
    go_wp2_with (at_builtin; refine app_src (w0 := w) w.heap.size rfl (.tmp 5) (.tmp 6) 39 3 (.int .i64 0) 8 rfl Tryz.underlying39 (by rfl) rfl (by omega) (.slice (some ⟨w.heap.size, 0, none⟩) 0 0) [] vs (some ad) c (by rfl) (by rw [Hn.out]; rfl) H1.out (own_lit (n := 0) rfl rfl (Nat.le_refl _) (by omega)) (Hr.out.alloc _) ((Below.refl _ _).alloc (Nat.le_refl _) _) (by simp) (by simp; rw [Hn.out]; omega) (by simp) ?_; intro v1 w1 h2 h3 h4 h5; obtain ⟨B, C, hv, -, -, -⟩ := h2.shape; rw [List.nil_append, Hn.out] at hv; rw [List.nil_append] at h2; subst hv; have H2 := Lib.hid h2; have H3 := Lib.hid h3; clear h2 h3 h4 h5)
    go_ret
    exact ⟨_, _, rfl, H2.out, H3.out⟩

set_option maxHeartbeats 1000000 in
set_option maxRecDepth 100000 in
theorem clone_u8 (w : World) (A : Option Addr) (n c : Nat) (vs : List Value) (hn : vs.length = n) (hr : RdV w A vs) (h1 : ∀ u ∈ vs, u.oneCell' = true) (hnil : A = none → c = 0) (hl : n * 1 ≤ 140737488355328) :
    Calls Tryz.prog 21 #[.slice A n c] w fun e w' => ∃ B C, e = .returned (.slice B n C) ∧ OwnV w' w.heap.size 5 (.slice B n C) vs ∧ Below w.heap.size w w' := by
  have hq := fun (w : World) (A : Option Addr) (n c : Nat) => Lib.run_eql_slice_nil (P := Tryz.prog) w 22 _ A n c 0 0 Tryz.underlying22
  have Hr := Lib.hid hr
  have H1 := Lib.hid h1
  have Hn := Lib.hid hn
  clear hr h1
  cases A with
  | none =>
    have hvs : vs = [] := by
      cases vs with
      | nil => rfl
      | cons u r => obtain ⟨ad, e, _⟩ := Hr.out 0 u rfl; cases e
    subst hvs
    obtain rfl := hnil rfl
    simp only [List.length_nil] at hn
    subst hn
    clear Hn
    go_enter Tryz.func21, Tryz.ntmps21
    go_wp2_with fail
    go_ret
    exact ⟨_, _, rfl, OwnV.nil _ _ _, Below.refl _ _⟩
  | some ad =>
    clear hn hnil
    go_enter Tryz.func21, Tryz.ntmps21
    go_wp2_with (at_builtin; refine app_src (w0 := w) w.heap.size rfl (.tmp 5) (.tmp 6) 22 5 (.int .u8 0) 1 rfl Tryz.underlying22 (by rfl) rfl (by omega) (.slice (some ⟨w.heap.size, 0, none⟩) 0 0) [] vs (some ad) c (by rfl) (by rw [Hn.out]; rfl) H1.out (own_lit (n := 0) rfl rfl (Nat.le_refl _) (by omega)) (Hr.out.alloc _) ((Below.refl _ _).alloc (Nat.le_refl _) _) (by simp) (by simp; rw [Hn.out]; omega) (by simp) ?_; intro v1 w1 h2 h3 h4 h5; obtain ⟨B, C, hv, -, -, -⟩ := h2.shape; rw [List.nil_append, Hn.out] at hv; rw [List.nil_append] at h2; subst hv; have H2 := Lib.hid h2; have H3 := Lib.hid h3; clear h2 h3 h4 h5)
    go_ret
    exact ⟨_, _, rfl, H2.out, H3.out⟩

theorem eqlin_map_nil {P : Program} (w : World) (d : Nat) (t k e : TypeId) (b : Nat) (h : P.underlying t = some (.map k e)) : (Op.equalIn (d + 1) t (.map (some b)) (.map none)).run P w = .ok false w := by simp [Op.equalIn, run_underlying h]
theorem eql_map_nil {P : Program} (w : World) (t k e : TypeId) (b : Nat) (h : P.underlying t = some (.map k e)) : (binOp .eql t (.map (some b)) (.map none)).run P w = .ok (.bool false) w := by
  simp only [binOp]
  simp [show Op.equal t (.map (some b)) (.map none) = Op.equalIn (9999 + 1) t (.map (some b)) (.map none) from rfl, eqlin_map_nil w 9999 t k e b h]
theorem clone_entry {P : Program} (w : World) {r : Nat} {es : Array MapEntry} {clock : Nat} (t : TypeId) (hb : w.heap[r]? = some (.map es clock)) :
    (Extern.MapsClone.clone #[.iface t (.map (some r))]).run P w = .ok (.iface t (.map (some w.heap.size))) (w.alloc (.map es clock)) := by
  have e : Extern.MapsClone.clone #[.iface t (.map (some r))] = (getObj r >>= fun o => match o with
      | .map entries clock => (newObj (.map entries clock) >>= fun n => pure (.iface t (.map (some n))))
      | _ => stuck "maps.clone: a map expected") := rfl
  rw [e]
  simp [MapKept.run_getObj_map hb, Result.andThen, go_sem]
theorem assert_map {P : Program} (w : World) (t xT k e : TypeId) (v : Value) (h : P.underlying t = some (.map k e)) : (Instr.typeAssert (.iface t v) xT t false).run P w = .ok v w := by
  simp [Instr.typeAssert, run_underlying h, go_sem, Result.andThen]

set_option maxHeartbeats 1000000 in
set_option maxRecDepth 100000 in
theorem mclone_int (b : Nat) (es : Array MapEntry) (clock : Nat) (w : World) (hb : w.heap[b]? = some (.map es clock)) :
    Calls Tryz.prog 79 #[.map (some b)] w fun e w' => e = .returned (.map (some w.heap.size)) ∧ w.alloc (.map es clock) = w' := by
  have hq := fun w => eql_map_nil (P := Tryz.prog) w 164 _ _ b Tryz.underlying164
  go_enter Tryz.func79, Tryz.ntmps79
  go_wp2
  rw [run_callFunc_extern Tryz.func115 (by kernel_rfl) (by kernel_rfl) (by kernel_rfl) (e := Extern.MapsClone.clone) (by kernel_rfl), clone_entry w 164 hb]
  simp only [Result.andThen]
  rw [Oper.upon_value]
  go_wp2
  rw [assert_map _ 164 _ _ _ _ Tryz.underlying164]
  simp only [Result.andThen]
  rw [Oper.upon_value]
  go_wp2
  go_ret
  exact ⟨rfl, rfl⟩
end Go.Proofs.YtcmndglhileeoaaGreat
