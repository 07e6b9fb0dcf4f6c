/- A part of the proof (RowMore): its texts in a row: Touch, DClone, Plain, Bits, Record, Put, CClone. Each text's own remark stands at its head. -/
import Derived.Test.YtcmndglhileeoaaGreatMo1
import Derived.Lib.SliceRun
import Derived.Deep.RegionHeld3
import Derived.KernelRfl
import Derived.Lib.AppendStr
/- Walks of package dict: New, Touch, Clone; slices.Clone, maps.Clone. -/
set_option linter.unusedSimpArgs false
set_option linter.unusedVariables false
namespace Go.Proofs.YtcmndglhileeoaaGreat
open Go.RowKit

set_option maxHeartbeats 1000000 in
theorem touch_yes (w : World) (S : Nat → Prop) (g : Nat) (d : Rv.Dict) (s : Nat) (key : ByteArray) (h : DictAt w S g d) (hk : d.keys[s]? = some key) :
    Calls Tryz.prog 123 #[.pointer (some ⟨g, 0, none⟩), .int .i64 (s : Int)] w fun e w' => e = .returned (.tuple #[.string key, .int .i64 0]) ∧ DictAt w' S g (d.used s) ∧ Kept S w w' := by
  obtain ⟨ok, kv, bm, ov, es, clock, q1, q2, q3, q4, q5, h6, h7, h8, h9, h10⟩ := h
  have hs : s < d.keys.length := (List.getElem?_eq_some_iff.1 hk).1
  have M : Hid (DictMid w g d.room kv bm ov (d.keys.map .string) (d.order.map intv) es clock) := Lib.hid ⟨q1, q2, q3, q4, q5⟩
  have hS : Hid (S g ∧ S bm ∧ (∀ k, kv.ownBlock = some k → S k) ∧ (∀ k, ov.ownBlock = some k → S k)) := Lib.hid ⟨h7, h8, h9, h10⟩
  obtain ⟨A, c, hkv, -, -, hrk⟩ := q2.shape
  rw [List.length_map] at hkv
  subst hkv
  obtain ⟨ad, rfl, hcell⟩ := hrk s (.string key) (by simp [hk])
  obtain ⟨kb, -, e1, -⟩ := q2.row (by simp; omega)
  injection e1 with e1
  subst e1
  rw [add_zero_off] at hcell
  have hs' : decide (d.keys.length ≤ s) = false := by simp; omega
  have hs2 : (s : Int) < (d.keys.length : Int) := by omega
  have Ok := Lib.hid ok
  have H6 := Lib.hid h6
  clear ok h6 q1 q2 q3 q4 q5 h7 h8 h9 h10 hrk hk
  obtain ⟨c0, c1, c2, c3, cf⟩ := M.out.cells
  go_enter Tryz.func123, Tryz.ntmps123
  go_wp2_with fail
  refine (used_low _ g bm d.room _ ov d.order s M.out.row M.out.order (by rw [Ok.out.len]; have := Ok.out.few; have := Ok.out.r1; omega) (Ok.out.mem.2 hs)).mono ?_
  rintro e w2 ⟨rfl, ho, hk⟩
  have M2 := M.out.orderIn ho hk
  obtain ⟨c0', c1', c2', c3', cf'⟩ := M2.cells
  have hcell2 : w2.cell? ⟨kb, s, none⟩ = some (.string key) := hk.cell' hcell (M.out.ko rfl)
  have hfin : DictAt w2 S g (d.used s) := ⟨Ok.out.used hs, _, bm, _, es, clock, M2.row, M2.keys, M2.order, M2.slots, M2.fit, H6.out, hS.out.1, hS.out.2.1, hS.out.2.2.1, hS.out.2.2.2⟩
  have hkS : Kept S w w2 := hk.mono (fun i _ e => hS.out.2.2.2 i e)
  clear ho hk M2 c0 c1 c2 c3 cf hcell
  go_wp2_with fail
  go_ret2
  exact ⟨rfl, hfin, hkS⟩

theorem touch_no (w : World) (S : Nat → Prop) (g : Nat) (d : Rv.Dict) (s : Nat) (h : DictAt w S g d) (hk : d.keys.length ≤ s) :
    Calls Tryz.prog 123 #[.pointer (some ⟨g, 0, none⟩), .int .i64 (s : Int)] w fun e w' => e = .returned (.tuple #[.string ⟨#[]⟩, .int .i64 50]) ∧ w = w' := by
  obtain ⟨ok, kv, bm, ov, es, clock, q1, q2, q3, q4, q5, h6, h7, h8, h9, h10⟩ := h
  obtain ⟨A, c, hkv, -, -, hrk⟩ := q2.shape
  rw [List.length_map] at hkv
  subst hkv
  have c1 : w.cell? ⟨g, 1, none⟩ = some (.slice A d.keys.length c) := by rw [cells_of q1]; rfl
  have hs' : decide (d.keys.length ≤ s) = true := by simp; omega
  clear ok h6 q1 q2 q3 q4 q5 h7 h8 h9 h10 hrk hk
  go_enter Tryz.func123, Tryz.ntmps123
  go_wp2_with fail
  go_ret2
  exact ⟨rfl, rfl⟩

theorem new_ok (room : Nat) (h0 : 1 ≤ room) (h1 : room ≤ 64) : DOk (Rv.Dict.new room) := ⟨h0, h1, by simp [Rv.Dict.new], by simp [Rv.Dict.new], by simp [Rv.Dict.new], by simp [Rv.Dict.new]⟩

theorem dnew_any (w : World) (room : Nat) (h0 : 1 ≤ room) (h1 : room ≤ 64) :
    Calls Tryz.prog 73 #[.int .i64 (room : Int)] w fun e w' => ∃ g, e = .returned (.tuple #[.pointer (some ⟨g, 0, none⟩), .int .i64 0]) ∧ DictAt w' (fun k => w.heap.size ≤ k) g (Rv.Dict.new room) ∧ Below w.heap.size w w' := by
  have g0 : decide ((room : Int) < 1) = false := by simp; omega
  have g1 : decide ((64 : Int) < (room : Int)) = false := by simp; omega
  have hmm := @run_makeMap Tryz.prog
  go_enter Tryz.func73, Tryz.ntmps73
  go_wp2_with fail
  go_ret2
  refine ⟨_, rfl, ⟨new_ok room h0 h1, .slice none 0 0, w.heap.size, .slice none 0 0, #[], 0, ?_, OwnV.nil _ _ _, OwnV.nil _ _ _, ?_, Rv.smap_nil, fun k => rfl, by simp, by simp, by simp [Value.ownBlock], by simp [Value.ownBlock]⟩, ?_⟩
  · have := heap_alloc_new (w.alloc (.map #[] 0)) (.cells #[Value.int IntKind.i64 (room : Int), Value.slice none 0 0, Value.map (some w.heap.size), Value.slice none 0 0] 166)
    simp only [World.size_alloc] at this
    exact this
  · rw [Below.heap_alloc _ _ _ (by simp)]
    exact heap_alloc_new w _
  · exact ((Below.refl _ _).alloc (Nat.le_refl _) _).alloc (by simp) _

set_option maxHeartbeats 1000000 in
set_option maxRecDepth 100000 in
theorem clone_str (w : World) (A : Option Addr) (n c : Nat) (vs : List Value) (hn : vs.length = n) (hr : RdV w A vs) (h1 : ∀ u ∈ vs, u.oneCell' = true) (hnil : A = none → c = 0) (hl : n * 16 ≤ 140737488355328) :
    Calls Tryz.prog 78 #[.slice A n c] w fun e w' => ∃ B C, e = .returned (.slice B n C) ∧ OwnV w' w.heap.size 9 (.slice B n C) vs ∧ Below w.heap.size w w' := by
  have hq := fun (w : World) (A : Option Addr) (n c : Nat) => Lib.run_eql_slice_nil (P := Tryz.prog) w 163 _ A n c 0 0 Tryz.underlying163
  have Hr := Lib.hid hr
  have H1 := Lib.hid h1
  have Hn := Lib.hid hn
  clear hr h1
  cases A with
  | none =>
    have hvs : vs = [] := by
      cases vs with
      | nil => rfl
      | cons u r => obtain ⟨ad, e, _⟩ := Hr.out 0 u rfl; cases e
    subst hvs
    obtain rfl := hnil rfl
    simp only [List.length_nil] at hn
    subst hn
    clear Hn
    go_enter Tryz.func78, Tryz.ntmps78
    go_wp2_with fail
    go_ret
    exact ⟨_, _, rfl, OwnV.nil _ _ _, Below.refl _ _⟩
  | some ad =>
    clear hn hnil
    go_enter Tryz.func78, Tryz.ntmps78
    go_wp2_with (at_builtin; refine app_src (w0 := w) w.heap.size rfl (.tmp 5) (.tmp 6) 163 9 (.string ⟨#[]⟩) 16 rfl Tryz.underlying163 (by rfl) rfl (by omega) (.slice (some ⟨w.heap.size, 0, none⟩) 0 0) [] vs (some ad) c (by rfl) (by rw [Hn.out]; rfl) H1.out (own_lit (n := 0) rfl rfl (Nat.le_refl _) (by omega)) (Hr.out.alloc _) ((Below.refl _ _).alloc (Nat.le_refl _) _) (by simp) (by simp; rw [Hn.out]; omega) (by simp) ?_; intro v1 w1 h2 h3 h4 h5; obtain ⟨B, C, hv, -, -, -⟩ := h2.shape; rw [List.nil_append, Hn.out] at hv; rw [List.nil_append] at h2; subst hv; have H2 := Lib.hid h2; have H3 := Lib.hid h3; clear h2 h3 h4 h5)
    go_ret
    exact ⟨_, _, rfl, H2.out, H3.out⟩

set_option maxHeartbeats 1000000 in
set_option maxRecDepth 100000 in
theorem clone_int (w : World) (A : Option Addr) (n c : Nat) (vs : List Value) (hn : vs.length = n) (hr : RdV w A vs) (h1 : ∀ u ∈ vs, u.oneCell' = true) (hnil : A = none → c = 0) (hl : n * 8 ≤ 140737488355328) :
    Calls Tryz.prog 80 #[.slice A n c] w fun e w' => ∃ B C, e = .returned (.slice B n C) ∧ OwnV w' w.heap.size 3 (.slice B n C) vs ∧ Below w.heap.size w w' := by
  have hq := fun (w : World) (A : Option Addr) (n c : Nat) => Lib.run_eql_slice_nil (P := Tryz.prog) w 39 _ A n c 0 0 Tryz.underlying39
  have Hr := Lib.hid hr
  have H1 := Lib.hid h1
  have Hn := Lib.hid hn
  clear hr h1
  cases A with
  | none =>
    have hvs : vs = [] := by
      cases vs with
      | nil => rfl
      | cons u r => obtain ⟨ad, e, _⟩ := Hr.out 0 u rfl; cases e
    subst hvs
    obtain rfl := hnil rfl
    simp only [List.length_nil] at hn
    subst hn
    clear Hn
    go_enter Tryz.func80, Tryz.ntmps80
    go_wp2_with fail
    go_ret
    exact ⟨_, _, rfl, OwnV.nil _ _ _, Below.refl _ _⟩
  | some ad =>
    clear hn hnil
    go_enter Tryz.func80, Tryz.ntmps80
    go_wp2_with (at_builtin; refine app_src (w0 := w) w.heap.size rfl (.tmp 5) (.tmp 6) 39 3 (.int .i64 0) 8 rfl Tryz.underlying39 (by rfl) rfl (by omega) (.slice (some ⟨w.heap.size, 0, none⟩) 0 0) [] vs (some ad) c (by rfl) (by rw [Hn.out]; rfl) H1.out (own_lit (n := 0) rfl rfl (Nat.le_refl _) (by omega)) (Hr.out.alloc _) ((Below.refl _ _).alloc (Nat.le_refl _) _) (by simp) (by simp; rw [Hn.out]; omega) (by simp) ?_; intro v1 w1 h2 h3 h4 h5; obtain ⟨B, C, hv, -, -, -⟩ := h2.shape; rw [List.nil_append, Hn.out] at hv; rw [List.nil_append] at h2; subst hv; have H2 := Lib.hid h2; have H3 := Lib.hid h3; clear h2 h3 h4 h5)
    go_ret
    exact ⟨_, _, rfl, H2.out, H3.out⟩

set_option maxHeartbeats 1000000 in
set_option maxRecDepth 100000 in
theorem clone_u8 (w : World) (A : Option Addr) (n c : Nat) (vs : List Value) (hn : vs.length = n) (hr : RdV w A vs) (h1 : ∀ u ∈ vs, u.oneCell' = true) (hnil : A = none → c = 0) (hl : n * 1 ≤ 140737488355328) :
    Calls Tryz.prog 21 #[.slice A n c] w fun e w' => ∃ B C, e = .returned (.slice B n C) ∧ OwnV w' w.heap.size 5 (.slice B n C) vs ∧ Below w.heap.size w w' := by
  have hq := fun (w : World) (A : Option Addr) (n c : Nat) => Lib.run_eql_slice_nil (P := Tryz.prog) w 22 _ A n c 0 0 Tryz.underlying22
  have Hr := Lib.hid hr
  have H1 := Lib.hid h1
  have Hn := Lib.hid hn
  clear hr h1
  cases A with
  | none =>
    have hvs : vs = [] := by
      cases vs with
      | nil => rfl
      | cons u r => obtain ⟨ad, e, _⟩ := Hr.out 0 u rfl; cases e
    subst hvs
    obtain rfl := hnil rfl
    simp only [List.length_nil] at hn
    subst hn
    clear Hn
    go_enter Tryz.func21, Tryz.ntmps21
    go_wp2_with fail
    go_ret
    exact ⟨_, _, rfl, OwnV.nil _ _ _, Below.refl _ _⟩
  | some ad =>
    clear hn hnil
    go_enter Tryz.func21, Tryz.ntmps21
    go_wp2_with (at_builtin; refine app_src (w0 := w) w.heap.size rfl (.tmp 5) (.tmp 6) 22 5 (.int .u8 0) 1 rfl Tryz.underlying22 (by rfl) rfl (by omega) (.slice (some ⟨w.heap.size, 0, none⟩) 0 0) [] vs (some ad) c (by rfl) (by rw [Hn.out]; rfl) H1.out (own_lit (n := 0) rfl rfl (Nat.le_refl _) (by omega)) (Hr.out.alloc _) ((Below.refl _ _).alloc (Nat.le_refl _) _) (by simp) (by simp; rw [Hn.out]; omega) (by simp) ?_; intro v1 w1 h2 h3 h4 h5; obtain ⟨B, C, hv, -, -, -⟩ := h2.shape; rw [List.nil_append, Hn.out] at hv; rw [List.nil_append] at h2; subst hv; have H2 := Lib.hid h2; have H3 := Lib.hid h3; clear h2 h3 h4 h5)
    go_ret
    exact ⟨_, _, rfl, H2.out, H3.out⟩

theorem eqlin_map_nil {P : Program} (w : World) (d : Nat) (t k e : TypeId) (b : Nat) (h : P.underlying t = some (.map k e)) : (Op.equalIn (d + 1) t (.map (some b)) (.map none)).run P w = .ok false w := by simp [Op.equalIn, run_underlying h]
theorem eql_map_nil {P : Program} (w : World) (t k e : TypeId) (b : Nat) (h : P.underlying t = some (.map k e)) : (binOp .eql t (.map (some b)) (.map none)).run P w = .ok (.bool false) w := by
  simp only [binOp]
  simp [show Op.equal t (.map (some b)) (.map none) = Op.equalIn (9999 + 1) t (.map (some b)) (.map none) from rfl, eqlin_map_nil w 9999 t k e b h]
theorem clone_entry {P : Program} (w : World) {r : Nat} {es : Array MapEntry} {clock : Nat} (t : TypeId) (hb : w.heap[r]? = some (.map es clock)) :
    (Extern.MapsClone.clone #[.iface t (.map (some r))]).run P w = .ok (.iface t (.map (some w.heap.size))) (w.alloc (.map es clock)) := by
  have e : Extern.MapsClone.clone #[.iface t (.map (some r))] = (getObj r >>= fun o => match o with
      | .map entries clock => (newObj (.map entries clock) >>= fun n => pure (.iface t (.map (some n))))
      | _ => stuck "maps.clone: a map expected") := rfl
  rw [e]
  simp [MapKept.run_getObj_map hb, Result.andThen, go_sem]
theorem assert_map {P : Program} (w : World) (t xT k e : TypeId) (v : Value) (h : P.underlying t = some (.map k e)) : (Instr.typeAssert (.iface t v) xT t false).run P w = .ok v w := by
  simp [Instr.typeAssert, run_underlying h, go_sem, Result.andThen]

set_option maxHeartbeats 1000000 in
set_option maxRecDepth 100000 in
theorem mclone_int (b : Nat) (es : Array MapEntry) (clock : Nat) (w : World) (hb : w.heap[b]? = some (.map es clock)) :
    Calls Tryz.prog 79 #[.map (some b)] w fun e w' => e = .returned (.map (some w.heap.size)) ∧ w.alloc (.map es clock) = w' := by
  have hq := fun w => eql_map_nil (P := Tryz.prog) w 164 _ _ b Tryz.underlying164
  go_enter Tryz.func79, Tryz.ntmps79
  go_wp2
  rw [run_callFunc_extern Tryz.func115 (by kernel_rfl) (by kernel_rfl) (by kernel_rfl) (e := Extern.MapsClone.clone) (by kernel_rfl), clone_entry w 164 hb]
  simp only [Result.andThen]
  rw [Oper.upon_value]
  go_wp2
  rw [assert_map _ 164 _ _ _ _ Tryz.underlying164]
  simp only [Result.andThen]
  rw [Oper.upon_value]
  go_wp2
  go_ret
  exact ⟨rfl, rfl⟩
end Go.Proofs.YtcmndglhileeoaaGreat

/- Walks of package dict: Clone. -/
set_option linter.unusedSimpArgs false
set_option linter.unusedVariables false
namespace Go.Proofs.YtcmndglhileeoaaGreat
open Go.RowKit

theorem OwnV.nilcap {w : World} {base n c : Nat} {e : TypeId} {A : Option Addr} {vs : List Value} (h : OwnV w base e (.slice A n c) vs) : A = none → c = 0 := by
  rintro rfl
  rcases h.2 with ⟨he, _⟩ | ⟨g, cap, cur, he, _⟩
  · injection he
  · injection he with h1; cases h1
theorem Below.of_drew {B : Nat} {w w1 : World} (h : Below B w.drew w1) : Below B w w1 := ⟨h.os, h.tape, h.output, h.size, h.block⟩

set_option maxHeartbeats 2000000 in
set_option maxRecDepth 100000 in
theorem dclone_any (w : World) (S : Nat → Prop) (g : Nat) (d : Rv.Dict) (h : DictAt w S g d) :
    Calls Tryz.prog 38 #[.pointer (some ⟨g, 0, none⟩)] w fun e w' => ∃ g', e = .returned (.pointer (some ⟨g', 0, none⟩)) ∧ DictAt w' (fun k => w.heap.size ≤ k) g' d ∧ Below w.heap.size w w' := by
  obtain ⟨ok, kv, bm, ov, es, clock, q1, q2, q3, q4, q5, h6, h7, h8, h9, h10⟩ := h
  have M : Hid (DictMid w g d.room kv bm ov (d.keys.map .string) (d.order.map intv) es clock) := Lib.hid ⟨q1, q2, q3, q4, q5⟩
  obtain ⟨A, c, hkv, -, -, hrk⟩ := q2.shape
  obtain ⟨A', c', hov, -, -, hro⟩ := q3.shape
  rw [List.length_map] at hkv hov
  subst hkv
  subst hov
  have n1 := q2.nilcap
  have n2 := q3.nilcap
  have hlen : d.keys.length ≤ 64 := by have := ok.few; have := ok.r1; omega
  have holen : d.order.length ≤ 64 := by rw [ok.len]; exact hlen
  have h1s : ∀ u ∈ d.keys.map Value.string, u.oneCell' = true := fun u hu => by obtain ⟨y, _, rfl⟩ := List.mem_map.1 hu; rfl
  have h1i : ∀ u ∈ d.order.map intv, u.oneCell' = true := fun u hu => by obtain ⟨y, _, rfl⟩ := List.mem_map.1 hu; rfl
  have Ok := Lib.hid ok
  have H6 := Lib.hid h6
  have N1 := Lib.hid n1
  have N2 := Lib.hid n2
  have H1s := Lib.hid h1s
  have H1i := Lib.hid h1i
  have HRk := Lib.hid hrk
  have HRo := Lib.hid hro
  have Q4 := Lib.hid q4
  clear ok h6 q1 q2 q3 q4 q5 h7 h8 h9 h10 n1 n2 h1s h1i hrk hro
  obtain ⟨c0, c1, c2, c3, -⟩ := M.out.cells
  go_enter Tryz.func38, Tryz.ntmps38
  go_wp2_with fail
  go_region_held3 (fun w' => w'.cell? ⟨g, 0, none⟩ = some (.int .i64 (d.room : Int)) ∧ w'.cell? ⟨g, 1, none⟩ = some (.slice A d.keys.length c) ∧ w'.cell? ⟨g, 2, none⟩ = some (.map (some bm)) ∧ w'.cell? ⟨g, 3, none⟩ = some (.slice A' d.order.length c'))
    (first | exact K3.out | exact K2.out | exact K1.out | exact ⟨c0, c1, c2, c3⟩ | go_keep)
    (first
    | (go_at_call 78; refine (clone_str w.drew A d.keys.length c (d.keys.map .string) (by simp) HRk.out H1s.out N1.out (by omega)).mono ?_; rintro e w1 ⟨V1, C1, rfl, o1, b1⟩; have O1 := Lib.hid o1; have B1 := Lib.hid (Below.of_drew b1); clear o1 b1; have K1 := Lib.hid (And.intro (cell_below B1.out c0) (And.intro (cell_below B1.out c1) (And.intro (cell_below B1.out c2) (cell_below B1.out c3)))))
    | (go_at_call 79; refine (mclone_int bm es clock w1 ((B1.out.block bm M.out.ltb).trans Q4.out)).mono ?_; rintro e w2 ⟨rfl, hw2⟩; have B2 : Hid (Below w1.heap.size w1 w2) := Lib.hid (by rw [← hw2]; exact (Below.refl _ _).alloc (Nat.le_refl _) _); have E2 : Hid (w2.heap[w1.heap.size]? = some (.map es clock) ∧ w1.heap.size < w2.heap.size) := Lib.hid (by rw [← hw2]; exact ⟨heap_alloc_new w1 _, by simp⟩); clear hw2; have K2 := Lib.hid (And.intro (cell_below B2.out K1.out.1) (And.intro (cell_below B2.out K1.out.2.1) (And.intro (cell_below B2.out K1.out.2.2.1) (cell_below B2.out K1.out.2.2.2)))))
    | (go_at_call 80; refine (clone_int w2 A' d.order.length c' (d.order.map intv) (by simp) ((HRo.out.below B1.out).below B2.out) H1i.out N2.out (by omega)).mono ?_; rintro e w3 ⟨V3, C3, rfl, o3, b3⟩; have O3 := Lib.hid o3; have B3 := Lib.hid b3; clear o3 b3; have K3 := Lib.hid (And.intro (cell_below B3.out K2.out.1) (And.intro (cell_below B3.out K2.out.2.1) (And.intro (cell_below B3.out K2.out.2.2.1) (cell_below B3.out K2.out.2.2.2))))))
  have hW3 : w.heap.size ≤ w3.heap.size := by have := B1.out.size; have := B2.out.size; have := B3.out.size; omega
  have hS : Hid (DictAt (w3.alloc (.cells #[Value.int IntKind.i64 (d.room : Int), Value.slice V1 d.keys.length C1, Value.map (some w1.heap.size), Value.slice V3 d.order.length C3] 166)) (fun k => w.heap.size ≤ k) w3.heap.size d) := Lib.hid (by
    have o1 := ((O1.out.below B2.out).below B3.out).alloc (.cells #[Value.int IntKind.i64 (d.room : Int), Value.slice V1 d.keys.length C1, Value.map (some w1.heap.size), Value.slice V3 d.order.length C3] 166)
    have o3 := O3.out.alloc (.cells #[Value.int IntKind.i64 (d.room : Int), Value.slice V1 d.keys.length C1, Value.map (some w1.heap.size), Value.slice V3 d.order.length C3] 166)
    have s1 := B1.out.size
    have s2 := B2.out.size
    refine ⟨Ok.out, _, w1.heap.size, _, es, clock, heap_alloc_new w3 _, o1.mono (Nat.zero_le _), o3.mono (Nat.zero_le _), ?_, M.out.fit, H6.out, hW3, s1, fun k hk => (o1.block k hk).1, fun k hk => Nat.le_trans (by omega) (o3.block k hk).1⟩
    rw [Below.heap_alloc _ _ _ (Nat.lt_of_lt_of_le E2.out.2 B3.out.size), B3.out.block _ E2.out.2]
    exact E2.out.1)
  have hB : Hid (Below w.heap.size w (w3.alloc (.cells #[Value.int IntKind.i64 (d.room : Int), Value.slice V1 d.keys.length C1, Value.map (some w1.heap.size), Value.slice V3 d.order.length C3] 166))) := Lib.hid ((below_trans (below_trans B1.out B2.out) B3.out).alloc hW3 _)
  clear O1 O3 B1 B2 B3 E2 K1 K2 K3
  go_wp2_with fail
  go_ret
  exact ⟨_, rfl, hS.out, hB.out⟩
end Go.Proofs.YtcmndglhileeoaaGreat

namespace Rv

/-- Two rows of bytes that are the same up to N. -/
structure Agree (N : Nat) (b b' : Bs) : Prop where
  le : N ≤ b.length
  le' : N ≤ b'.length
  eq : b.take N = b'.take N

theorem Agree.symm {N : Nat} {b b' : Bs} (h : Agree N b b') : Agree N b' b := ⟨h.le', h.le, h.eq.symm⟩

theorem Agree.upto {N : Nat} {b b' : Bs} (h : Agree N b b') {k : Nat} (hk : k ≤ N) : b.take k = b'.take k := by
  have := congrArg (List.take k) h.eq
  rwa [List.take_take, List.take_take, Nat.min_eq_left hk] at this

theorem Agree.sub {N : Nat} {b b' : Bs} (h : Agree N b b') {i n : Nat} (hk : i + n ≤ N) : (b.drop i).take n = (b'.drop i).take n := by
  rw [List.take_drop, List.take_drop, h.upto hk]

theorem Agree.mono {N k : Nat} {b b' : Bs} (h : Agree N b b') (hk : k ≤ N) : Agree k b b' := ⟨Nat.le_trans hk h.le, Nat.le_trans hk h.le', h.upto hk⟩

theorem agree_take {b : Bs} {x y : Nat} (hx : x ≤ y) (hy : y ≤ b.length) : Agree x (b.take x) (b.take y) :=
  ⟨by simp; omega, by simp; omega, by simp [List.take_take, Nat.min_eq_left hx]⟩

theorem rdGo_ok : ∀ (l : Bs) (i n a k : Nat), rdGo i n l = .ok a k → i < k ∧ k ≤ i + l.length ∧ ∀ l' : Bs, l'.take (k - i) = l.take (k - i) → rdGo i n l' = .ok a k := by
  intro l
  induction l with
  | nil => intro i n a k h; simp [rdGo] at h
  | cons c r ih =>
    intro i n a k h
    rw [rdGo] at h
    split at h
    · simp at h
    · rename_i h1
      split at h
      · rename_i h2
        injection h with ha hk
        subst ha; subst hk
        refine ⟨by omega, by simp, fun l' hl => ?_⟩
        have : i + 1 - i = 1 := by omega
        rw [this] at hl
        cases l' with
        | nil => simp at hl
        | cons c' r' =>
          simp at hl
          subst hl
          rw [rdGo]
          rw [if_neg h1, if_pos h2]
      · rename_i h2
        obtain ⟨h3, h4, h5⟩ := ih _ _ _ _ h
        refine ⟨by omega, by simp; omega, fun l' hl => ?_⟩
        have e : k - i = (k - (i + 1)) + 1 := by omega
        rw [e] at hl
        cases l' with
        | nil => simp at hl
        | cons c' r' =>
          simp only [List.take_succ_cons, List.cons.injEq] at hl
          obtain ⟨rfl, hl⟩ := hl
          rw [rdGo]
          rw [if_neg h1, if_neg h2]
          exact h5 _ hl

theorem rdB_ok {b : Bs} {at_ n len : Nat} (h : rdB (b.drop at_) = .ok n len) : 0 < len ∧ at_ + len ≤ b.length := by
  obtain ⟨h1, h2, _⟩ := rdGo_ok _ _ _ _ _ h
  simp at h2
  omega

theorem rdB_agree {N : Nat} {b b' : Bs} (hb : Agree N b b') {at_ n len : Nat} (h : rdB (b.drop at_) = .ok n len) (hN : at_ + len ≤ N) : rdB (b'.drop at_) = .ok n len := by
  obtain ⟨h1, h2, h3⟩ := rdGo_ok _ _ _ _ _ h
  exact h3 _ (by rw [Nat.sub_zero]; exact (hb.sub hN).symm)

theorem rdMany_ok {b : Bs} : ∀ (k at_ : Nat) (l : List Int) (to : Nat), rdMany b k at_ = .ok (l, to) → at_ ≤ to ∧ (0 < k → to ≤ b.length) ∧ ∀ (b' : Bs) (N : Nat), Agree N b b' → to ≤ N → rdMany b' k at_ = .ok (l, to) := by
  intro k
  induction k with
  | zero =>
    intro at_ l to h
    simp [rdMany] at h
    obtain ⟨rfl, rfl⟩ := h
    exact ⟨Nat.le_refl _, by omega, fun _ _ _ _ => by simp [rdMany]⟩
  | succ k ih =>
    intro at_ l to h
    rw [rdMany] at h
    split at h
    · simp at h
    · rename_i n len hr
      split at h
      · simp at h
      · rename_i l' to' hm
        simp at h
        obtain ⟨rfl, rfl⟩ := h
        obtain ⟨h1, h2, h3⟩ := ih _ _ _ hm
        have h4 := rdB_ok hr
        refine ⟨by omega, fun _ => ?_, fun b' N hb hN => ?_⟩
        · rcases Nat.eq_zero_or_pos k with hk | hk
          · subst hk
            simp [rdMany] at hm
            omega
          · exact h2 hk
        · rw [rdMany, rdB_agree hb hr (by omega)]
          simp only
          rw [h3 b' N hb hN]

theorem Seal.read_take (l : Bs) : Seal.read l = Seal.read (l.take 6) := by
  rcases l with _ | ⟨a, l⟩
  · rfl
  rcases l with _ | ⟨b, l⟩
  · rfl
  rcases l with _ | ⟨c, l⟩
  · rfl
  rcases l with _ | ⟨d, l⟩
  · rfl
  rcases l with _ | ⟨e, l⟩
  · rfl
  rcases l with _ | ⟨f, l⟩
  · rfl
  rfl

theorem Seal.read_ok {l l' : Bs} {s : Seal} (h : Seal.read l = .ok s) (hl : l'.take 6 = l.take 6) : Seal.read l' = .ok s := by
  rw [Seal.read_take, hl, ← Seal.read_take, h]

theorem Seal.read_len {l : Bs} {s : Seal} (h : Seal.read l = .ok s) : 6 ≤ l.length := by
  rcases l with _ | ⟨a, l⟩
  · cases h
  rcases l with _ | ⟨b, l⟩
  · cases h
  rcases l with _ | ⟨c, l⟩
  · cases h
  rcases l with _ | ⟨d, l⟩
  · cases h
  rcases l with _ | ⟨e, l⟩
  · cases h
  rcases l with _ | ⟨f, l⟩
  · cases h
  simp

theorem Pol.read_ok {b : Bs} {p : Pol} {to : Nat} (h : Pol.read b = .ok (p, to)) : p.ok = true ∧ to ≤ b.length ∧ ∀ (b' : Bs) (N : Nat), Agree N b b' → to ≤ N → Pol.read b' = .ok (p, to) := by
  rw [Pol.read] at h
  split at h
  · simp at h
  · rename_i h0
    split at h
    · simp at h
    · rename_i k len hk
      split at h
      · simp at h
      · rename_i h1
        split at h
        · simp at h
        · rename_i l at_ hm
          simp only at h
          split at h
          · simp at h
          · rename_i h2
            split at h
            · simp at h
            · rename_i s hs
              split at h
              · rename_i h3
                simp at h
                obtain ⟨rfl, rfl⟩ := h
                have h4 := Seal.read_len hs
                simp at h4
                have h5 := rdMany_ok _ _ _ _ hm
                have h6 := rdB_ok hk
                refine ⟨by simpa using h2, by omega, fun b' N hb hN => ?_⟩
                rw [Pol.read, ← hb.upto (show 4 ≤ N by omega), if_neg h0, rdB_agree hb hk (by omega)]
                simp only
                rw [if_neg h1, h5.2.2 b' N hb (by omega)]
                simp only
                rw [if_neg h2, Seal.read_ok hs (hb.sub (show at_ + 6 ≤ N by omega)).symm]
                simp only
                rw [← hb.upto (show at_ ≤ N by omega), if_pos h3]
              · simp at h

theorem Dict.get_ok {d d' : Dict} {b : Bs} {at_ to : Nat} {key : ByteArray} (h : d.get b at_ = .ok (d', key, to)) :
    at_ < to ∧ to ≤ b.length ∧ ∀ (b' : Bs) (N : Nat), Agree N b b' → to ≤ N → d.get b' at_ = .ok (d', key, to) := by
  rw [Dict.get] at h
  split at h
  · simp at h
  · rename_i n len hr
    have h1 := rdB_ok hr
    split at h
    · rename_i h0
      split at h
      · simp at h
      · rename_i d1 key1 ht
        simp at h
        obtain ⟨rfl, rfl, rfl⟩ := h
        refine ⟨by omega, by omega, fun b' N hb hN => ?_⟩
        rw [Dict.get, rdB_agree hb hr (by omega)]
        simp only
        rw [if_pos h0, ht]
    · rename_i h0
      split at h
      · simp at h
      · rename_i k len2 hr2
        have h2 := rdB_ok hr2
        split at h
        · simp at h
        · rename_i h3
          split at h
          · simp at h
          · rename_i h4
            simp only at h
            split at h
            · simp at h
            · rename_i h5
              simp at h
              obtain ⟨rfl, rfl, rfl⟩ := h
              refine ⟨by omega, by omega, fun b' N hb hN => ?_⟩
              have e := hb.sub (show (at_ + len + len2) + k ≤ N by omega)
              have hl := hb.le'
              rw [Dict.get, rdB_agree hb hr (by omega)]
              simp only
              rw [if_neg h0, rdB_agree hb hr2 (by omega)]
              simp only
              rw [if_neg h3, if_neg (by omega), ← e, if_neg h5]

theorem Coder.get_ok {c c' : Coder} {b : Bs} {at_ to : Nat} {r : Rec} (h : c.get b at_ = .ok (c', r, to)) :
    at_ < to ∧ to ≤ b.length ∧ ∀ (b' : Bs) (N : Nat), Agree N b b' → to ≤ N → c.get b' at_ = .ok (c', r, to) := by
  rw [Coder.get] at h
  split at h
  · simp at h
  · rename_i n len hr
    have h1 := rdB_ok hr
    split at h
    · simp at h
    · rename_i g1
      split at h
      · simp at h
      · rename_i g2
        split at h
        · simp at h
        · rename_i z len2 hr2
          have h2 := rdB_ok hr2
          simp only at h
          split at h
          · simp at h
          · rename_i g3
            split at h
            · simp at h
            · rename_i d' key to' hd
              simp only [Except.ok.injEq, Prod.mk.injEq] at h
              obtain ⟨rfl, rfl, rfl⟩ := h
              obtain ⟨h3, h4, h5⟩ := Dict.get_ok hd
              refine ⟨by omega, by omega, fun b' N hb hN => ?_⟩
              rw [Coder.get, rdB_agree hb hr (by omega)]
              simp only
              rw [if_neg g1, if_neg g2, rdB_agree hb hr2 (by omega)]
              simp only
              rw [if_neg g3, h5 b' N hb hN]

theorem standsAt_iff {b : Bs} {at_ : Nat} {want : Bs} : standsAt b at_ want = true ↔ (b.drop at_).take want.length = want := by
  unfold standsAt
  rw [List.isPrefixOf_iff_prefix, List.prefix_iff_eq_take, eq_comm]

theorem standsAt_len {b : Bs} {at_ : Nat} {want : Bs} (h : standsAt b at_ want = true) (h0 : at_ ≤ b.length) : at_ + want.length ≤ b.length := by
  rw [standsAt_iff] at h
  have := congrArg List.length h
  simp at this
  omega

theorem standsAt_agree {N : Nat} {b b' : Bs} (hb : Agree N b b') {at_ : Nat} {want : Bs} (h : standsAt b at_ want = true) (hN : at_ + want.length ≤ N) : standsAt b' at_ want = true := by
  rw [standsAt_iff] at *
  rw [← hb.sub hN]; exact h

theorem Maker.adds_piece (m : Maker) (r : Rec) (c : Coder) (x : Bs) : (m.adds r c x).1.piece = x ∧ (m.adds r c x).1.coder = c := by
  unfold Maker.adds
  simp only
  split <;> (split <;> first | exact ⟨rfl, rfl⟩ | (split <;> exact ⟨rfl, rfl⟩))

theorem Maker.next_ok {m m' : Maker} {b : Bs} {r : Rec} (h : m.next b = .some r m') :
    m.size < m'.size ∧ m'.size ≤ b.length ∧ m.records < 10000 ∨ 10000 < m.records ∧ m.next b = .some r m' := by
  by_cases hr : m.records ≤ 10000
  · left
    rw [Maker.next] at h
    split at h
    · simp at h
    · split at h
      · simp at h
      · split at h
        · simp at h
        · rename_i c x to hg
          obtain ⟨h3, h4, _⟩ := Coder.get_ok hg
          simp only at h
          split at h
          · simp at h
          · rename_i g1
            split at h
            · simp at h
            · rename_i g2
              simp at h
              obtain ⟨rfl, rfl⟩ := h
              have k1 := standsAt_len (by simpa using g1) h4
              have k2 := standsAt_len (by simpa using g2) k1
              have k3 := (Maker.adds_piece m x c ((b.drop m.size).take (to - m.size))).1
              have k4 : ((b.drop m.size).take (to - m.size)).length = to - m.size := by simp; omega
              simp only [Maker.done, k3, k4]
              omega
  · right; exact ⟨by omega, h⟩

theorem Maker.next_agree {m m' : Maker} {b b' : Bs} {N : Nat} {r : Rec} (h : m.next b = .some r m') (hb : Agree N b b') (hN : m'.size ≤ N) : m.next b' = .some r m' := by
  rw [Maker.next] at h
  split at h
  · simp at h
  · rename_i g0
    split at h
    · simp at h
    · rename_i g00
      split at h
      · simp at h
      · rename_i c x to hg
        obtain ⟨h3, h4, h5⟩ := Coder.get_ok hg
        simp only at h
        split at h
        · simp at h
        · rename_i g1
          split at h
          · simp at h
          · rename_i g2
            simp at h
            obtain ⟨rfl, rfl⟩ := h
            have k3 := (Maker.adds_piece m x c ((b.drop m.size).take (to - m.size))).1
            have k4 : ((b.drop m.size).take (to - m.size)).length = to - m.size := by simp; omega
            simp only [Maker.done, k3, k4] at hN
            have e := hb.sub (i := m.size) (n := to - m.size) (by omega)
            have hl := hb.le'
            rw [Maker.next, if_neg (by omega), if_neg g00, h5 b' N hb (by omega)]
            simp only
            rw [← e, standsAt_agree hb (by simpa using g1) (by omega)]
            simp only [Bool.true_eq_false, if_false]
            rw [standsAt_agree hb (by simpa using g2) (by omega)]
            simp

/-- The makers that Next leads through: no more records than there may be. -/
theorem Maker.next_records {m m' : Maker} {b : Bs} {r : Rec} (h : m.next b = .some r m') : m'.records = m.records + 1 ∧ m'.p = m.p ∧ m.records ≠ 10000 := by
  rw [Maker.next] at h
  split at h
  · simp at h
  · split at h
    · simp at h
    · rename_i g
      split at h
      · simp at h
      · simp only at h
        split at h
        · simp at h
        · split at h
          · simp at h
          · simp at h
            obtain ⟨rfl, rfl⟩ := h
            exact ⟨rfl, rfl, g⟩

theorem Maker.reads_size (b : Bs) : ∀ (k : Nat) (m : Maker), m.records ≤ 10000 → m.size ≤ b.length →
    m.size ≤ (Maker.reads b k m).2.1.size ∧ (Maker.reads b k m).2.1.size ≤ b.length ∧ ((Maker.reads b k m).1 = [] ↔ (Maker.reads b k m).2.1.size = m.size) := by
  intro k
  induction k with
  | zero => intro m _ h; simp [Maker.reads]; exact h
  | succ k ih =>
    intro m hr hs
    rw [Maker.reads]
    split
    · simp; exact hs
    · simp; exact hs
    · rename_i x m' hn
      rcases Maker.next_ok hn with h1 | h1
      · have h2 := (Maker.next_records hn).1
        have := ih m' (by omega) h1.2.1
        refine ⟨by simp only; omega, by simp only; omega, ?_⟩
        simp only [reduceCtorEq, false_iff]
        omega
      · omega

/-- Enough rounds: none more changes anything. -/
theorem Maker.reads_more (b : Bs) : ∀ (k : Nat) (m : Maker), m.records ≤ 10000 → 10000 < k + m.records → ∀ j, Maker.reads b (k + j) m = Maker.reads b k m := by
  intro k
  induction k with
  | zero => intro m h1 h2; omega
  | succ k ih =>
    intro m h1 h2 j
    rw [show k + 1 + j = (k + j) + 1 by omega, Maker.reads, Maker.reads]
    split
    · rfl
    · rfl
    · rename_i x m' hn
      have h3 := Maker.next_records hn
      rw [ih m' (by omega) (by omega)]

/-- With enough rounds it ends at a fault, or at the end. -/
theorem Maker.reads_end (b : Bs) : ∀ (k : Nat) (m : Maker), m.records ≤ 10000 → 10000 < k + m.records →
    (Maker.reads b k m).2.1.next b = (match (Maker.reads b k m).2.2 with | none => .none_ | some f => .fault f) := by
  intro k
  induction k with
  | zero => intro m h1 h2; omega
  | succ k ih =>
    intro m h1 h2
    rw [Maker.reads]
    split
    · rename_i h; simp [h]
    · rename_i h; simp [h]
    · rename_i x m' hn
      have h3 := Maker.next_records hn
      exact ih m' (by omega) (by omega)

theorem Maker.reads_records (b : Bs) : ∀ (k : Nat) (m : Maker), (Maker.reads b k m).2.1.records = m.records + (Maker.reads b k m).1.length ∧ (Maker.reads b k m).2.1.p = m.p := by
  intro k
  induction k with
  | zero => intro m; simp [Maker.reads]
  | succ k ih =>
    intro m
    rw [Maker.reads]
    split
    · simp
    · simp
    · rename_i x m' hn
      have h3 := Maker.next_records hn
      have := ih m'
      simp only [List.length_cons]
      exact ⟨by omega, by rw [this.2, h3.2.1]⟩

theorem Maker.reads_le (b : Bs) : ∀ (k : Nat) (m : Maker), m.records ≤ 10000 → (Maker.reads b k m).2.1.records ≤ 10000 := by
  intro k
  induction k with
  | zero => intro m h; simpa [Maker.reads] using h
  | succ k ih =>
    intro m h
    rw [Maker.reads]
    split
    · exact h
    · exact h
    · rename_i x m' hn
      have h3 := Maker.next_records hn
      exact ih m' (by omega)

/-- What stands in a beginning is read in the whole, too, and on from there. -/
theorem Maker.reads_agree {b b' : Bs} {N : Nat} : ∀ (k : Nat) (m : Maker), m.records ≤ 10000 → 10000 < k + m.records → Agree N b b' → (Maker.reads b k m).2.1.size ≤ N → m.size ≤ b.length →
    ∃ j, j + (Maker.reads b k m).1.length = k ∧ Maker.reads b' k m = ((Maker.reads b k m).1 ++ (Maker.reads b' j (Maker.reads b k m).2.1).1, (Maker.reads b' j (Maker.reads b k m).2.1).2) := by
  intro k
  induction k with
  | zero => intro m h1 h2; omega
  | succ k ih =>
    intro m h1 h2 hb hN hs
    rw [Maker.reads] at hN ⊢
    cases hn : m.next b with
    | none_ =>
      simp only [hn] at hN ⊢
      exact ⟨k + 1, by simp, by simp⟩
    | fault f =>
      simp only [hn] at hN ⊢
      exact ⟨k + 1, by simp, by simp⟩
    | some x m' =>
      simp only [hn] at hN ⊢
      have h3 := Maker.next_records hn
      have h4 := Maker.next_ok hn
      have h5 := Maker.reads_size b k m' (by omega) (by omega)
      have h6 := Maker.next_agree hn hb (by omega)
      obtain ⟨j, hj, hr⟩ := ih m' (by omega) (by omega) hb hN (by omega)
      refine ⟨j, ?_, ?_⟩
      · simp only [List.length_cons]; omega
      · rw [Maker.reads, h6]
        simp only [hr, List.cons_append]

/-! ### one form: what is read is what would be written -/
theorem numN_small {n : Nat} (h : n < 128) : numN n = [UInt8.ofNat n] := by rw [numN, dif_pos h]
theorem numN_great {n : Nat} (h : 128 ≤ n) : numN n = UInt8.ofNat (n % 128 + 128) :: numN (n / 128) := by rw [numN, dif_neg (by omega)]

theorem rdGo_form : ∀ (l : Bs) (i n a k : Nat), rdGo i n l = .ok a k → ∃ v, a = n + 128 ^ i * v ∧ l.take (k - i) = numN v ∧ (0 < i → 0 < v) := by
  intro l
  induction l with
  | nil => intro i n a k h; simp [rdGo] at h
  | cons c r ih =>
    intro i n a k h
    have hk := (rdGo_ok _ _ _ _ _ h).1
    rw [rdGo] at h
    split at h
    · simp at h
    · rename_i h1
      split at h
      · rename_i h2
        injection h with ha hk'
        subst ha; subst hk'
        refine ⟨c.toNat, ?_, ?_, ?_⟩
        · rw [Nat.mod_eq_of_lt h2, Nat.mul_comm]
        · rw [numN_small h2, show i + 1 - i = 1 by omega]; simp
        · intro hi
          rcases Nat.eq_zero_or_pos c.toNat with h0 | h0
          · exact absurd (.inl ⟨h0, hi⟩) h1
          · exact h0
      · rename_i h2
        obtain ⟨v, hv, hl, hp⟩ := ih _ _ _ _ h
        have hc : c.toNat < 256 := c.toNat_lt
        have hv0 := hp (by omega)
        refine ⟨c.toNat % 128 + 128 * v, ?_, ?_, fun _ => by omega⟩
        · rw [hv, Nat.mul_add, Nat.pow_succ, Nat.mul_assoc, Nat.mul_comm (128 ^ i) (c.toNat % 128)]; omega
        · rw [numN_great (by omega), show k - i = (k - (i + 1)) + 1 by omega, List.take_succ_cons, hl]
          congr 1
          · rw [show (c.toNat % 128 + 128 * v) % 128 + 128 = c.toNat by omega]; simp
          · congr 1; omega

theorem rdGo_bound : ∀ (l : Bs) (i n a k : Nat), rdGo i n l = .ok a k → i ≤ 8 → n < 128 ^ i → a ≤ 4611686018427387903 ∧ k ≤ 9 := by
  intro l
  induction l with
  | nil => intro i n a k h; simp [rdGo] at h
  | cons c r ih =>
    intro i n a k h hi hn
    have hc : c.toNat < 256 := c.toNat_lt
    have hn' : n + c.toNat % 128 * 128 ^ i < 128 ^ (i + 1) := by
      have h1 : c.toNat % 128 ≤ 127 := by omega
      have h2 := Nat.mul_le_mul_right (128 ^ i) h1
      rw [Nat.pow_succ]; omega
    rw [rdGo] at h
    split at h
    · simp at h
    · rename_i h1
      split at h
      · rename_i h2
        injection h with ha hk'
        subst ha; subst hk'
        refine ⟨?_, by omega⟩
        rcases Nat.lt_or_ge i 8 with h8 | h8
        · have h3 : 128 ^ (i + 1) ≤ 128 ^ 8 := Nat.pow_le_pow_right (by omega) (by omega)
          have h4 : (128 : Nat) ^ 8 = 72057594037927936 := by decide
          omega
        · have : i = 8 := by omega
          subst this
          rcases Nat.lt_or_ge 4611686018427387903 (n + c.toNat % 128 * 128 ^ 8) with h5 | h5
          · exact absurd (.inr ⟨rfl, .inr h5⟩) h1
          · exact h5
      · rename_i h2
        rcases Nat.lt_or_ge i 8 with h8 | h8
        · exact ih _ _ _ _ h (by omega) hn'
        · exact absurd (.inr ⟨by omega, .inl (by omega)⟩) h1

theorem rdB_form {b : Bs} {n len : Nat} (h : rdB b = .ok n len) : b.take len = numB n ∧ n ≤ 4611686018427387903 ∧ len ≤ 9 := by
  obtain ⟨v, hv, hl, _⟩ := rdGo_form _ _ _ _ _ h
  have hb := rdGo_bound _ _ _ _ _ h (by omega) (by simp)
  simp at hv hl
  subst hv
  refine ⟨?_, hb.1, hb.2⟩
  unfold numB mayN maxNumber
  rw [if_pos (by simp; omega), hl]
  simp

theorem take_parts (b : Bs) (i j k : Nat) : (b.drop i).take (j + k) = (b.drop i).take j ++ (b.drop (i + j)).take k := by
  rw [List.take_add, List.drop_drop]

theorem rdMany_form {b : Bs} : ∀ (k at_ : Nat) (l : List Int) (to : Nat), rdMany b k at_ = .ok (l, to) → l.length = k ∧ (b.drop at_).take (to - at_) = (l.map numB).flatten := by
  intro k
  induction k with
  | zero =>
    intro at_ l to h
    simp [rdMany] at h
    obtain ⟨rfl, rfl⟩ := h
    simp
  | succ k ih =>
    intro at_ l to h
    have h0 := (rdMany_ok _ _ _ _ h).1
    rw [rdMany] at h
    split at h
    · simp at h
    · rename_i n len hr
      split at h
      · simp at h
      · rename_i l' to' hm
        simp at h
        obtain ⟨rfl, rfl⟩ := h
        have h1 := rdMany_ok _ _ _ _ hm
        have h2 := ih _ _ _ hm
        refine ⟨by simp [h2.1], ?_⟩
        rw [show to' - at_ = len + (to' - (at_ + len)) by omega, take_parts, h2.2, (rdB_form hr).1]
        simp

theorem b3_n3 (a b c : UInt8) : b3 (n3 a b c) = [a, b, c] := by
  have ha := a.toNat_lt
  have hb := b.toNat_lt
  have hc := c.toNat_lt
  unfold b3 n3
  rw [show (((a.toNat : Int) + b.toNat * 256 + c.toNat * 65536) % 256).toNat = a.toNat by omega,
    show (((a.toNat : Int) + b.toNat * 256 + c.toNat * 65536) / 256 % 256).toNat = b.toNat by omega,
    show (((a.toNat : Int) + b.toNat * 256 + c.toNat * 65536) / 65536 % 256).toNat = c.toNat by omega]
  simp

theorem Seal.read_form {l : Bs} {s : Seal} (h : Seal.read l = .ok s) : l.take 6 = s.bytes ∧ s.right = true := by
  rcases l with _ | ⟨a, l⟩
  · cases h
  rcases l with _ | ⟨b, l⟩
  · cases h
  rcases l with _ | ⟨c, l⟩
  · cases h
  rcases l with _ | ⟨d, l⟩
  · cases h
  rcases l with _ | ⟨e, l⟩
  · cases h
  rcases l with _ | ⟨f, l⟩
  · cases h
  rw [Seal.read] at h
  split at h
  · rename_i hr
    injection h with h
    subst h
    refine ⟨?_, hr⟩
    unfold Seal.bytes
    rw [if_pos hr]
    simp [b3_n3]
  · cases h

theorem Pol.fields_of {k : Nat} {l : List Int} (hl : l.length = 7) (hk : k = 1 ∨ k = 2) : ((Pol.of k l).fields.map fun f => f.1) = (k : Int) :: l := by
  match l, hl with
  | [c, a, b, x, y, z, w], _ =>
    rcases hk with rfl | rfl <;> simp [Pol.of, Pol.fields]

theorem Pol.read_form {b : Bs} {p : Pol} {to : Nat} (h : Pol.read b = .ok (p, to)) : b.take to = p.header ∧ to = p.header.length ∧ 4 < to := by
  have hlen := (Pol.read_ok h).2.1
  rw [Pol.read] at h
  split at h
  · simp at h
  · rename_i h0
    split at h
    · simp at h
    · rename_i k len hk
      split at h
      · simp at h
      · rename_i h1
        split at h
        · simp at h
        · rename_i l at_ hm
          simp only at h
          split at h
          · simp at h
          · rename_i h2
            split at h
            · simp at h
            · rename_i s hs
              split at h
              · rename_i h3
                simp at h
                obtain ⟨rfl, rfl⟩ := h
                have g1 := rdMany_form _ _ _ _ hm
                have g2 := rdMany_ok _ _ _ _ hm
                have g3 := rdB_form hk
                have g4 := Seal.read_form hs
                have hf := Pol.fields_of (k := k) g1.1 (by omega)
                have e : b.take at_ = (Pol.of k l).body := by
                  have : b.take at_ = b.take 4 ++ ((b.drop 4).take len ++ (b.drop (4 + len)).take (at_ - (4 + len))) := by
                    rw [← take_parts, show at_ = 4 + (len + (at_ - (4 + len))) by omega]
                    conv => lhs; rw [List.take_add]
                    congr 2
                    omega
                  rw [this, Decidable.not_not.1 h0, g1.2, g3.1]
                  unfold Pol.body
                  congr 1
                  rw [show ((Pol.of k l).fields.map fun f => numB f.1) = ((Pol.of k l).fields.map fun f => f.1).map numB by simp, hf]
                  simp
                have e2 : b.take (at_ + 6) = (Pol.of k l).header := by
                  unfold Pol.header
                  rw [if_pos (by simpa using h2), List.take_add, e, g4.1, h3, e]
                refine ⟨e2, ?_, by omega⟩
                rw [← e2]
                simp
                omega
              · simp at h

theorem scanned_eq {b : Bs} {p : Pol} {to : Nat} (h : Pol.read b = .ok (p, to)) : scanned b = .ok (p, (Maker.reads (b.take 4194304) 10001 (Maker.begun p)).1, (Maker.reads (b.take 4194304) 10001 (Maker.begun p)).2.1.size) := by
  unfold scanned; rw [h]

/-- no header is long -/
theorem numN_len : ∀ (k n : Nat), n < 128 ^ (k + 1) → (numN n).length ≤ k + 1 := by
  intro k
  induction k with
  | zero => intro n h; rw [numN_small (by simpa using h)]; simp
  | succ k ih =>
    intro n h
    rcases Nat.lt_or_ge n 128 with h1 | h1
    · rw [numN_small h1]; simp
    · rw [numN_great h1]
      have := ih (n / 128) (by rw [Nat.div_lt_iff_lt_mul (by omega)]; rw [Nat.pow_succ] at h; exact h)
      simp; omega

theorem numB_len (n : Int) : (numB n).length ≤ 9 := by
  unfold numB mayN maxNumber
  split
  · rename_i h
    simp at h
    refine numN_len 8 _ ?_
    have : (128 : Nat) ^ (8 + 1) = 9223372036854775808 := by decide
    omega
  · simp

theorem Seal.bytes_len (s : Seal) : s.bytes.length ≤ 6 := by
  unfold Seal.bytes; split <;> simp [b3]

theorem flat_len (l : List Int) : ((l.map numB).flatten).length ≤ 9 * l.length := by
  induction l with
  | nil => simp
  | cons a l ih =>
    have := numB_len a
    simp only [List.map_cons, List.flatten_cons, List.length_append, List.length_cons]
    omega

theorem Pol.header_len (p : Pol) : p.header.length ≤ 82 := by
  unfold Pol.header
  split
  · have h1 := Seal.bytes_len (Seal.start.adds p.body)
    have h2 : p.body.length ≤ 76 := by
      unfold Pol.body
      have := flat_len (p.fields.map fun f => f.1)
      rw [List.map_map] at this
      have h3 : (p.fields.map fun f => f.1).length = 8 := by
        unfold Pol.fields; split <;> simp
      rw [h3] at this
      simp only [List.length_append, List.length_cons, List.length_nil]
      have h4 : (p.fields.map fun f => numB f.1) = (p.fields.map (numB ∘ fun f => f.1)) := rfl
      rw [h4]; omega
    simp; omega
  · simp

theorem scan_more {b : Bs} {x y : Nat} (hxy : x ≤ y) (hy : y ≤ b.length) {p : Pol} {l : List Rec} {n : Nat} (h : scanned (b.take x) = .ok (p, l, n)) :
    ∃ l2 m, scanned (b.take y) = .ok (p, l ++ l2, m) ∧ n ≤ m ∧ n ≤ x ∧ m ≤ y ∧ (n = m ↔ l2 = []) := by
  cases hp : Pol.read (b.take x) with
  | error f => simp [scanned, hp] at h
  | ok q =>
    obtain ⟨q, to⟩ := q
    rw [scanned_eq hp] at h
    simp only [Except.ok.injEq, Prod.mk.injEq] at h
    obtain ⟨rfl, rfl, rfl⟩ := h
    have h1 := Pol.read_ok hp
    have h2 := Pol.read_form hp
    have h3 := Pol.header_len q
    have hx : (b.take x).length = x := by simp; omega
    have hA : Agree (min x 4194304) ((b.take x).take 4194304) ((b.take y).take 4194304) := by
      rw [List.take_take, List.take_take, Nat.min_comm 4194304 x, Nat.min_comm 4194304 y]
      exact agree_take (by omega) (by omega)
    have hs : (Maker.begun q).size ≤ ((b.take x).take 4194304).length := by
      rw [hx] at h1
      show q.header.length ≤ _
      simp
      omega
    have hlen : ((b.take x).take 4194304).length = min x 4194304 := by simp; omega
    have hlen' : ((b.take y).take 4194304).length = min y 4194304 := by simp; omega
    have h4 := Maker.reads_size ((b.take x).take 4194304) 10001 (Maker.begun q) (by show 0 ≤ 10000; omega) hs
    obtain ⟨j, hj, hr⟩ := Maker.reads_agree (b' := (b.take y).take 4194304) 10001 (Maker.begun q) (by show 0 ≤ 10000; omega) (by omega) hA (by omega) hs
    have hp' : Pol.read (b.take y) = .ok (q, to) := h1.2.2 _ x (agree_take hxy hy) (by rw [hx] at h1; exact h1.2.1)
    have h6 := Maker.reads_records ((b.take x).take 4194304) 10001 (Maker.begun q)
    have h7 : (Maker.begun q).records = 0 := rfl
    have h8 : (Maker.reads ((b.take x).take 4194304) 10001 (Maker.begun q)).2.1.records ≤ 10000 := Maker.reads_le _ _ _ (by show 0 ≤ 10000; omega)
    have h5 := Maker.reads_size ((b.take y).take 4194304) j (Maker.reads ((b.take x).take 4194304) 10001 (Maker.begun q)).2.1 h8 (by omega)
    refine ⟨_, _, by rw [scanned_eq hp', hr], h5.1, by omega, by omega, ?_⟩
    rw [h5.2.2]
    exact ⟨fun h => h.symm, fun h => h.symm⟩

theorem decode_of_scanned {b : Bs} {p : Pol} {l : List Rec} {n : Nat} (h : scanned b = .ok (p, l, n)) : n ≤ b.length ∧ n ≤ 4194304 ∧ decode (b.take n) = .ok (p, l) ∧ scanned (b.take n) = .ok (p, l, n) := by
  cases hp : Pol.read b with
  | error f => simp [scanned, hp] at h
  | ok q =>
    obtain ⟨q, to⟩ := q
    rw [scanned_eq hp] at h
    simp only [Except.ok.injEq, Prod.mk.injEq] at h
    obtain ⟨rfl, hl, hn⟩ := h
    have h1 := Pol.read_ok hp
    have h2 := Pol.read_form hp
    have h3 := Pol.header_len q
    have hr0 : (Maker.begun q).records ≤ 10000 := by show 0 ≤ 10000; omega
    have hs : (Maker.begun q).size ≤ (b.take 4194304).length := by
      show q.header.length ≤ _
      simp
      omega
    have h4 := Maker.reads_size (b.take 4194304) 10001 (Maker.begun q) hr0 hs
    have hto : (Maker.begun q).size = to := h2.2.1.symm
    rw [hn] at h4
    have hlen : (b.take 4194304).length = min b.length 4194304 := by simp; omega
    have hA : Agree n (b.take 4194304) (b.take n) := ⟨h4.2.1, by simp; omega, by rw [List.take_take, List.take_take]; congr 1; omega⟩
    obtain ⟨j, hj, hr⟩ := Maker.reads_agree (b' := b.take n) 10001 (Maker.begun q) hr0 (by omega) hA (by omega) hs
    have hend : (Maker.reads (b.take 4194304) 10001 (Maker.begun q)).2.1.next (b.take n) = .none_ := by
      rw [Maker.next, if_pos]
      rw [hn]; simp; omega
    have hj2 : Maker.reads (b.take n) j (Maker.reads (b.take 4194304) 10001 (Maker.begun q)).2.1 = ([], (Maker.reads (b.take 4194304) 10001 (Maker.begun q)).2.1, none) := by
      cases j with
      | zero => rw [Maker.reads]
      | succ j => rw [Maker.reads, hend]
    rw [hj2, List.append_nil, hl] at hr
    have hpn : Pol.read (b.take n) = .ok (q, to) := h1.2.2 _ n ⟨by omega, by simp; omega, by rw [List.take_take]; congr 1; omega⟩ (by omega)
    refine ⟨by omega, by omega, ?_, ?_⟩
    · unfold decode openR
      rw [if_neg (by simp; omega), hpn]
      simp only [hr]
      rfl
    · rw [scanned_eq hpn, List.take_take, Nat.min_eq_right (by omega), hr]
      simp only [hn]

/-- What decodes is scanned whole. -/
theorem scanned_of_decode {b : Bs} {p : Pol} {l : List Rec} (h : decode b = .ok (p, l)) : b.length ≤ 4194304 ∧ scanned b = .ok (p, l, b.length) := by
  unfold decode openR at h
  by_cases hb : b.length > 4194304
  · rw [if_pos hb] at h; simp at h
  rw [if_neg hb] at h
  cases hp : Pol.read b with
  | error f => simp [hp] at h
  | ok q =>
    obtain ⟨q, to⟩ := q
    have hr0 : (Maker.begun q).records ≤ 10000 := by show 0 ≤ 10000; omega
    have hend := Maker.reads_end b 10001 (Maker.begun q) hr0 (by omega)
    rw [hp] at h
    simp only at h
    split at h
    · rename_i l' m' hr
      simp only [Except.ok.injEq, Prod.mk.injEq] at h
      obtain ⟨rfl, rfl⟩ := h
      rw [hr] at hend
      simp only at hend
      rw [Maker.next] at hend
      split at hend
      · rename_i hsz
        refine ⟨by omega, ?_⟩
        rw [scanned_eq hp, List.take_of_length_le (by omega), hr]
        simp only [hsz]
        rfl
      · exfalso
        split at hend
        · simp at hend
        · split at hend
          · simp at hend
          · simp only at hend
            split at hend
            · simp at hend
            · split at hend <;> simp at hend
    · simp at h

theorem decode_scanned_error {b : Bs} {f : Fault} (h : scanned b = .error f) : ∀ r, decode b ≠ .ok r := by
  intro ⟨p, l⟩ hd
  rw [(scanned_of_decode hd).2] at h
  simp at h

theorem scan_longest {b : Bs} {p : Pol} {l : List Rec} {n : Nat} (h : scanned b = .ok (p, l, n)) {to : Nat} (h1 : n < to) (h2 : to ≤ b.length) : ∀ r, decode (b.take to) ≠ .ok r := by
  intro ⟨q, l'⟩ hd
  have hs := scanned_of_decode hd
  have hl : (b.take to).length = to := by simp; omega
  rw [hl] at hs
  obtain ⟨l2, m, hm, h3, h4, h5, h6⟩ := scan_more (b := b) (x := to) (y := b.length) h2 (Nat.le_refl _) hs.2
  rw [List.take_length, h] at hm
  simp only [Except.ok.injEq, Prod.mk.injEq] at hm
  omega

end Rv

/- The walks of package bits. No conditions but that a slice is read. -/
namespace Go.Proofs.YtcmndglhileeoaaGreat
open Go.RowKit

theorem or_digit (m k cv : Nat) (hk : k ≤ 8) (hm : m < 128 ^ k) :
    bits BinOp.or IntKind.u64 (m : Int) (IntKind.u64.wrap ((cv : Int) % 128 * 2 ^ (7 * k))) = ((m + cv % 128 * 128 ^ k : Nat) : Int) ∧ m + cv % 128 * 128 ^ k < 9223372036854775808 := by
  have e7 : (2 : Nat) ^ (7 * k) = 128 ^ k := by rw [Nat.pow_mul]
  have h8 : 128 ^ k ≤ 128 ^ 8 := Nat.pow_le_pow_right (by omega) hk
  have h88 : (128 : Nat) ^ 8 = 72057594037927936 := by decide
  have h1 : cv % 128 * 128 ^ k ≤ 127 * 128 ^ k := Nat.mul_le_mul_right _ (by omega)
  have e : ((cv : Int) % 128 * 2 ^ (7 * k)) = ((cv % 128 * 128 ^ k : Nat) : Int) := by
    rw [← e7]; push_cast; rfl
  have hor := Nat.shiftLeft_add_eq_or_of_lt (b := m) (i := 7 * k) (by rw [e7]; exact hm) (cv % 128)
  rw [Nat.shiftLeft_eq, e7] at hor
  rw [e]
  generalize cv % 128 * 128 ^ k = q at *
  have hw : IntKind.u64.wrap (q : Int) = (q : Int) := by
    simp [IntKind.wrap, IntKind.bits, IntKind.signed]
    omega
  rw [hw, bits_or_u64_nat _ _ (by omega) (by omega)]
  exact ⟨by congr 1; rw [Nat.or_comm, ← hor]; omega, by omega⟩
def readRes (at_ : Nat) : Rv.RB → Ending
  | .ok n len => .returned (.tuple #[.int .i64 (n : Int), .int .i64 ((at_ + len : Nat) : Int), .int .i64 0])
  | .bad er => .returned (.tuple #[.int .i64 0, .int .i64 0, .int .i64 er])

theorem read_ok3 (at_ n k : Nat) {x : Int} (h : x = n) : Ending.returned (.tuple #[.int .i64 x, .int .i64 ((at_ : Int) + ((k : Int) + 1)), .int .i64 0]) = readRes at_ (.ok n (k + 1)) := by
  subst h; unfold readRes; congr 4
set_option maxHeartbeats 400000 in
set_option maxRecDepth 100000 in
theorem read_any (A : Option Addr) (xs : List UInt8) (c at_ : Nat) (w : World) (hr : RdB w A xs) (hl : xs.length ≤ 140737488355328) (ha : at_ ≤ xs.length) :
    Calls Tryz.prog 52 #[.slice A xs.length c, .int .i64 (at_ : Int)] w fun e w' => e = readRes at_ (Rv.rdB (xs.drop at_)) ∧ w = w' := by
  have g1 : decide ((at_ : Int) < 0) = false := by simp
  have g2 : decide (xs.length < at_) = false := by simp; omega
  go_enter Tryz.func52, Tryz.ntmps52
  go_wp2
  go_step3
  go_wp2
  go_step3
  go_wp2
  go_loop [7, 8, 9] (fun n i _ => ∃ (m k : Nat), k ≤ 8 ∧ at_ + k ≤ xs.length ∧ m < 128 ^ k ∧ n = .int .u64 (m : Int) ∧ i = .int .i64 (k : Int) ∧ Hid (Rv.rdGo k m (xs.drop (at_ + k)) = Rv.rdB (xs.drop at_))) (fun _ i _ => xs.length - (intOf i).toNat)
  case atStart => exact ⟨0, 0, by omega, by omega, by simp, rfl, rfl, Lib.hid rfl⟩
  case round =>
    obtain ⟨m, k, h8, hk, hm, rfl, rfl, H⟩ := hrel
    by_cases hend : at_ + k = xs.length
    · have g3 : decide (at_ + k = xs.length) = true := by simpa using hend
      have g4 : ((at_ : Int) + (k : Int) == (xs.length : Int)) = true := by rw [beq_iff_eq]; omega
      have Hfin : Hid (Rv.rdB (xs.drop at_) = .bad 10) := Lib.hid (by rw [← H.out, List.drop_of_length_le (by omega)]; rfl)
      clear hend H
      go_wp2
      go_ret3
      exact ⟨by rw [Hfin.out]; rfl, rfl⟩
    · obtain ⟨cb, hcb⟩ := some_at (show at_ + k < xs.length by omega)
      obtain ⟨ad, rfl, hcell⟩ := hr _ _ hcb
      have g4 : ((at_ : Int) + (k : Int) == (xs.length : Int)) = false := by rw [beq_eq_false_iff_ne]; omega
      have g5 : (at_ : Int) + (k : Int) < (xs.length : Int) := by omega
      have hlt : cb.toNat < 256 := UInt8.toNat_lt _
      have Hcons : Hid (Rv.rdGo k m (cb :: xs.drop (at_ + k + 1)) = Rv.rdB (xs.drop at_)) := Lib.hid (by rw [← H.out, drop_cons_of hcb])
      clear hend H hcb
      have hst : Rv.rdGo k m (cb :: xs.drop (at_ + k + 1)) = (if (cb.toNat = 0 ∧ 0 < k) ∨ (k = 8 ∧ (128 ≤ cb.toNat ∨ 4611686018427387903 < m + cb.toNat % 128 * 128 ^ k)) then .bad 11
        else if cb.toNat < 128 then .ok (m + cb.toNat % 128 * 128 ^ k) (k + 1) else Rv.rdGo (k + 1) (m + cb.toNat % 128 * 128 ^ k) (xs.drop (at_ + k + 1))) := rfl
      have hn1 : cb.toNat < 128 → k < 8 → m + cb.toNat % 128 * 128 ^ k < 128 ^ (k + 1) := fun _ _ => by
        have := Nat.mul_le_mul_right (128 ^ k) (show cb.toNat % 128 ≤ 127 by omega)
        rw [Nat.pow_succ]; omega
      have hn2 : k < 8 → m + cb.toNat % 128 * 128 ^ k < 128 ^ (k + 1) := fun _ => by
        have := Nat.mul_le_mul_right (128 ^ k) (show cb.toNat % 128 ≤ 127 by omega)
        rw [Nat.pow_succ]; omega
      obtain ⟨hor, hn0⟩ := or_digit m k cb.toNat h8 hm
      rw [Hcons.out] at hst
      clear Hcons hm
      generalize m + cb.toNat % 128 * 128 ^ k = n' at *
      generalize cb.toNat = cv at *
      by_cases c1 : cv = 0 ∧ 0 < k
      · have Hfin : Hid (Rv.rdB (xs.drop at_) = .bad 11) := Lib.hid (by rw [hst, if_pos (.inl c1)])
        obtain ⟨rfl, hk0⟩ := c1
        clear hst hor hn1 hn2
        go_wp2
        go_ret3
        exact ⟨by rw [Hfin.out]; rfl, rfl⟩
      by_cases c2 : k = 8 ∧ (128 ≤ cv ∨ 4611686018427387903 < n')
      · have Hfin : Hid (Rv.rdB (xs.drop at_) = .bad 11) := Lib.hid (by rw [hst, if_pos (.inr c2)])
        obtain ⟨hk8, h2⟩ := c2
        have hk8' : 8 ≤ k := by omega
        clear hst hn1 hn2 hk8
        have hne : ¬ cv = 0 := by omega
        rcases Nat.lt_or_ge cv 128 with h3 | h3
        · have h4 : 4611686018427387903 < (n' : Int) := by omega
          clear h2 c1
          go_wp2
          go_ret3
          exact ⟨by rw [Hfin.out]; rfl, rfl⟩
        · clear h2 c1
          go_wp2
          go_ret3
          exact ⟨by rw [Hfin.out]; rfl, rfl⟩
      rw [if_neg (by omega)] at hst
      by_cases c3 : cv < 128
      · have Hfin : Hid (Rv.rdB (xs.drop at_) = .ok n' (k + 1)) := Lib.hid (by rw [hst, if_pos c3])
        rcases Nat.lt_or_ge k 8 with h8' | h8'
        · by_cases hz : cv = 0
          · have hz' : cv ≤ 0 := by omega
            have hk0 : k ≤ 0 := by omega
            clear hst hn1 hn2 c1 c2 hz
            go_wp2
            go_ret3
            exact ⟨by rw [Hfin.out]; exact read_ok3 _ _ _ rfl, rfl⟩
          · clear hst hn1 hn2 c1 c2
            go_wp2
            go_ret3
            exact ⟨by rw [Hfin.out]; exact read_ok3 _ _ _ rfl, rfl⟩
        · have hz : ¬ cv = 0 := by omega
          have hnm : (n' : Int) ≤ 4611686018427387903 := by omega
          clear hst hn1 hn2 c1 c2
          go_wp2
          go_ret3
          exact ⟨by rw [Hfin.out, show k + 1 = 9 by omega]; rfl, rfl⟩
      · have hn3 := hn2 (by omega)
        have Hnext : Hid (Rv.rdGo (k + 1) n' (xs.drop (at_ + k + 1)) = Rv.rdB (xs.drop at_)) := Lib.hid (by rw [hst, if_neg c3])
        have hz : ¬ cv = 0 := by omega
        have h8' : k < 8 := by omega
        have c3' : 128 ≤ cv := by omega
        clear hst hn1 hn2 c1 c2 c3
        go_wp2
        go_round
        case rel => exact ⟨n', k + 1, by omega, by omega, hn3, rfl, by go_num, Hnext⟩
        case measure => simp [intOf]; omega


theorem may_yes (n : Int) (w : World) (h0 : 0 ≤ n) (h1 : n ≤ 4611686018427387903) : Calls Tryz.prog 113 #[.int .i64 n] w fun e w' => e = .returned (.bool true) ∧ w = w' := by
  go_enter Tryz.func113, Tryz.ntmps113
  go_wp2
  go_ret
  exact ⟨rfl, rfl⟩
theorem may_no (n : Int) (w : World) (h : n < 0 ∨ 4611686018427387903 < n) : Calls Tryz.prog 113 #[.int .i64 n] w fun e w' => e = .returned (.bool false) ∧ w = w' := by
  rcases h with h | h
  · have hd : decide (0 ≤ n) = false := by simp; omega
    go_enter Tryz.func113, Tryz.ntmps113
    go_wp2
    go_ret
    exact ⟨rfl, rfl⟩
  · have h0 : 0 ≤ n := by omega
    have hd : decide (n ≤ 4611686018427387903) = false := by simp; omega
    go_enter Tryz.func113, Tryz.ntmps113
    go_wp2
    go_ret
    exact ⟨rfl, rfl⟩

theorem infoB : (Tryz.prog.info? 5).map (fun i => (i.zero, i.size, i.bytes)) = some (some (.int .u8 0), 1, 1) := by kernel_rfl
def numRes (n : Int) (w : World) (e : Ending) (w' : World) : Prop :=
  ∃ v, e = .returned (.tuple #[v, .int .i64 (if Rv.mayN n then 0 else 1)]) ∧ OwnB w' w.heap.size v (Rv.numB n) ∧ Below w.heap.size w w'

set_option maxHeartbeats 400000 in
set_option maxRecDepth 100000 in
theorem number_any (n : Int) (w : World) : Calls Tryz.prog 71 #[.int .i64 n] w (numRes n w) := by
  by_cases hm : n < 0 ∨ 4611686018427387903 < n
  · have Hfin : Hid (Rv.mayN n = false ∧ Rv.numB n = []) := Lib.hid ⟨mayN_no hm, numB_no hm⟩
    go_enter Tryz.func71, Tryz.ntmps71
    go_wp2_with (go_at_call 113; refine (may_no _ _ hm).mono ?_; rintro e w' ⟨rfl, rfl⟩)
    go_ret2
    exact ⟨_, by rw [Hfin.out.1]; rfl, by rw [Hfin.out.2]; exact OwnB.nil _ _, Below.refl _ _⟩
  · obtain ⟨k, rfl⟩ := Int.eq_ofNat_of_zero_le (show 0 ≤ n by omega)
    have h1 : (k : Int) ≤ 4611686018427387903 := by omega
    have Hfin : Hid (Rv.mayN k = true ∧ Rv.numB k = Rv.numN k) := Lib.hid ⟨mayN_yes (by omega) h1, numB_yes (by omega)⟩
    have h0 : 0 ≤ (k : Int) := by omega
    clear hm
    go_enter Tryz.func71, Tryz.ntmps71
    go_wp2_with (first
      | (go_at_call 113; refine (may_yes _ _ h0 h1).mono ?_; rintro e w' ⟨rfl, rfl⟩)
      | (at_make; refine makeb_cap (w0 := w) w.heap.size rfl _ _ 22 rfl Tryz.underlying22 infoB _ 9 rfl rfl rfl (by omega) (Below.refl _ _) (Nat.le_refl _) ?_; intro v1 w1 HO1 HB1 hg1))
    go_loopw [4, 0] (fun v n wr => ∃ (m : Nat) (ys : List UInt8), n = .int .i64 (m : Int) ∧ (m : Int) ≤ 4611686018427387903 ∧ OwnB wr w.heap.size v ys ∧ Below w.heap.size w wr ∧ Hid (ys ++ Rv.numN m = Rv.numN k)) (fun _ n _ => (intOf n).toNat)
    case atStart => exact ⟨k, [], rfl, h1, HO1, HB1, Lib.hid rfl⟩
    case round =>
      clear HO1 HB1 hg1
      obtain ⟨m, ys, rfl, hm1, HO, HB, HE⟩ := hrel
      have hlen : ys.length ≤ 9 := by
        have h2 := congrArg List.length HE.out
        have h3 := Rv.numN_len 8 k (by have : (128 : Nat) ^ (8 + 1) = 9223372036854775808 := by decide
                                       omega)
        simp at h2
        omega
      have hsz := HB.size
      by_cases hlt : m < 128
      · have hc : (UInt8.ofNat m).toNat = m := by simp; omega
        have HE' : Hid (ys ++ [UInt8.ofNat m] = Rv.numN k) := Lib.hid (by rw [← HE.out, Rv.numN_small hlt])
        clear HE
        go_wp2_with (first
          | (at_builtin; refine appb_one (w0 := w) w.heap.size rfl _ _ 22 rfl Tryz.underlying22 infoB _ ys _ (UInt8.ofNat m) (by omega) (by rfl) (by rfl) HO HB hsz (by omega) ?_; intro v1 w1 HO1 HB1 hg1))
        go_ret2
        exact ⟨_, by rw [Hfin.out.1]; rfl, by rw [Hfin.out.2, ← HE'.out]; exact HO1, HB1⟩
      · have hge : 128 ≤ m := by omega
        have hm2 : (m : Int) / 128 = ((m / 128 : Nat) : Int) := by omega
        have hc : (UInt8.ofNat (m % 128 + 128)).toNat = m % 128 + 128 := by simp; omega
        have HE' : Hid ((ys ++ [UInt8.ofNat (m % 128 + 128)]) ++ Rv.numN (m / 128) = Rv.numN k) := Lib.hid (by rw [← HE.out, Rv.numN_great hge]; simp)
        clear HE hlt
        have Hm2 := Lib.hid hm2
        have hor : bits BinOp.or IntKind.u8 ((m : Int) % 128) 128 = (m : Int) % 128 + 128 := u8_or128_right _ (by omega) (by omega)
        clear hm2
        go_wp2_with (first
          | (at_builtin; refine appb_one (w0 := w) w.heap.size rfl _ _ 22 rfl Tryz.underlying22 infoB _ ys _ (UInt8.ofNat (m % 128 + 128)) (by omega) (by rfl) (by rfl) HO HB hsz (by omega) ?_; intro v1 w1 HO1 HB1 hg1))
        go_roundw
        case rel => exact ⟨m / 128, ys ++ [UInt8.ofNat (m % 128 + 128)], by rw [Hm2.out], by omega, HO1, HB1, HE'⟩
        case measure => simp [intOf]; omega

theorem number_yes (n : Int) (w : World) (h0 : 0 ≤ n) (h1 : n ≤ 4611686018427387903) :
    Calls Tryz.prog 71 #[.int .i64 n] w fun e w' => ∃ v, e = .returned (.tuple #[v, .int .i64 0]) ∧ OwnB w' w.heap.size v (Rv.numB n) ∧ Below w.heap.size w w' :=
  (number_any n w).mono fun e w' ⟨v, he, hO, hB⟩ => ⟨v, by rw [he, mayN_yes h0 h1]; rfl, hO, hB⟩

theorem zig_any (n : Int) (w : World) (h0 : -2305843009213693952 ≤ n) (h1 : n ≤ 2305843009213693951) :
    Calls Tryz.prog 41 #[.int .i64 n] w fun e w' => e = .returned (.tuple #[.int .i64 (Rv.zig n).1, .int .i64 0]) ∧ w = w' := by
  by_cases hn : n < 0
  · have Hz : Hid ((Rv.zig n).1 = -2 * n - 1) := Lib.hid (by unfold Rv.zig; rw [if_neg (by omega), if_pos hn])
    have d1 : decide (n < -2305843009213693952) = false := by simp; omega
    have d2 : decide (2305843009213693951 < n) = false := by simp; omega
    go_enter Tryz.func41, Tryz.ntmps41
    go_wp2
    go_ret2
    exact ⟨by rw [Hz.out]; rfl, rfl⟩
  · have Hz : Hid ((Rv.zig n).1 = 2 * n) := Lib.hid (by unfold Rv.zig; rw [if_neg (by omega), if_neg hn])
    have d1 : decide (n < -2305843009213693952) = false := by simp; omega
    have d2 : decide (2305843009213693951 < n) = false := by simp; omega
    have d3 : 0 ≤ n := by omega
    clear hn
    go_enter Tryz.func41, Tryz.ntmps41
    go_wp2
    go_ret2
    exact ⟨by rw [Hz.out]; rfl, rfl⟩

theorem zag_any (n : Nat) (w : World) (h1 : n ≤ 4611686018427387903) :
    Calls Tryz.prog 94 #[.int .i64 (n : Int)] w fun e w' => e = .returned (.tuple #[.int .i64 (Rv.zag n).1, .int .i64 0]) ∧ w = w' := by
  have h0 : 0 ≤ (n : Int) := by omega
  have h2 : (n : Int) ≤ 4611686018427387903 := by omega
  have hm := mayN_yes h0 h2
  by_cases hn : (n : Int) % 2 = 1
  · have Hz : Hid ((Rv.zag n).1 = -((n : Int) / 2) - 1) := Lib.hid (by unfold Rv.zag; rw [if_neg (by rw [hm]; simp), if_pos hn])
    clear hm
    go_enter Tryz.func94, Tryz.ntmps94
    go_wp2_with (go_at_call 113; refine (may_yes _ _ h0 h2).mono ?_; rintro e w' ⟨rfl, rfl⟩)
    go_ret2
    exact ⟨by rw [Hz.out]; rfl, rfl⟩
  · have Hz : Hid ((Rv.zag n).1 = ((n : Int) / 2)) := Lib.hid (by unfold Rv.zag; rw [if_neg (by rw [hm]; simp), if_neg hn])
    clear hm
    go_enter Tryz.func94, Tryz.ntmps94
    go_wp2_with (go_at_call 113; refine (may_yes _ _ h0 h2).mono ?_; rintro e w' ⟨rfl, rfl⟩)
    go_ret2
    exact ⟨by rw [Hz.out]; rfl, rfl⟩

end Go.Proofs.YtcmndglhileeoaaGreat

/- Walks of package record: the small ones, Right, number. -/
set_option linter.unusedSimpArgs false
set_option linter.unusedVariables false
namespace Go.Proofs.YtcmndglhileeoaaGreat
open Go.RowKit

theorem mayTick_any (n : Int) (b : Bool) (hb : Rv.inB n 0 1099511627776 = b) (w : World) : Calls Tryz.prog 81 #[.int .i64 n] w fun e w' => e = .returned (.bool b) ∧ w = w' := by
  subst hb
  by_cases h0 : 0 ≤ n
  · have d0 : decide (0 ≤ n) = true := by simpa using h0
    by_cases h1 : n ≤ 1099511627776
    · have hb : Hid (Rv.inB n 0 1099511627776 = true) := Lib.hid (by unfold Rv.inB; rw [decide_eq_true h0, decide_eq_true h1]; rfl)
      have d1 : decide (n ≤ 1099511627776) = true := by simpa using h1
      rw [hb.out]
      go_enter Tryz.func81, Tryz.ntmps81
      go_wp2
      go_ret
      exact ⟨rfl, rfl⟩
    · have hb : Hid (Rv.inB n 0 1099511627776 = false) := Lib.hid (by unfold Rv.inB; rw [decide_eq_true h0, decide_eq_false h1]; rfl)
      have d1 : decide (n ≤ 1099511627776) = false := by simp; omega
      rw [hb.out]
      go_enter Tryz.func81, Tryz.ntmps81
      go_wp2
      go_ret
      exact ⟨rfl, rfl⟩
  · have hb : Hid (Rv.inB n 0 1099511627776 = false) := Lib.hid (by unfold Rv.inB; rw [decide_eq_false h0]; rfl)
    have d0 : decide (0 ≤ n) = false := by simp; omega
    rw [hb.out]
    go_enter Tryz.func81, Tryz.ntmps81
    go_wp2
    go_ret
    exact ⟨rfl, rfl⟩

theorem mayKey_any (n : Int) (b : Bool) (hb : Rv.inB n 1 64 = b) (w : World) : Calls Tryz.prog 82 #[.int .i64 n] w fun e w' => e = .returned (.bool b) ∧ w = w' := by
  subst hb
  by_cases h0 : 1 ≤ n
  · have d0 : decide (1 ≤ n) = true := by simpa using h0
    by_cases h1 : n ≤ 64
    · have hb : Hid (Rv.inB n 1 64 = true) := Lib.hid (by unfold Rv.inB; rw [decide_eq_true h0, decide_eq_true h1]; rfl)
      have d1 : decide (n ≤ 64) = true := by simpa using h1
      rw [hb.out]
      go_enter Tryz.func82, Tryz.ntmps82
      go_wp2
      go_ret
      exact ⟨rfl, rfl⟩
    · have hb : Hid (Rv.inB n 1 64 = false) := Lib.hid (by unfold Rv.inB; rw [decide_eq_true h0, decide_eq_false h1]; rfl)
      have d1 : decide (n ≤ 64) = false := by simp; omega
      rw [hb.out]
      go_enter Tryz.func82, Tryz.ntmps82
      go_wp2
      go_ret
      exact ⟨rfl, rfl⟩
  · have hb : Hid (Rv.inB n 1 64 = false) := Lib.hid (by unfold Rv.inB; rw [decide_eq_false h0]; rfl)
    have d0 : decide (1 ≤ n) = false := by simp; omega
    rw [hb.out]
    go_enter Tryz.func82, Tryz.ntmps82
    go_wp2
    go_ret
    exact ⟨rfl, rfl⟩

theorem mayCost_any (n : Int) (b : Bool) (hb : Rv.inB n 1 1048576 = b) (w : World) : Calls Tryz.prog 83 #[.int .i64 n] w fun e w' => e = .returned (.bool b) ∧ w = w' := by
  subst hb
  by_cases h0 : 1 ≤ n
  · have d0 : decide (1 ≤ n) = true := by simpa using h0
    by_cases h1 : n ≤ 1048576
    · have hb : Hid (Rv.inB n 1 1048576 = true) := Lib.hid (by unfold Rv.inB; rw [decide_eq_true h0, decide_eq_true h1]; rfl)
      have d1 : decide (n ≤ 1048576) = true := by simpa using h1
      rw [hb.out]
      go_enter Tryz.func83, Tryz.ntmps83
      go_wp2
      go_ret
      exact ⟨rfl, rfl⟩
    · have hb : Hid (Rv.inB n 1 1048576 = false) := Lib.hid (by unfold Rv.inB; rw [decide_eq_true h0, decide_eq_false h1]; rfl)
      have d1 : decide (n ≤ 1048576) = false := by simp; omega
      rw [hb.out]
      go_enter Tryz.func83, Tryz.ntmps83
      go_wp2
      go_ret
      exact ⟨rfl, rfl⟩
  · have hb : Hid (Rv.inB n 1 1048576 = false) := Lib.hid (by unfold Rv.inB; rw [decide_eq_false h0]; rfl)
    have d0 : decide (1 ≤ n) = false := by simp; omega
    rw [hb.out]
    go_enter Tryz.func83, Tryz.ntmps83
    go_wp2
    go_ret
    exact ⟨rfl, rfl⟩

theorem mayVerdict_any (n : Int) (b : Bool) (hb : Rv.inB n 0 2 = b) (w : World) : Calls Tryz.prog 84 #[.int .i64 n] w fun e w' => e = .returned (.bool b) ∧ w = w' := by
  subst hb
  by_cases h0 : 0 ≤ n
  · have d0 : decide (0 ≤ n) = true := by simpa using h0
    by_cases h1 : n ≤ 2
    · have hb : Hid (Rv.inB n 0 2 = true) := Lib.hid (by unfold Rv.inB; rw [decide_eq_true h0, decide_eq_true h1]; rfl)
      have d1 : decide (n ≤ 2) = true := by simpa using h1
      rw [hb.out]
      go_enter Tryz.func84, Tryz.ntmps84
      go_wp2
      go_ret
      exact ⟨rfl, rfl⟩
    · have hb : Hid (Rv.inB n 0 2 = false) := Lib.hid (by unfold Rv.inB; rw [decide_eq_true h0, decide_eq_false h1]; rfl)
      have d1 : decide (n ≤ 2) = false := by simp; omega
      rw [hb.out]
      go_enter Tryz.func84, Tryz.ntmps84
      go_wp2
      go_ret
      exact ⟨rfl, rfl⟩
  · have hb : Hid (Rv.inB n 0 2 = false) := Lib.hid (by unfold Rv.inB; rw [decide_eq_false h0]; rfl)
    have d0 : decide (0 ≤ n) = false := by simp; omega
    rw [hb.out]
    go_enter Tryz.func84, Tryz.ntmps84
    go_wp2
    go_ret
    exact ⟨rfl, rfl⟩

abbrev recV (r : Rv.Rec) : Value := .agg #[.int .i64 r.tick, .string r.key, .int .i64 r.cost, .int .i64 r.verdict]

theorem keyOk_inB (k : ByteArray) : Rv.inB (k.size : Int) 1 64 = Rv.keyOk k := by
  unfold Rv.inB Rv.keyOk
  congr 1
  · simp; omega
  · simp; omega

set_option maxHeartbeats 1000000 in
theorem rright_any (r : Rv.Rec) (w : World) : Calls Tryz.prog 39 #[.agg #[.int .i64 r.tick, .string r.key, .int .i64 r.cost, .int .i64 r.verdict]] w fun e w' => e = .returned (.int .i64 r.right) ∧ Below w.heap.size w w' := by
  obtain ⟨tick, key, cost, verdict⟩ := r
  have HB : ∀ o, Below w.heap.size w (w.alloc o) := fun o => (Below.refl _ _).alloc (Nat.le_refl _) o
  have HB' := Lib.hid HB
  clear HB
  cases h1 : Rv.tickOk tick with
  | false =>
    have Hr : Hid (Rv.Rec.right ⟨tick, key, cost, verdict⟩ = 60) := Lib.hid (by unfold Rv.Rec.right; simp [h1])
    have H1 : Hid (Rv.inB tick 0 1099511627776 = false) := Lib.hid h1
    clear h1
    go_enter Tryz.func39, Tryz.ntmps39
    go_wp2_with (go_at_call 81; refine (mayTick_any _ _ H1.out _).mono ?_; rintro e w' ⟨rfl, rfl⟩)
    go_ret
    exact ⟨by rw [Hr.out]; rfl, HB'.out _⟩
  | true =>
    have H1 : Hid (Rv.inB tick 0 1099511627776 = true) := Lib.hid h1
    cases h2 : Rv.keyOk key with
    | false =>
      have Hr : Hid (Rv.Rec.right ⟨tick, key, cost, verdict⟩ = 61) := Lib.hid (by unfold Rv.Rec.right; simp [h1, h2])
      have H2 : Hid (Rv.inB (key.size : Int) 1 64 = false) := Lib.hid ((keyOk_inB key).trans h2)
      clear h1 h2
      go_enter Tryz.func39, Tryz.ntmps39
      go_wp2_with (first | (go_at_call 81; refine (mayTick_any _ _ H1.out _).mono ?_; rintro e w' ⟨rfl, rfl⟩) | (go_at_call 82; refine (mayKey_any _ _ H2.out _).mono ?_; rintro e w' ⟨rfl, rfl⟩))
      go_ret
      exact ⟨by rw [Hr.out]; rfl, HB'.out _⟩
    | true =>
      have H2 : Hid (Rv.inB (key.size : Int) 1 64 = true) := Lib.hid ((keyOk_inB key).trans h2)
      cases h3 : Rv.costOk cost with
      | false =>
        have Hr : Hid (Rv.Rec.right ⟨tick, key, cost, verdict⟩ = 62) := Lib.hid (by unfold Rv.Rec.right; simp [h1, h2, h3])
        have H3 : Hid (Rv.inB cost 1 1048576 = false) := Lib.hid h3
        clear h1 h2 h3
        go_enter Tryz.func39, Tryz.ntmps39
        go_wp2_with (first | (go_at_call 81; refine (mayTick_any _ _ H1.out _).mono ?_; rintro e w' ⟨rfl, rfl⟩) | (go_at_call 82; refine (mayKey_any _ _ H2.out _).mono ?_; rintro e w' ⟨rfl, rfl⟩) | (go_at_call 83; refine (mayCost_any _ _ H3.out _).mono ?_; rintro e w' ⟨rfl, rfl⟩))
        go_ret
        exact ⟨by rw [Hr.out]; rfl, HB'.out _⟩
      | true =>
        have H3 : Hid (Rv.inB cost 1 1048576 = true) := Lib.hid h3
        obtain ⟨b, h4⟩ : ∃ b, b = Rv.verdictOk verdict := ⟨_, rfl⟩
        have Hr : Hid (Rv.Rec.right ⟨tick, key, cost, verdict⟩ = if b then 0 else 63) := Lib.hid (by unfold Rv.Rec.right; simp [h1, h2, h3, ← h4]; cases b <;> rfl)
        have H4 : Hid (Rv.inB verdict 0 2 = b) := Lib.hid h4.symm
        clear h1 h2 h3 h4
        cases b <;> (
          go_enter Tryz.func39, Tryz.ntmps39
          go_wp2_with (first | (go_at_call 81; refine (mayTick_any _ _ H1.out _).mono ?_; rintro e w' ⟨rfl, rfl⟩) | (go_at_call 82; refine (mayKey_any _ _ H2.out _).mono ?_; rintro e w' ⟨rfl, rfl⟩) | (go_at_call 83; refine (mayCost_any _ _ H3.out _).mono ?_; rintro e w' ⟨rfl, rfl⟩) | (go_at_call 84; refine (mayVerdict_any _ _ H4.out _).mono ?_; rintro e w' ⟨rfl, rfl⟩))
          go_ret
          exact ⟨by rw [Hr.out]; rfl, HB'.out _⟩)

/-- record.number: a number behind bytes of one's own. -/
def putRes (w : World) (v : Value) (xs ys : List UInt8) (e : Ending) (w' : World) : Prop :=
  ∃ B C, e = .returned (.slice B (xs.length + ys.length) C) ∧ OwnB w' 0 (.slice B (xs.length + ys.length) C) (xs ++ ys) ∧ Kept (fun k => v.ownBlock = some k) w w' ∧ (∀ k, (Value.slice B (xs.length + ys.length) C).ownBlock = some k → v.ownBlock = some k ∨ w.heap.size ≤ k)

set_option maxHeartbeats 1000000 in
theorem rnumber_any (v : Value) (xs : List UInt8) (n : Int) (w : World) (ho : OwnB w 0 v xs) (hl : xs.length ≤ 4194304) :
    Calls Tryz.prog 40 #[v, .int .i64 n] w (putRes w v xs (Rv.numB n)) := by
  have hl2 : (Rv.numB n).length ≤ 9 := Rv.numB_len n
  have Ho := Lib.hid ho
  clear ho
  go_enter Tryz.func40, Tryz.ntmps40
  go_wp2_with fail
  refine (number_any n _).mono ?_
  rintro e w1 ⟨v1, rfl, o1, b1⟩
  generalize (if Rv.mayN n = true then (0 : Int) else 1) = er
  obtain ⟨A, c, rfl, hc1, hc2, hr⟩ := o1.shape
  have Hnil := Lib.hid o1.nilcap
  have Hr := Lib.hid hr
  have B1 := Lib.hid b1
  clear o1 b1 hr hc1 hc2
  go_wp2_with (at_builtin; refine app_src_at rfl (.tmp 12) (.tmp 13) 22 5 (.int .u8 0) 1 rfl Tryz.underlying22 infoB rfl (by omega) v (u8s xs) (u8s (Rv.numB n)) A c (by rfl) (by rw [u8s_length]; rfl) (u8s_one _) (Ho.out.below B1.out).toV Hr.out.toV (by rw [u8s_length, u8s_length]; omega) Hnil.out (xs.length + (Rv.numB n).length) (by rw [u8s_length, u8s_length]) ?_; intro B2 C2 w2 o2 k2 l2; have O2 := Lib.hid o2; have K2 := Lib.hid k2; have L2 := Lib.hid l2; clear o2 k2 l2)
  go_ret
  refine ⟨_, _, rfl, ?_, (Kept.of_below B1.out).trans K2.out (fun _ _ h => h), fun k hk => (L2.out k hk).imp id (fun h => by have := B1.out.size; omega)⟩
  have := O2.out
  rw [← u8s_append] at this
  exact this.toB
end Go.Proofs.YtcmndglhileeoaaGreat

/- Walks of package record: Coder.Put. -/
set_option linter.unusedSimpArgs false
set_option linter.unusedVariables false
namespace Go.Proofs.YtcmndglhileeoaaGreat
open Go.RowKit

/-- Bytes of one's own, in a row that was v's or is new. -/
def outRes (w : World) (v : Value) (zs : List UInt8) (e : Ending) (w' : World) : Prop :=
  ∃ B C, e = .returned (.slice B zs.length C) ∧ OwnB w' 0 (.slice B zs.length C) zs ∧ Kept (fun k => v.ownBlock = some k) w w' ∧ (∀ k, (Value.slice B zs.length C).ownBlock = some k → v.ownBlock = some k ∨ w.heap.size ≤ k)
theorem rnumber_to (v : Value) (xs : List UInt8) (n : Int) (w : World) (zs : List UInt8) (hz : xs ++ Rv.numB n = zs) (ho : OwnB w 0 v xs) (hl : xs.length ≤ 4194304) :
    Calls Tryz.prog 40 #[v, .int .i64 n] w (outRes w v zs) := by
  refine (rnumber_any v xs n w ho hl).mono ?_
  rintro e w' ⟨B, C, rfl, o, k, l⟩
  subst hz
  rw [← List.length_append] at *
  exact ⟨B, C, rfl, o, k, l⟩

theorem belowN {B : Nat} {a w : World} (n : Nat) (h : Below B a w) : Below B a (w.drewN n) := ⟨h.os, h.tape, h.output, h.size, h.block⟩
theorem OwnV.rebase {w : World} {b : Nat} {e : TypeId} {v : Value} {vs : List Value} (h : OwnV w 0 e v vs) (hb : ∀ k, v.ownBlock = some k → b ≤ k) : OwnV w b e v vs := by
  refine ⟨h.1, ?_⟩
  rcases h.2 with hn | ⟨g, cap, cur, rfl, _, r⟩
  · exact .inl hn
  · exact .inr ⟨g, cap, cur, rfl, hb g rfl, r⟩
theorem OwnB.rebase {w : World} {b : Nat} {v : Value} {vs : List UInt8} (h : OwnB w 0 v vs) (hb : ∀ k, v.ownBlock = some k → b ≤ k) : OwnB w b v vs := (h.toV.rebase hb).toB

theorem app_str {P : Program} {ops : Array Oper} {rest : List Oper} {o : Oper} {a : Act} {Q : Exit → Act → World → Prop} {W : World} (base : Nat) (hgd : o.guard = none) (s x : Operand) (t u : TypeId)
    (ho : o.op = .call { callee := .builtin .append, args := #[s, x], argTypes := #[t, u] })
    (ht : P.underlying t = some (.slice 5)) (hu : P.underlying u = some .string) (hinfo : (P.info? 5).map (fun i => (i.zero, i.size, i.bytes)) = some (some (.int .u8 0), 1, 1))
    (v : Value) (xs : List UInt8) (str : ByteArray) (hs : a.eval s = v) (hx : a.eval x = .string str) (HO : OwnB W base v xs) (hbase : base ≤ W.heap.size) (N : Nat) (hN : xs.length + str.size = N) (hl : N ≤ 140737488355328)
    (h : ∀ B1 C1 w1, OwnB w1 base (.slice B1 N C1) (xs ++ Rv.bytesOf str) → Kept (fun k => v.ownBlock = some k) W w1 → wpList P ops Q rest (a.put o.dst (.slice B1 N C1)) w1) : wpList P ops Q (o :: rest) a W := by
  subst hN
  obtain ⟨i0, hi, hz0, hz1, hz2⟩ := info_parts' hinfo
  refine Lib.wpList_append_own_string W hgd s x t u ho base 5 i0 ht hu hi hz0 hz1 hz2 v xs.length (u8s xs) hs HO str hx (by simp only [maxLen]; omega) hl hbase ?_
  intro v1 w1 o1 g1 _
  have e : u8s xs ++ Lib.strCells str = u8s (xs ++ Rv.bytesOf str) := by rw [u8s_append]; rfl
  have o2 : OwnB w1 base v1 (xs ++ Rv.bytesOf str) := by
    unfold OwnB
    rw [← e]
    have : (xs ++ Rv.bytesOf str).length = xs.length + str.size := by rw [List.length_append]; congr 1
    rw [this]; exact o1
  obtain ⟨B1, C1, rfl, -, -, -⟩ := o2.shape
  have : (xs ++ Rv.bytesOf str).length = xs.length + str.size := by rw [List.length_append]; congr 1
  rw [this] at o2 ⊢
  exact h B1 C1 w1 o2 (Kept.of_grown g1 fun k hk _ => hk)

structure COk (c : Rv.Coder) : Prop where
  t0 : 0 ≤ c.tick
  t1 : c.tick ≤ 1099511627776
  c0 : 0 ≤ c.cost
  c1 : c.cost ≤ 1048576

/-- At g stands a coder; its memory lies in S. -/
def CoderAt (w : World) (S : Nat → Prop) (g : Nat) (c : Rv.Coder) : Prop :=
  COk c ∧ S g ∧ ∃ gd, w.heap[g]? = some (.cells #[.pointer (some ⟨gd, 0, none⟩), .int .i64 c.tick, .int .i64 c.cost] 108 (0, 0)) ∧ DictAt w (fun k => S k ∧ k ≠ g) gd c.d
theorem CoderAt.kept {w w' : World} {S T : Nat → Prop} {g : Nat} {c : Rv.Coder} (h : CoderAt w S g c) (k : Kept T w w') (hd : ∀ i, S i → ¬ T i) : CoderAt w' S g c := by
  obtain ⟨ok, hg, gd, h1, h2⟩ := h
  exact ⟨ok, hg, gd, (k.block g (Array.getElem?_eq_some_iff.1 h1).1 (hd g hg)).trans h1, h2.kept k (fun i hi => hd i hi.1)⟩
theorem CoderAt.mono {w : World} {S S' : Nat → Prop} {g : Nat} {c : Rv.Coder} (h : CoderAt w S g c) (hs : ∀ i, i < w.heap.size → S i → S' i) : CoderAt w S' g c := by
  obtain ⟨ok, hg, gd, h1, h2⟩ := h
  exact ⟨ok, hs g (Array.getElem?_eq_some_iff.1 h1).1 hg, gd, h1, h2.mono (fun i hi h => ⟨hs i hi h.1, h.2⟩)⟩
theorem CoderAt.below {w w' : World} {S : Nat → Prop} {g : Nat} {c : Rv.Coder} (h : CoderAt w S g c) (hb : Below w.heap.size w w') : CoderAt w' S g c := h.kept (Kept.of_below (S := fun _ => False) hb) (fun _ _ h => h)

/-- What may have turned: S's blocks; what it is now lies in S' . -/
def Moved (S S' : Nat → Prop) (w w' : World) : Prop := Kept S w w' ∧ ∀ k, S' k → (S k ∨ w.heap.size ≤ k) ∧ k < w'.heap.size

theorem use_moved (w : World) (S : Nat → Prop) (g : Nat) (d : Rv.Dict) (key : ByteArray) (h : DictAt w S g d) (h0 : 1 ≤ key.size) (h1 : key.size ≤ 64) :
    Calls Tryz.prog 42 #[.pointer (some ⟨g, 0, none⟩), .string key] w fun e w' => e = .returned (.tuple #[.int .i64 ((d.use key).2.1 : Int), .bool (d.use key).2.2, .int .i64 0]) ∧ ∃ S', DictAt w' S' g (d.use key).1 ∧ Moved S S' w w' := by
  refine (use_any w S g d key h h0 h1).mono ?_
  rintro e w' ⟨rfl, S', h1, h2, h3⟩
  exact ⟨rfl, fun k => S' k ∧ k < w'.heap.size, h1.mono (fun i hi h => ⟨h, hi⟩), h2, fun k hk => ⟨h3 k hk.1, hk.2⟩⟩

theorem right_zero {r : Rv.Rec} (h : r.right = 0) : 0 ≤ r.tick ∧ r.tick ≤ 1099511627776 ∧ 1 ≤ r.key.size ∧ r.key.size ≤ 64 ∧ 1 ≤ r.cost ∧ r.cost ≤ 1048576 ∧ 0 ≤ r.verdict ∧ r.verdict ≤ 2 := by
  unfold Rv.Rec.right at h
  cases h1 : Rv.tickOk r.tick <;> simp [h1] at h
  cases h2 : Rv.keyOk r.key <;> simp [h2] at h
  cases h3 : Rv.costOk r.cost <;> simp [h3] at h
  cases h4 : Rv.verdictOk r.verdict <;> simp [h4] at h
  simp [Rv.tickOk, Rv.costOk, Rv.verdictOk, Rv.inB, Rv.keyOk] at h1 h2 h3 h4
  exact ⟨h1.1, h1.2, h2.1, h2.2, h3.1, h3.2, h4.1, h4.2⟩

set_option maxHeartbeats 1000000 in
set_option maxRecDepth 100000 in
theorem cput_wrong (w : World) (S : Nat → Prop) (g : Nat) (c : Rv.Coder) (r : Rv.Rec) (h : CoderAt w S g c) (hr : r.right ≠ 0) :
    Calls Tryz.prog 23 #[.pointer (some ⟨g, 0, none⟩), .agg #[.int .i64 r.tick, .string r.key, .int .i64 r.cost, .int .i64 r.verdict]] w fun e w' => e = .returned (.tuple #[.slice none 0 0, .int .i64 r.right]) ∧ Below w.heap.size w w' := by
  have hn : (r.right == 0) = false := by rw [beq_eq_false_iff_ne]; exact hr
  have hn2 : (!r.right == 0) = true := by rw [hn]; rfl
  clear h hr
  have HB := Lib.hid (fun o => (Below.refl w.heap.size w).alloc (Nat.le_refl _) o)
  go_enter Tryz.func23, Tryz.ntmps23
  go_wp2_with fail
  refine (rright_any r _).mono ?_
  rintro e w1 ⟨rfl, b1⟩
  have B1 := Lib.hid b1
  clear b1
  go_wp2_with fail
  go_ret2
  exact ⟨rfl, below_then (HB.out _) (by simp) B1.out⟩

set_option maxHeartbeats 1000000 in
set_option maxRecDepth 100000 in
theorem cput_back (w : World) (S : Nat → Prop) (g : Nat) (c : Rv.Coder) (r : Rv.Rec) (h : CoderAt w S g c) (hr : r.right = 0) (ht : r.tick < c.tick) :
    Calls Tryz.prog 23 #[.pointer (some ⟨g, 0, none⟩), .agg #[.int .i64 r.tick, .string r.key, .int .i64 r.cost, .int .i64 r.verdict]] w fun e w' => e = .returned (.tuple #[.slice none 0 0, .int .i64 60]) ∧ Below w.heap.size w w' := by
  have Hr := Lib.hid hr
  have hd : decide (r.tick < c.tick) = true := by simpa using ht
  obtain ⟨ok, hg, gd, h1, h2⟩ := h
  have c1 : w.cell? ⟨g, 1, none⟩ = some (.int .i64 c.tick) := by rw [cells_of h1]; rfl
  have hlt : g < w.heap.size := (Array.getElem?_eq_some_iff.1 h1).1
  clear hr ht h1 h2 hg ok
  have HB := Lib.hid (fun o => (Below.refl w.heap.size w).alloc (Nat.le_refl _) o)
  go_enter Tryz.func23, Tryz.ntmps23
  go_wp2_with fail
  refine (rright_any r _).mono ?_
  rintro e w1 ⟨rfl, b1⟩
  rw [Hr.out]
  obtain ⟨hc, hf, hl, hn, hm, hz⟩ := bcell2 b1 (w.heap.size + 1) (by simp)
  have B1 := Lib.hid b1
  clear b1
  have d1 : w1.cell? ⟨g, 1, none⟩ = some (.int .i64 c.tick) := by rw [hc _ _ (by omega)]; exact cell_below (HB.out _) c1
  have d2 : w1.cell? ⟨w.heap.size, 0, none⟩ = some (.int .i64 r.tick) := by rw [hc _ _ (by omega)]; go_simp
  go_upto_region 4 with (fail)
  go_quiet (fail)
  go_wp2_with fail
  go_ret2
  exact ⟨rfl, belowN _ (below_then (HB.out _) (by simp) B1.out)⟩

/-- A row of bytes is none of a coder's blocks. -/
def NoBytes (w : World) (k : Nat) : Prop := ∀ cur, w.heap[k]? ≠ some (.cells cur 5 (0, 0))
theorem DictAt.typed {w : World} {S : Nat → Prop} {g : Nat} {d : Rv.Dict} (h : DictAt w S g d) : DictAt w (fun k => S k ∧ NoBytes w k) g d := by
  obtain ⟨ok, kv, bm, ov, es, clock, h1, h2, h3, h4, h5, h6, h7, h8, h9, h10⟩ := h
  refine ⟨ok, kv, bm, ov, es, clock, h1, h2, h3, h4, h5, h6, ⟨h7, fun cur h => by rw [h1] at h; cases h⟩, ⟨h8, fun cur h => by rw [h4] at h; cases h⟩,
    fun k hk => ⟨h9 k hk, fun cur h => ?_⟩, fun k hk => ⟨h10 k hk, fun cur h => ?_⟩⟩
  · obtain ⟨cur2, hc⟩ := own_type h2 hk; rw [hc] at h; cases h
  · obtain ⟨cur2, hc⟩ := own_type h3 hk; rw [hc] at h; cases h

/-- What stands while Put works: the coder, the record in its box. -/
structure PutMid (w : World) (g gd b0 : Nat) (c : Rv.Coder) (r : Rv.Rec) : Prop where
  row : w.heap[g]? = some (.cells #[.pointer (some ⟨gd, 0, none⟩), .int .i64 c.tick, .int .i64 c.cost] 108 (0, 0))
  box : w.heap[b0]? = some (.cells #[.int .i64 r.tick, .string r.key, .int .i64 r.cost, .int .i64 r.verdict] 44 (0, 0))
theorem PutMid.kept {w w' : World} {S : Nat → Prop} {g gd b0 : Nat} {c : Rv.Coder} {r : Rv.Rec} (h : PutMid w g gd b0 c r) (k : Kept S w w') (h1 : ¬ S g) (h2 : ¬ S b0) : PutMid w' g gd b0 c r :=
  ⟨(k.block g (Array.getElem?_eq_some_iff.1 h.row).1 h1).trans h.row, (k.block b0 (Array.getElem?_eq_some_iff.1 h.box).1 h2).trans h.box⟩
def PutCells (w : World) (g gd b0 : Nat) (c : Rv.Coder) (r : Rv.Rec) : Prop :=
  w.cell? ⟨g, 0, none⟩ = some (.pointer (some ⟨gd, 0, none⟩)) ∧ w.cell? ⟨g, 1, none⟩ = some (.int .i64 c.tick) ∧ w.cell? ⟨g, 2, none⟩ = some (.int .i64 c.cost) ∧
  w.cell? ⟨b0, 0, none⟩ = some (.int .i64 r.tick) ∧ w.cell? ⟨b0, 1, none⟩ = some (.string r.key) ∧ w.cell? ⟨b0, 2, none⟩ = some (.int .i64 r.cost) ∧ w.cell? ⟨b0, 3, none⟩ = some (.int .i64 r.verdict)
theorem PutMid.cells {w : World} {g gd b0 : Nat} {c : Rv.Coder} {r : Rv.Rec} (h : PutMid w g gd b0 c r) : PutCells w g gd b0 c r := by
  refine ⟨?_, ?_, ?_, ?_, ?_, ?_, ?_⟩ <;> (first | (rw [cells_of h.row]; rfl) | (rw [cells_of h.box]; rfl))

theorem DictAt.drew {w : World} {S : Nat → Prop} {g : Nat} {d : Rv.Dict} (h : DictAt w S g d) : DictAt w.drew S g d := by
  obtain ⟨ok, kv, bm, ov, es, clock, h1, h2, h3, h4, h5, h6, h7⟩ := h
  exact ⟨ok, kv, bm, ov, es, clock, h1, h2, h3, h4, h5, h6, h7⟩
theorem use_slot {d : Rv.Dict} (ok : DOk d) (key : ByteArray) : (d.use key).2.1 ≤ 64 := by
  have h1 := ok.few
  have h2 := ok.r1
  unfold Rv.Dict.use
  split
  · rename_i s hs
    have := (List.getElem?_eq_some_iff.1 (find_some hs)).1
    simp; omega
  · split
    · simp; omega
    · simp only
      cases h : d.order[d.room - 1]? with
      | none => simp [List.getD, h]
      | some s =>
        have := ok.mem.1 (List.mem_of_getElem? h)
        simp [List.getD, h]; omega

def PutOk (w : World) (S : Nat → Prop) (g : Nat) (c : Rv.Coder) (bs : List UInt8) (e : Ending) (w' : World) : Prop :=
  ∃ B C S', e = .returned (.tuple #[.slice B bs.length C, .int .i64 0]) ∧ OwnB w' w.heap.size (.slice B bs.length C) bs ∧ CoderAt w' S' g c ∧ Moved S S' w w' ∧ (∀ k, (Value.slice B bs.length C).ownBlock = some k → ¬ S' k)

theorem put_fin {w w7 : World} {S S' : Nat → Prop} {g gd b0 : Nat} {c : Rv.Coder} {r : Rv.Rec} {u : Rv.Dict} {z : List UInt8} {B : Option Addr} {C : Nat} (hg : S g) (hlt : g < w.heap.size) (ok : COk ⟨u, r.tick, r.cost⟩)
    (K7 : Kept S w w7) (M7 : PutMid w7 g gd b0 c r) (O7 : OwnB w7 0 (.slice B z.length C) z) (L7 : ∀ k, (Value.slice B z.length C).ownBlock = some k → w.heap.size < k) (D7 : DictAt w7 S' gd u)
    (HS : ∀ k, S' k → (S k ∨ w.heap.size < k) ∧ k < w7.heap.size ∧ k ≠ g) :
    OwnB ((w7.drew.setCell ⟨g, 1, none⟩ (.int .i64 r.tick)).setCell ⟨g, 2, none⟩ (.int .i64 r.cost)) w.heap.size (.slice B z.length C) z ∧
    ∃ S'', CoderAt ((w7.drew.setCell ⟨g, 1, none⟩ (.int .i64 r.tick)).setCell ⟨g, 2, none⟩ (.int .i64 r.cost)) S'' g ⟨u, r.tick, r.cost⟩ ∧
      Moved S S'' w ((w7.drew.setCell ⟨g, 1, none⟩ (.int .i64 r.tick)).setCell ⟨g, 2, none⟩ (.int .i64 r.cost)) ∧ (∀ k, (Value.slice B z.length C).ownBlock = some k → ¬ S'' k) := by
  have k1 : Kept (fun k => k = g) w7.drew ((w7.drew.setCell ⟨g, 1, none⟩ (.int .i64 r.tick)).setCell ⟨g, 2, none⟩ (.int .i64 r.cost)) := Kept.setCell (S := fun k => k = g) (Kept.setCell (S := fun k => k = g) (Kept.refl _ _) ⟨g, 1, none⟩ _ (.inl rfl)) ⟨g, 2, none⟩ _ (.inl rfl)
  have row : ((w7.drew.setCell ⟨g, 1, none⟩ (.int .i64 r.tick)).setCell ⟨g, 2, none⟩ (.int .i64 r.cost)).heap[g]? = some (.cells #[.pointer (some ⟨gd, 0, none⟩), .int .i64 r.tick, .int .i64 r.cost] 108 (0, 0)) := by
    rw [set_at (set_at (w := w7.drew) M7.row 1 _)]; rfl
  generalize (w7.drew.setCell ⟨g, 1, none⟩ (.int .i64 r.tick)).setCell ⟨g, 2, none⟩ (.int .i64 r.cost) = wf at *
  have o : OwnB wf 0 (.slice B z.length C) z := OwnB.kept (a := w7.drew) O7 k1 (fun i hi e => by have := L7 i hi; omega)
  have d := (D7.drew.kept k1 (fun i hi e => (HS i hi).2.2 e)).typed
  refine ⟨o.rebase (fun k hk => Nat.le_of_lt (L7 k hk)), fun k => (S' k ∧ NoBytes wf k) ∨ k = g, ⟨ok, .inr rfl, gd, row, d.mono (fun i _ h => ⟨.inl h, (HS i h.1).2.2⟩)⟩, ⟨K7.drew.trans k1 (fun i _ e => e ▸ hg), fun k hk => ?_⟩, fun k hk => ?_⟩
  · have s1 : w.heap.size ≤ w7.heap.size := K7.size
    have s2 : w7.heap.size ≤ wf.heap.size := k1.size
    rcases hk with hk | rfl
    · obtain ⟨h1, h2, _⟩ := HS k hk.1
      exact ⟨h1.imp id Nat.le_of_lt, Nat.lt_of_lt_of_le h2 s2⟩
    · exact ⟨.inl hg, by omega⟩
  · rintro (h | rfl)
    · obtain ⟨cur, hc⟩ := own_type o.toV hk
      exact h.2 cur hc
    · have := L7 _ hk; omega

set_option maxHeartbeats 4000000 in
set_option maxRecDepth 100000 in
theorem cput_ok (w : World) (S : Nat → Prop) (g : Nat) (c : Rv.Coder) (r : Rv.Rec) (h : CoderAt w S g c) (hS : ∀ k, S k → k < w.heap.size) (hr : r.right = 0) (ht : c.tick ≤ r.tick) :
    Calls Tryz.prog 23 #[.pointer (some ⟨g, 0, none⟩), .agg #[.int .i64 r.tick, .string r.key, .int .i64 r.cost, .int .i64 r.verdict]] w (PutOk w S g (c.put r).1 (c.put r).2) := by
  obtain ⟨p0, p1, p2, p3, p4, p5, p6, p7⟩ := right_zero hr
  have Hr := Lib.hid hr
  have hd : decide (r.tick < c.tick) = false := by simp; omega
  obtain ⟨ok, hg, gd, q1, q2⟩ := h
  obtain ⟨t0, t1, t2, t3⟩ := ok
  have hlt : g < w.heap.size := (Array.getElem?_eq_some_iff.1 q1).1
  obtain ⟨z1, hz1⟩ : ∃ z, z = Rv.numB (4 * (r.tick - c.tick) + r.verdict) := ⟨_, rfl⟩
  obtain ⟨z2, hz2⟩ : ∃ z, z = z1 ++ Rv.numB (Rv.zig (r.cost - c.cost)).1 := ⟨_, rfl⟩
  have Q1 := Lib.hid q1
  have Q2 := Lib.hid q2
  have HS := Lib.hid hS
  have hgS := Lib.hid hg
  have Hz1 := Lib.hid hz1
  have Hz2 := Lib.hid hz2
  have HB := Lib.hid (fun o => (Below.refl w.heap.size w).alloc (Nat.le_refl _) o)
  have hw1 : IntKind.i64.wrap (r.tick - c.tick) = r.tick - c.tick := IntWalk.i64_in _ (by omega)
  have hw2 : IntKind.i64.wrap (4 * (r.tick - c.tick)) = 4 * (r.tick - c.tick) := IntWalk.i64_in _ (by omega)
  have hw3 : IntKind.i64.wrap (4 * (r.tick - c.tick) + r.verdict) = 4 * (r.tick - c.tick) + r.verdict := IntWalk.i64_in _ (by omega)
  have hw4 : IntKind.i64.wrap (r.cost - c.cost) = r.cost - c.cost := IntWalk.i64_in _ (by omega)
  have l1 : z1.length ≤ 9 := by rw [hz1]; exact Rv.numB_len _
  have l2 : z2.length ≤ 18 := by rw [hz2, List.length_append]; have := Rv.numB_len (Rv.zig (r.cost - c.cost)).1; omega
  clear hz1 hz2 hr q1 q2 hS hg
  go_enter Tryz.func23, Tryz.ntmps23
  go_wp2_with fail
  refine (rright_any r _).mono ?_
  rintro e w1 ⟨rfl, b1⟩
  rw [Hr.out]
  have M1 : Hid (PutMid w1 g gd w.heap.size c r) := Lib.hid ⟨by rw [b1.block g (by simp; omega), (HB.out _).block g hlt]; exact Q1.out, by rw [b1.block _ (by simp)]; exact heap_alloc_new w _⟩
  have B1 : Hid (Below w.heap.size w w1) := Lib.hid (below_then (HB.out _) (by simp) b1)
  have Z1 : Hid (w.heap.size < w1.heap.size) := Lib.hid (by have := b1.size; simp at this; omega)
  clear b1
  obtain ⟨d1, d2, d3, d4, d5, d6, d7⟩ := M1.out.cells
  go_upto_region 4 with (fail)
  go_quiet (fail)
  have B2 : Hid (Below w.heap.size w (w1.drewN nq)) := Lib.hid (belowN _ B1.out)
  have M2 : Hid (PutMid (w1.drewN nq) g gd w.heap.size c r) := Lib.hid ⟨M1.out.row, M1.out.box⟩
  have Z2 : Hid (w.heap.size < (w1.drewN nq).heap.size) := Lib.hid Z1.out
  clear d1 d2 d3 d4 d5 d6 d7 M1 B1 Z1
  generalize w1.drewN nq = w2 at *
  clear w1
  obtain ⟨d1, d2, d3, d4, d5, d6, d7⟩ := M2.out.cells
  go_upto_region 6 with (fail)
  go_region_held3 (fun w' => w'.cell? ⟨g, 1, none⟩ = some (.int .i64 c.tick) ∧ w'.cell? ⟨w.heap.size, 0, none⟩ = some (.int .i64 r.tick) ∧ w'.cell? ⟨w.heap.size, 3, none⟩ = some (.int .i64 r.verdict))
    (first | exact K1.out | exact ⟨d2, d4, d7⟩ | go_keep)
    (first | (go_at_call 40; refine (rnumber_to (.slice none 0 0) [] _ w2.drew z1 Hz1.out.symm (OwnB.nil _ _) (by simp)).mono ?_; rintro e w3 ⟨B, C, rfl, o, k, l⟩; have KK : Hid (Kept (fun _ => False) w2 w3) := Lib.hid ⟨k.os, k.tape, k.output, k.size, fun i hi _ => k.block i hi (by simp [Value.ownBlock])⟩; have O1 := Lib.hid o; have L1 : Hid (∀ k, (Value.slice B z1.length C).ownBlock = some k → w2.heap.size ≤ k) := Lib.hid (fun k hk => (l k hk).resolve_left (by simp [Value.ownBlock])); clear o k l; have K1 := Lib.hid (And.intro (KK.out.cell' d2 id) (And.intro (KK.out.cell' d4 id) (KK.out.cell' d7 id)))))
  have B3 : Hid (Below w.heap.size w w3) := Lib.hid (below_then B2.out (Nat.le_of_lt Z2.out) (KK.out.below (Nat.le_refl _) (fun _ _ h => h)))
  have M3 : Hid (PutMid w3 g gd w.heap.size c r) := Lib.hid (M2.out.kept KK.out id id)
  have L2 : Hid (∀ k, (Value.slice B z1.length C).ownBlock = some k → w.heap.size < k) := Lib.hid (fun k hk => by have := L1.out k hk; have := Z2.out; omega)
  have Z3 : Hid (w.heap.size < w3.heap.size) := Lib.hid (Nat.lt_of_lt_of_le Z2.out KK.out.size)
  clear d1 d2 d3 d4 d5 d6 d7 K1 KK M2 B2 L1 Z2 hw1 hw2 hw3
  obtain ⟨d1, d2, d3, d4, d5, d6, d7⟩ := M3.out.cells
  go_upto_region 7 with (fail)
  go_region_held3 (fun w' => w'.cell? ⟨g, 2, none⟩ = some (.int .i64 c.cost) ∧ w'.cell? ⟨w.heap.size, 2, none⟩ = some (.int .i64 r.cost))
    (first | exact ⟨d3, d6⟩ | go_keep)
    (first | (go_at_call 41; refine (zig_any (r.cost - c.cost) _ (by omega) (by omega)).mono ?_; rintro e w' ⟨rfl, rfl⟩))
  have M4 : Hid (PutMid w3.drew g gd w.heap.size c r) := Lib.hid ⟨M3.out.row, M3.out.box⟩
  have B4 : Hid (Below w.heap.size w w3.drew) := Lib.hid ⟨B3.out.os, B3.out.tape, B3.out.output, B3.out.size, B3.out.block⟩
  have O4 : Hid (OwnB w3.drew 0 (.slice B z1.length C) z1) := Lib.hid O1.out
  have Z4 : Hid (w.heap.size < w3.drew.heap.size) := Lib.hid Z3.out
  clear d1 d2 d3 d4 d5 d6 d7 M3 B3 O1 Z3 hw4
  generalize w3.drew = w4 at *
  clear w3 w2
  go_wp2_with fail
  refine (rnumber_to (.slice B z1.length C) z1 _ _ z2 Hz2.out.symm O4.out (by omega)).mono ?_
  rintro e w5 ⟨B', C', rfl, o, k, l⟩
  have M5 : Hid (PutMid w5 g gd w.heap.size c r) := Lib.hid (M4.out.kept k (fun e => by have := L2.out _ e; omega) (fun e => by have := L2.out _ e; omega))
  have B5 : Hid (Below w.heap.size w w5) := Lib.hid (B4.out.trans (k.below (Nat.le_of_lt Z4.out) (fun i hi e => by have := L2.out i e; omega)))
  have L5 : Hid (∀ k, (Value.slice B' z2.length C').ownBlock = some k → w.heap.size < k) := Lib.hid (fun i hi => (l i hi).elim (L2.out i) (fun h => Nat.lt_of_lt_of_le Z4.out h))
  have O5 : Hid (OwnB w5 0 (.slice B' z2.length C') z2) := Lib.hid o
  have Z5 : Hid (w.heap.size < w5.heap.size) := Lib.hid (Nat.lt_of_lt_of_le Z4.out k.size)
  have D5 : Hid (DictAt w5.drew (fun k => S k ∧ k ≠ g) gd c.d) := Lib.hid (Q2.out.below B5.out).drew
  clear o k l M4 B4 L2 O4 Z4
  obtain ⟨d1, d2, d3, d4, d5, d6, d7⟩ := M5.out.cells
  obtain ⟨u, hu⟩ : ∃ u, u = c.d.use r.key := ⟨_, rfl⟩
  have Hu := Lib.hid hu
  have hsl : u.2.1 ≤ 64 := by rw [hu]; exact use_slot Q2.out.1 _
  have Hput : Hid (c.put r = (⟨u.1, r.tick, r.cost⟩, z2 ++ if u.2.2 then Rv.numB (1 + (u.2.1 : Int)) else Rv.numB 0 ++ Rv.numB r.key.size ++ Rv.bytesOf r.key)) := Lib.hid (by unfold Rv.Coder.put; rw [Hz2.out, Hz1.out, hu])
  clear hu
  go_upto_region 9 with (fail)
  go_region_held3 (fun w' => w'.cell? ⟨g, 0, none⟩ = some (.pointer (some ⟨gd, 0, none⟩)) ∧ w'.cell? ⟨w.heap.size, 1, none⟩ = some (.string r.key))
    (first | exact K1.out | exact ⟨d1, d5⟩ | go_keep)
    (first | (go_at_call 42; refine (use_moved w5.drew (fun k => S k ∧ k ≠ g) gd c.d r.key D5.out p2 p3).mono ?_; rw [← Hu.out]; rintro e w6 ⟨rfl, S', dd, mv⟩; have D6 := Lib.hid dd; have MV := Lib.hid mv; clear dd mv; have K1 := Lib.hid (And.intro (MV.out.1.cell' (a := w5.drew) d1 (fun e => e.2 rfl)) (MV.out.1.cell' (a := w5.drew) d5 (fun e => by have := HS.out w.heap.size e.1; omega)))))
  have KS6 : Hid (Kept S w w6) := Lib.hid ((Kept.of_below B5.out).drew.trans MV.out.1 (fun i _ e => e.1))
  have M6 : Hid (PutMid w6 g gd w.heap.size c r) := Lib.hid (PutMid.kept (w := w5.drew) ⟨M5.out.row, M5.out.box⟩ MV.out.1 (fun e => e.2 rfl) (fun e => by have := HS.out _ e.1; omega))
  have O6 : Hid (OwnB w6 0 (.slice B' z2.length C') z2) := Lib.hid (OwnB.kept (a := w5.drew) O5.out MV.out.1 (fun i hi e => by have := HS.out _ e.1; have := L5.out i hi; omega))
  have HS6 : Hid (∀ k, S' k → (S k ∨ w.heap.size < k) ∧ k < w6.heap.size ∧ k ≠ g) := Lib.hid (fun k hk => by
    obtain ⟨h1, h2⟩ := MV.out.2 k hk
    have z5 := Z5.out
    refine ⟨h1.imp (fun h => h.1) (fun h => Nat.lt_of_lt_of_le Z5.out h), h2, ?_⟩
    rintro rfl
    rcases h1 with h1 | h1
    · exact h1.2 rfl
    · have : w5.heap.size ≤ k := h1
      omega)
  have Z6 : Hid (w.heap.size < w6.heap.size) := Lib.hid (Nat.lt_of_lt_of_le Z5.out MV.out.1.size)
  clear d1 d2 d3 d4 d5 d6 d7 K1 M5 B5 O5 Z5 D5 MV
  obtain ⟨d1, d2, d3, d4, d5, d6, d7⟩ := M6.out.cells
  cases hhad : u.2.2 with
  | true =>
    rw [hhad] at Hput
    simp only [if_true] at Hput
    have hw5 : IntKind.i64.wrap (1 + (u.2.1 : Int)) = 1 + (u.2.1 : Int) := IntWalk.i64_in _ (by omega)
    obtain ⟨z3, hz3⟩ : ∃ z, z = z2 ++ Rv.numB (1 + (u.2.1 : Int)) := ⟨_, rfl⟩
    rw [← hz3] at Hput
    have Hz3 := Lib.hid hz3
    clear hz3
    go_wp2_with fail
    refine (rnumber_to (.slice B' z2.length C') z2 _ _ z3 Hz3.out.symm O6.out (by omega)).mono ?_
    rintro e w7 ⟨B7, C7, rfl, o, k, l⟩
    have L7 : ∀ k, (Value.slice B7 z3.length C7).ownBlock = some k → w.heap.size < k := fun i hi => (l i hi).elim (L5.out i) (fun h => Nat.lt_of_lt_of_le Z6.out h)
    have M7 : Hid (PutMid w7 g gd w.heap.size c r) := Lib.hid (M6.out.kept k (fun e => by have := L5.out _ e; omega) (fun e => by have := L5.out _ e; omega))
    have Fin := Lib.hid (put_fin (hgS.out) hlt ⟨p0, p1, by show 0 ≤ r.cost; omega, p5⟩ (KS6.out.trans k (fun i hi e => by have := L5.out i e; omega)) M7.out o L7
      ((D6.out.typed.kept k (fun i hi e => by obtain ⟨cur, hc⟩ := own_type O6.out.toV e; exact hi.2 cur hc)).mono (fun _ _ h => h.1)) (fun k' hk' => ⟨(HS6.out k' hk').1, Nat.lt_of_lt_of_le (HS6.out k' hk').2.1 k.size, (HS6.out k' hk').2.2⟩))
    clear o k l L7 d1 d2 d3 d4 d5 d6 d7
    obtain ⟨d1, d2, d3, d4, d5, d6, d7⟩ := M7.out.cells
    have f1 : ∀ i, w7.frozen? ⟨g, i, none⟩ = false := fun i => frozen_of M7.out.row i
    have hne : ¬ w.heap.size = g := by omega
    have e1 : (w7.setCell ⟨g, 1, none⟩ (.int .i64 r.tick)).drew.cell? ⟨w.heap.size, 0, none⟩ = some (.int .i64 r.tick) := (World.cell?_of_block (w := w7) (set_off 1 _ hne)).trans d4
    have e2 : (w7.setCell ⟨g, 1, none⟩ (.int .i64 r.tick)).drew.cell? ⟨w.heap.size, 2, none⟩ = some (.int .i64 r.cost) := (World.cell?_of_block (w := w7) (set_off 1 _ hne)).trans d6
    have e3 : ((w7.setCell ⟨g, 1, none⟩ (.int .i64 r.tick)).setCell ⟨g, 2, none⟩ (.int .i64 r.cost)).drew.cell? ⟨w.heap.size, 0, none⟩ = some (.int .i64 r.tick) := (World.cell?_of_block (w := w7.setCell ⟨g, 1, none⟩ (.int .i64 r.tick)) (set_off 2 _ hne)).trans e1
    have e4 : ((w7.setCell ⟨g, 1, none⟩ (.int .i64 r.tick)).setCell ⟨g, 2, none⟩ (.int .i64 r.cost)).drew.cell? ⟨w.heap.size, 2, none⟩ = some (.int .i64 r.cost) := (World.cell?_of_block (w := w7.setCell ⟨g, 1, none⟩ (.int .i64 r.tick)) (set_off 2 _ hne)).trans e2
    go_upto_region 15 with (fail)
    go_region_held3 (fun w' => w'.cell? ⟨w.heap.size, 0, none⟩ = some (.int .i64 r.tick) ∧ w'.cell? ⟨w.heap.size, 2, none⟩ = some (.int .i64 r.cost))
      (first | exact ⟨d4, d6⟩ | exact ⟨e1, e2⟩ | exact ⟨e3, e4⟩ | go_keep)
      (first | fail)
    go_wp2_with fail
    go_ret2
    rw [Hput.out]
    obtain ⟨f1, S'', f2, f3, f4⟩ := Fin.out
    exact ⟨_, _, S'', rfl, f1, f2, f3, f4⟩
  | false =>
    rw [hhad] at Hput
    simp only [Bool.false_eq_true, if_false] at Hput
    obtain ⟨z3, hz3⟩ : ∃ z, z = z2 ++ Rv.numB 0 := ⟨_, rfl⟩
    obtain ⟨z4, hz4⟩ : ∃ z, z = z3 ++ Rv.numB r.key.size := ⟨_, rfl⟩
    obtain ⟨z5, hz5⟩ : ∃ z, z = z4 ++ Rv.bytesOf r.key := ⟨_, rfl⟩
    have l3 : z3.length ≤ 27 := by rw [hz3, List.length_append]; have := Rv.numB_len 0; omega
    have l4 : z4.length ≤ 36 := by rw [hz4, List.length_append]; have := Rv.numB_len r.key.size; omega
    have l5 : z4.length + r.key.size = z5.length := by rw [hz5, List.length_append]; congr 1
    have e5 : z2 ++ (Rv.numB 0 ++ Rv.numB r.key.size ++ Rv.bytesOf r.key) = z5 := by rw [hz5, hz4, hz3]; simp
    rw [e5] at Hput
    have Hz3 := Lib.hid hz3
    have Hz4 := Lib.hid hz4
    have Hz5 := Lib.hid hz5
    have L5' := Lib.hid l5
    clear hz3 hz4 hz5 e5 l5
    go_wp2_with fail
    refine (rnumber_to (.slice B' z2.length C') z2 _ _ z3 Hz3.out.symm O6.out (by omega)).mono ?_
    rintro e w7 ⟨B7, C7, rfl, o, k, l⟩
    have L7 : Hid (∀ k, (Value.slice B7 z3.length C7).ownBlock = some k → w.heap.size < k) := Lib.hid (fun i hi => (l i hi).elim (L5.out i) (fun h => Nat.lt_of_lt_of_le Z6.out h))
    have M7 : Hid (PutMid w7 g gd w.heap.size c r) := Lib.hid (M6.out.kept k (fun e => by have := L5.out _ e; omega) (fun e => by have := L5.out _ e; omega))
    have K7 : Hid (Kept S w w7) := Lib.hid (KS6.out.trans k (fun i hi e => by have := L5.out i e; omega))
    have D7 : Hid (DictAt w7 S' gd u.1) := Lib.hid ((D6.out.typed.kept k (fun i hi e => by obtain ⟨cur, hc⟩ := own_type O6.out.toV e; exact hi.2 cur hc)).mono (fun _ _ h => h.1))
    have HS7 : Hid (∀ k, S' k → (S k ∨ w.heap.size < k) ∧ k < w7.heap.size ∧ k ≠ g) := Lib.hid (fun k' hk' => ⟨(HS6.out k' hk').1, Nat.lt_of_lt_of_le (HS6.out k' hk').2.1 k.size, (HS6.out k' hk').2.2⟩)
    have O7 := Lib.hid o
    have Z7 : Hid (w.heap.size < w7.heap.size) := Lib.hid (Nat.lt_of_lt_of_le Z6.out k.size)
    clear o k l d1 d2 d3 d4 d5 d6 d7 M6 KS6 D6 HS6 O6 Z6 L5
    obtain ⟨d1, d2, d3, d4, d5, d6, d7⟩ := M7.out.cells
    go_wp2_with fail
    refine (rnumber_to (.slice B7 z3.length C7) z3 _ _ z4 Hz4.out.symm O7.out (by omega)).mono ?_
    rintro e w8 ⟨B8, C8, rfl, o, k, l⟩
    have L8 : Hid (∀ k, (Value.slice B8 z4.length C8).ownBlock = some k → w.heap.size + 1 ≤ k) := Lib.hid (fun i hi => (l i hi).elim (L7.out i) (fun h => Nat.lt_of_lt_of_le Z7.out h))
    have M8 : Hid (PutMid w8 g gd w.heap.size c r) := Lib.hid (M7.out.kept k (fun e => by have := L7.out _ e; omega) (fun e => by have := L7.out _ e; omega))
    have K8 : Hid (Kept S w w8) := Lib.hid (K7.out.trans k (fun i hi e => by have := L7.out i e; omega))
    have D8 : Hid (DictAt w8 S' gd u.1) := Lib.hid ((D7.out.typed.kept k (fun i hi e => by obtain ⟨cur, hc⟩ := own_type O7.out.toV e; exact hi.2 cur hc)).mono (fun _ _ h => h.1))
    have HS8 : Hid (∀ k, S' k → (S k ∨ w.heap.size < k) ∧ k < w8.heap.size ∧ k ≠ g) := Lib.hid (fun k' hk' => ⟨(HS7.out k' hk').1, Nat.lt_of_lt_of_le (HS7.out k' hk').2.1 k.size, (HS7.out k' hk').2.2⟩)
    have O8 : Hid (OwnB w8 (w.heap.size + 1) (.slice B8 z4.length C8) z4) := Lib.hid (o.rebase L8.out)
    have Z8 : Hid (w.heap.size + 1 ≤ w8.heap.size) := Lib.hid (Nat.lt_of_lt_of_le Z7.out k.size)
    clear o k l d1 d2 d3 d4 d5 d6 d7 M7 K7 D7 HS7 O7 Z7 L7
    obtain ⟨d1, d2, d3, d4, d5, d6, d7⟩ := M8.out.cells
    have hne : ¬ w.heap.size = g := by omega
    go_upto_region 15 with (at_builtin; refine app_str (w.heap.size + 1) rfl (.tmp 74) (.tmp 76) 22 9 rfl Tryz.underlying22 Tryz.underlying9 infoB (.slice B8 z4.length C8) z4 r.key (by rfl) (by rfl) O8.out Z8.out z5.length L5'.out (by have := L5'.out; omega) ?_; intro B7 C7 w7 o9 k9; rw [← Hz5.out] at o9; have O9 := Lib.hid o9; have K9 := Lib.hid k9; clear o9 k9)
    have M7 : Hid (PutMid w7 g gd w.heap.size c r) := Lib.hid (M8.out.kept K9.out (fun e => by have := L8.out _ e; omega) (fun e => by have := L8.out _ e; omega))
    have Fin := Lib.hid (put_fin (hgS.out) hlt ⟨p0, p1, by show 0 ≤ r.cost; omega, p5⟩ (K8.out.trans K9.out (fun i hi e => by have := L8.out i e; omega)) M7.out (O9.out.mono (Nat.zero_le _)) (fun k hk => (O9.out.toV.block k hk).1)
      ((D8.out.typed.kept K9.out (fun i hi e => by obtain ⟨cur, hc⟩ := own_type O8.out.toV e; exact hi.2 cur hc)).mono (fun _ _ h => h.1)) (fun k' hk' => ⟨(HS8.out k' hk').1, Nat.lt_of_lt_of_le (HS8.out k' hk').2.1 K9.out.size, (HS8.out k' hk').2.2⟩))
    clear d1 d2 d3 d4 d5 d6 d7
    obtain ⟨d1, d2, d3, d4, d5, d6, d7⟩ := M7.out.cells
    have f1 : ∀ i, w7.frozen? ⟨g, i, none⟩ = false := fun i => frozen_of M7.out.row i
    have e1 : (w7.setCell ⟨g, 1, none⟩ (.int .i64 r.tick)).drew.cell? ⟨w.heap.size, 0, none⟩ = some (.int .i64 r.tick) := (World.cell?_of_block (w := w7) (set_off 1 _ hne)).trans d4
    have e2 : (w7.setCell ⟨g, 1, none⟩ (.int .i64 r.tick)).drew.cell? ⟨w.heap.size, 2, none⟩ = some (.int .i64 r.cost) := (World.cell?_of_block (w := w7) (set_off 1 _ hne)).trans d6
    have e3 : ((w7.setCell ⟨g, 1, none⟩ (.int .i64 r.tick)).setCell ⟨g, 2, none⟩ (.int .i64 r.cost)).drew.cell? ⟨w.heap.size, 0, none⟩ = some (.int .i64 r.tick) := (World.cell?_of_block (w := w7.setCell ⟨g, 1, none⟩ (.int .i64 r.tick)) (set_off 2 _ hne)).trans e1
    have e4 : ((w7.setCell ⟨g, 1, none⟩ (.int .i64 r.tick)).setCell ⟨g, 2, none⟩ (.int .i64 r.cost)).drew.cell? ⟨w.heap.size, 2, none⟩ = some (.int .i64 r.cost) := (World.cell?_of_block (w := w7.setCell ⟨g, 1, none⟩ (.int .i64 r.tick)) (set_off 2 _ hne)).trans e2
    go_region_held3 (fun w' => w'.cell? ⟨w.heap.size, 0, none⟩ = some (.int .i64 r.tick) ∧ w'.cell? ⟨w.heap.size, 2, none⟩ = some (.int .i64 r.cost))
      (first | exact ⟨d4, d6⟩ | exact ⟨e1, e2⟩ | exact ⟨e3, e4⟩ | go_keep)
      (first | fail)
    go_wp2_with fail
    go_ret2
    rw [Hput.out]
    obtain ⟨f1, S'', f2, f3, f4⟩ := Fin.out
    exact ⟨_, _, S'', rfl, f1, f2, f3, f4⟩
end Go.Proofs.YtcmndglhileeoaaGreat

/- Walks of package record: Coder.Clone. -/
set_option linter.unusedSimpArgs false
set_option linter.unusedVariables false
namespace Go.Proofs.YtcmndglhileeoaaGreat
open Go.RowKit

theorem drewB {w : World} : Below w.heap.size w w.drew := ⟨rfl, rfl, rfl, Nat.le_refl _, fun _ _ => rfl⟩
theorem dclone_drew (w : World) (S : Nat → Prop) (g : Nat) (d : Rv.Dict) (h : DictAt w S g d) :
    Calls Tryz.prog 38 #[.pointer (some ⟨g, 0, none⟩)] w.drew fun e w' => ∃ g', e = .returned (.pointer (some ⟨g', 0, none⟩)) ∧ DictAt w' (fun k => w.heap.size ≤ k) g' d ∧ Below w.heap.size w w' := by
  refine (dclone_any w.drew S g d h.drew).mono ?_
  rintro e w' ⟨g', rfl, h1, h2⟩
  exact ⟨g', rfl, h1, Below.of_drew h2⟩

set_option maxHeartbeats 2000000 in
set_option maxRecDepth 100000 in
theorem cclone_any (w : World) (S : Nat → Prop) (g : Nat) (c : Rv.Coder) (h : CoderAt w S g c) :
    Calls Tryz.prog 22 #[.pointer (some ⟨g, 0, none⟩)] w fun e w' => ∃ g', e = .returned (.pointer (some ⟨g', 0, none⟩)) ∧ CoderAt w' (fun k => w.heap.size ≤ k ∧ k < w'.heap.size) g' c ∧ Below w.heap.size w w' := by
  obtain ⟨ok, hg, gd, q1, q2⟩ := h
  have c0 : w.cell? ⟨g, 0, none⟩ = some (.pointer (some ⟨gd, 0, none⟩)) := by rw [cells_of q1]; rfl
  have c1 : w.cell? ⟨g, 1, none⟩ = some (.int .i64 c.tick) := by rw [cells_of q1]; rfl
  have c2 : w.cell? ⟨g, 2, none⟩ = some (.int .i64 c.cost) := by rw [cells_of q1]; rfl
  have Q2 := Lib.hid q2
  have Ok := Lib.hid ok
  clear q1 q2 ok hg
  go_enter Tryz.func22, Tryz.ntmps22
  go_wp2_with fail
  go_region_held3 (fun w' => w'.cell? ⟨g, 0, none⟩ = some (.pointer (some ⟨gd, 0, none⟩)) ∧ w'.cell? ⟨g, 1, none⟩ = some (.int .i64 c.tick) ∧ w'.cell? ⟨g, 2, none⟩ = some (.int .i64 c.cost))
    (first | exact K1.out | exact ⟨c0, c1, c2⟩ | go_keep)
    (first | (go_at_call 38; refine (dclone_drew w _ gd c.d Q2.out).mono ?_; rintro e w1 ⟨g1, rfl, dd, b1⟩; have D1 := Lib.hid dd; have B1 := Lib.hid b1; clear dd b1; have K1 := Lib.hid (And.intro (cell_below B1.out c0) (And.intro (cell_below B1.out c1) (cell_below B1.out c2)))))
  have hW : w.heap.size ≤ w1.heap.size := B1.out.size
  have hfin : Hid (CoderAt (w1.alloc (.cells #[.pointer (some ⟨g1, 0, none⟩), .int .i64 c.tick, .int .i64 c.cost] 108)) (fun k => w.heap.size ≤ k ∧ k < (w1.alloc (.cells #[.pointer (some ⟨g1, 0, none⟩), .int .i64 c.tick, .int .i64 c.cost] 108)).heap.size) w1.heap.size c ∧
      Below w.heap.size w (w1.alloc (.cells #[.pointer (some ⟨g1, 0, none⟩), .int .i64 c.tick, .int .i64 c.cost] 108))) := Lib.hid (by
    refine ⟨⟨Ok.out, ⟨hW, by simp⟩, g1, heap_alloc_new w1 _, ?_⟩, B1.out.alloc hW _⟩
    refine ((D1.out.mono (S' := fun k => w.heap.size ≤ k ∧ k < w1.heap.size) (fun i hi h => ⟨h, hi⟩)).below ((Below.refl _ _).alloc (Nat.le_refl _) _)).mono (fun i _ h => ⟨⟨h.1, by simp; omega⟩, by omega⟩))
  clear D1 B1 K1
  go_wp2_with fail
  go_ret
  exact ⟨_, rfl, hfin.out.1, hfin.out.2⟩
end Go.Proofs.YtcmndglhileeoaaGreat
