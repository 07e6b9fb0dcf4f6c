/- Walks of package dict: Clone. -/
import Derived.Test.YtcmndglhileeoaaGreatQTouch
import Derived.Deep.RegionHeld3
set_option linter.unusedSimpArgs false
set_option linter.unusedVariables false
namespace Go.Proofs.YtcmndglhileeoaaGreat
open Go.RowKit

theorem OwnV.nilcap {w : World} {base n c : Nat} {e : TypeId} {A : Option Addr} {vs : List Value} (h : OwnV w base e (.slice A n c) vs) : A = none → c = 0 := by
  rintro rfl
  rcases h.2 with ⟨he, _⟩ | ⟨g, cap, cur, he, _⟩
  · injection he
  · injection he with h1; cases h1
theorem Below.of_drew {B : Nat} {w w1 : World} (h : Below B w.drew w1) : Below B w w1 := ⟨h.os, h.tape, h.output, h.size, h.block⟩

set_option maxHeartbeats 2000000 in
set_option maxRecDepth 100000 in
theorem dclone_any (w : World) (S : Nat → Prop) (g : Nat) (d : Rv.Dict) (h : DictAt w S g d) :
    Calls Tryz.prog 38 #[.pointer (some ⟨g, 0, none⟩)] w fun e w' => ∃ g', e = .returned (.pointer (some ⟨g', 0, none⟩)) ∧ DictAt w' (fun k => w.heap.size ≤ k) g' d ∧ Below w.heap.size w w' := by
  obtain ⟨ok, kv, bm, ov, es, clock, q1, q2, q3, q4, q5, h6, h7, h8, h9, h10⟩ := h
  have M : Hid (DictMid w g d.room kv bm ov (d.keys.map .string) (d.order.map intv) es clock) := Lib.hid ⟨q1, q2, q3, q4, q5⟩
  obtain ⟨A, c, hkv, -, -, hrk⟩ := q2.shape
  obtain ⟨A', c', hov, -, -, hro⟩ := q3.shape
  rw [List.length_map] at hkv hov
  subst hkv
  subst hov
  have n1 := q2.nilcap
  have n2 := q3.nilcap
  have hlen : d.keys.length ≤ 64 := by have := ok.few; have := ok.r1; omega
  have holen : d.order.length ≤ 64 := by rw [ok.len]; exact hlen
  have h1s : ∀ u ∈ d.keys.map Value.string, u.oneCell' = true := fun u hu => by obtain ⟨y, _, rfl⟩ := List.mem_map.1 hu; rfl
  have h1i : ∀ u ∈ d.order.map intv, u.oneCell' = true := fun u hu => by obtain ⟨y, _, rfl⟩ := List.mem_map.1 hu; rfl
  have Ok := Lib.hid ok
  have H6 := Lib.hid h6
  have N1 := Lib.hid n1
  have N2 := Lib.hid n2
  have H1s := Lib.hid h1s
  have H1i := Lib.hid h1i
  have HRk := Lib.hid hrk
  have HRo := Lib.hid hro
  have Q4 := Lib.hid q4
  clear ok h6 q1 q2 q3 q4 q5 h7 h8 h9 h10 n1 n2 h1s h1i hrk hro
  obtain ⟨c0, c1, c2, c3, -⟩ := M.out.cells
  go_enter Tryz.func38, Tryz.ntmps38
  go_wp2_with fail
  go_region_held3 (fun w' => w'.cell? ⟨g, 0, none⟩ = some (.int .i64 (d.room : Int)) ∧ w'.cell? ⟨g, 1, none⟩ = some (.slice A d.keys.length c) ∧ w'.cell? ⟨g, 2, none⟩ = some (.map (some bm)) ∧ w'.cell? ⟨g, 3, none⟩ = some (.slice A' d.order.length c'))
    (first | exact K3.out | exact K2.out | exact K1.out | exact ⟨c0, c1, c2, c3⟩ | go_keep)
    (first
    | (go_at_call 78; refine (clone_str w.drew A d.keys.length c (d.keys.map .string) (by simp) HRk.out H1s.out N1.out (by omega)).mono ?_; rintro e w1 ⟨V1, C1, rfl, o1, b1⟩; have O1 := Lib.hid o1; have B1 := Lib.hid (Below.of_drew b1); clear o1 b1; have K1 := Lib.hid (And.intro (cell_below B1.out c0) (And.intro (cell_below B1.out c1) (And.intro (cell_below B1.out c2) (cell_below B1.out c3)))))
    | (go_at_call 79; refine (mclone_int bm es clock w1 ((B1.out.block bm M.out.ltb).trans Q4.out)).mono ?_; rintro e w2 ⟨rfl, hw2⟩; have B2 : Hid (Below w1.heap.size w1 w2) := Lib.hid (by rw [← hw2]; exact (Below.refl _ _).alloc (Nat.le_refl _) _); have E2 : Hid (w2.heap[w1.heap.size]? = some (.map es clock) ∧ w1.heap.size < w2.heap.size) := Lib.hid (by rw [← hw2]; exact ⟨heap_alloc_new w1 _, by simp⟩); clear hw2; have K2 := Lib.hid (And.intro (cell_below B2.out K1.out.1) (And.intro (cell_below B2.out K1.out.2.1) (And.intro (cell_below B2.out K1.out.2.2.1) (cell_below B2.out K1.out.2.2.2)))))
    | (go_at_call 80; refine (clone_int w2 A' d.order.length c' (d.order.map intv) (by simp) ((HRo.out.below B1.out).below B2.out) H1i.out N2.out (by omega)).mono ?_; rintro e w3 ⟨V3, C3, rfl, o3, b3⟩; have O3 := Lib.hid o3; have B3 := Lib.hid b3; clear o3 b3; have K3 := Lib.hid (And.intro (cell_below B3.out K2.out.1) (And.intro (cell_below B3.out K2.out.2.1) (And.intro (cell_below B3.out K2.out.2.2.1) (cell_below B3.out K2.out.2.2.2))))))
  have hW3 : w.heap.size ≤ w3.heap.size := by have := B1.out.size; have := B2.out.size; have := B3.out.size; omega
  have hS : Hid (DictAt (w3.alloc (.cells #[Value.int IntKind.i64 (d.room : Int), Value.slice V1 d.keys.length C1, Value.map (some w1.heap.size), Value.slice V3 d.order.length C3] 166)) (fun k => w.heap.size ≤ k) w3.heap.size d) := Lib.hid (by
    have o1 := ((O1.out.below B2.out).below B3.out).alloc (.cells #[Value.int IntKind.i64 (d.room : Int), Value.slice V1 d.keys.length C1, Value.map (some w1.heap.size), Value.slice V3 d.order.length C3] 166)
    have o3 := O3.out.alloc (.cells #[Value.int IntKind.i64 (d.room : Int), Value.slice V1 d.keys.length C1, Value.map (some w1.heap.size), Value.slice V3 d.order.length C3] 166)
    have s1 := B1.out.size
    have s2 := B2.out.size
    refine ⟨Ok.out, _, w1.heap.size, _, es, clock, heap_alloc_new w3 _, o1.mono (Nat.zero_le _), o3.mono (Nat.zero_le _), ?_, M.out.fit, H6.out, hW3, s1, fun k hk => (o1.block k hk).1, fun k hk => Nat.le_trans (by omega) (o3.block k hk).1⟩
    rw [Below.heap_alloc _ _ _ (Nat.lt_of_lt_of_le E2.out.2 B3.out.size), B3.out.block _ E2.out.2]
    exact E2.out.1)
  have hB : Hid (Below w.heap.size w (w3.alloc (.cells #[Value.int IntKind.i64 (d.room : Int), Value.slice V1 d.keys.length C1, Value.map (some w1.heap.size), Value.slice V3 d.order.length C3] 166))) := Lib.hid ((below_trans (below_trans B1.out B2.out) B3.out).alloc hW3 _)
  clear O1 O3 B1 B2 B3 E2 K1 K2 K3
  go_wp2_with fail
  go_ret
  exact ⟨_, rfl, hS.out, hB.out⟩
end Go.Proofs.YtcmndglhileeoaaGreat
