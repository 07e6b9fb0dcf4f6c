/- A part of the proof: its texts in a row: Put, CClone. Each text's own remark stands at its head. -/
import Derived.Test.YtcmndglhileeoaaGreatQRecord
import Derived.Lib.AppendStr
/- Walks of package record: Coder.Put. -/
set_option linter.unusedSimpArgs false
set_option linter.unusedVariables false
namespace Go.Proofs.YtcmndglhileeoaaGreat
open Go.RowKit

/-- Bytes of one's own, in a row that was v's or is new. -/
def outRes (w : World) (v : Value) (zs : List UInt8) (e : Ending) (w' : World) : Prop :=
  ∃ B C, e = .returned (.slice B zs.length C) ∧ OwnB w' 0 (.slice B zs.length C) zs ∧ Kept (fun k => v.ownBlock = some k) w w' ∧ (∀ k, (Value.slice B zs.length C).ownBlock = some k → v.ownBlock = some k ∨ w.heap.size ≤ k)
theorem rnumber_to (v : Value) (xs : List UInt8) (n : Int) (w : World) (zs : List UInt8) (hz : xs ++ Rv.numB n = zs) (ho : OwnB w 0 v xs) (hl : xs.length ≤ 4194304) :
    Calls Tryz.prog 40 #[v, .int .i64 n] w (outRes w v zs) := by
  refine (rnumber_any v xs n w ho hl).mono ?_
  rintro e w' ⟨B, C, rfl, o, k, l⟩
  subst hz
  rw [← List.length_append] at *
  exact ⟨B, C, rfl, o, k, l⟩

theorem belowN {B : Nat} {a w : World} (n : Nat) (h : Below B a w) : Below B a (w.drewN n) := ⟨h.os, h.tape, h.output, h.size, h.block⟩
theorem OwnV.rebase {w : World} {b : Nat} {e : TypeId} {v : Value} {vs : List Value} (h : OwnV w 0 e v vs) (hb : ∀ k, v.ownBlock = some k → b ≤ k) : OwnV w b e v vs := by
  refine ⟨h.1, ?_⟩
  rcases h.2 with hn | ⟨g, cap, cur, rfl, _, r⟩
  · exact .inl hn
  · exact .inr ⟨g, cap, cur, rfl, hb g rfl, r⟩
theorem OwnB.rebase {w : World} {b : Nat} {v : Value} {vs : List UInt8} (h : OwnB w 0 v vs) (hb : ∀ k, v.ownBlock = some k → b ≤ k) : OwnB w b v vs := (h.toV.rebase hb).toB

theorem app_str {P : Program} {ops : Array Oper} {rest : List Oper} {o : Oper} {a : Act} {Q : Exit → Act → World → Prop} {W : World} (base : Nat) (hgd : o.guard = none) (s x : Operand) (t u : TypeId)
    (ho : o.op = .call { callee := .builtin .append, args := #[s, x], argTypes := #[t, u] })
    (ht : P.underlying t = some (.slice 5)) (hu : P.underlying u = some .string) (hinfo : (P.info? 5).map (fun i => (i.zero, i.size, i.bytes)) = some (some (.int .u8 0), 1, 1))
    (v : Value) (xs : List UInt8) (str : ByteArray) (hs : a.eval s = v) (hx : a.eval x = .string str) (HO : OwnB W base v xs) (hbase : base ≤ W.heap.size) (N : Nat) (hN : xs.length + str.size = N) (hl : N ≤ 140737488355328)
    (h : ∀ B1 C1 w1, OwnB w1 base (.slice B1 N C1) (xs ++ Rv.bytesOf str) → Kept (fun k => v.ownBlock = some k) W w1 → wpList P ops Q rest (a.put o.dst (.slice B1 N C1)) w1) : wpList P ops Q (o :: rest) a W := by
  subst hN
  obtain ⟨i0, hi, hz0, hz1, hz2⟩ := info_parts' hinfo
  refine Lib.wpList_append_own_string W hgd s x t u ho base 5 i0 ht hu hi hz0 hz1 hz2 v xs.length (u8s xs) hs HO str hx (by simp only [maxLen]; omega) hl hbase ?_
  intro v1 w1 o1 g1 _
  have e : u8s xs ++ Lib.strCells str = u8s (xs ++ Rv.bytesOf str) := by rw [u8s_append]; rfl
  have o2 : OwnB w1 base v1 (xs ++ Rv.bytesOf str) := by
    unfold OwnB
    rw [← e]
    have : (xs ++ Rv.bytesOf str).length = xs.length + str.size := by rw [List.length_append]; congr 1
    rw [this]; exact o1
  obtain ⟨B1, C1, rfl, -, -, -⟩ := o2.shape
  have : (xs ++ Rv.bytesOf str).length = xs.length + str.size := by rw [List.length_append]; congr 1
  rw [this] at o2 ⊢
  exact h B1 C1 w1 o2 (Kept.of_grown g1 fun k hk _ => hk)

structure COk (c : Rv.Coder) : Prop where
  t0 : 0 ≤ c.tick
  t1 : c.tick ≤ 1099511627776
  c0 : 0 ≤ c.cost
  c1 : c.cost ≤ 1048576

/-- At g stands a coder; its memory lies in S. -/
def CoderAt (w : World) (S : Nat → Prop) (g : Nat) (c : Rv.Coder) : Prop :=
  COk c ∧ S g ∧ ∃ gd, w.heap[g]? = some (.cells #[.pointer (some ⟨gd, 0, none⟩), .int .i64 c.tick, .int .i64 c.cost] 108 (0, 0)) ∧ DictAt w (fun k => S k ∧ k ≠ g) gd c.d
theorem CoderAt.kept {w w' : World} {S T : Nat → Prop} {g : Nat} {c : Rv.Coder} (h : CoderAt w S g c) (k : Kept T w w') (hd : ∀ i, S i → ¬ T i) : CoderAt w' S g c := by
  obtain ⟨ok, hg, gd, h1, h2⟩ := h
  exact ⟨ok, hg, gd, (k.block g (Array.getElem?_eq_some_iff.1 h1).1 (hd g hg)).trans h1, h2.kept k (fun i hi => hd i hi.1)⟩
theorem CoderAt.mono {w : World} {S S' : Nat → Prop} {g : Nat} {c : Rv.Coder} (h : CoderAt w S g c) (hs : ∀ i, i < w.heap.size → S i → S' i) : CoderAt w S' g c := by
  obtain ⟨ok, hg, gd, h1, h2⟩ := h
  exact ⟨ok, hs g (Array.getElem?_eq_some_iff.1 h1).1 hg, gd, h1, h2.mono (fun i hi h => ⟨hs i hi h.1, h.2⟩)⟩
theorem CoderAt.below {w w' : World} {S : Nat → Prop} {g : Nat} {c : Rv.Coder} (h : CoderAt w S g c) (hb : Below w.heap.size w w') : CoderAt w' S g c := h.kept (Kept.of_below (S := fun _ => False) hb) (fun _ _ h => h)

/-- What may have turned: S's blocks; what it is now lies in S' . -/
def Moved (S S' : Nat → Prop) (w w' : World) : Prop := Kept S w w' ∧ ∀ k, S' k → (S k ∨ w.heap.size ≤ k) ∧ k < w'.heap.size

theorem use_moved (w : World) (S : Nat → Prop) (g : Nat) (d : Rv.Dict) (key : ByteArray) (h : DictAt w S g d) (h0 : 1 ≤ key.size) (h1 : key.size ≤ 64) :
    Calls Tryz.prog 42 #[.pointer (some ⟨g, 0, none⟩), .string key] w fun e w' => e = .returned (.tuple #[.int .i64 ((d.use key).2.1 : Int), .bool (d.use key).2.2, .int .i64 0]) ∧ ∃ S', DictAt w' S' g (d.use key).1 ∧ Moved S S' w w' := by
  refine (use_any w S g d key h h0 h1).mono ?_
  rintro e w' ⟨rfl, S', h1, h2, h3⟩
  exact ⟨rfl, fun k => S' k ∧ k < w'.heap.size, h1.mono (fun i hi h => ⟨h, hi⟩), h2, fun k hk => ⟨h3 k hk.1, hk.2⟩⟩

theorem right_zero {r : Rv.Rec} (h : r.right = 0) : 0 ≤ r.tick ∧ r.tick ≤ 1099511627776 ∧ 1 ≤ r.key.size ∧ r.key.size ≤ 64 ∧ 1 ≤ r.cost ∧ r.cost ≤ 1048576 ∧ 0 ≤ r.verdict ∧ r.verdict ≤ 2 := by
  unfold Rv.Rec.right at h
  cases h1 : Rv.tickOk r.tick <;> simp [h1] at h
  cases h2 : Rv.keyOk r.key <;> simp [h2] at h
  cases h3 : Rv.costOk r.cost <;> simp [h3] at h
  cases h4 : Rv.verdictOk r.verdict <;> simp [h4] at h
  simp [Rv.tickOk, Rv.costOk, Rv.verdictOk, Rv.inB, Rv.keyOk] at h1 h2 h3 h4
  exact ⟨h1.1, h1.2, h2.1, h2.2, h3.1, h3.2, h4.1, h4.2⟩

set_option maxHeartbeats 1000000 in
set_option maxRecDepth 100000 in
theorem cput_wrong (w : World) (S : Nat → Prop) (g : Nat) (c : Rv.Coder) (r : Rv.Rec) (h : CoderAt w S g c) (hr : r.right ≠ 0) :
    Calls Tryz.prog 23 #[.pointer (some ⟨g, 0, none⟩), .agg #[.int .i64 r.tick, .string r.key, .int .i64 r.cost, .int .i64 r.verdict]] w fun e w' => e = .returned (.tuple #[.slice none 0 0, .int .i64 r.right]) ∧ Below w.heap.size w w' := by
  have hn : (r.right == 0) = false := by rw [beq_eq_false_iff_ne]; exact hr
  have hn2 : (!r.right == 0) = true := by rw [hn]; rfl
  clear h hr
  have HB := Lib.hid (fun o => (Below.refl w.heap.size w).alloc (Nat.le_refl _) o)
  go_enter Tryz.func23, Tryz.ntmps23
  go_wp2_with fail
  refine (rright_any r _).mono ?_
  rintro e w1 ⟨rfl, b1⟩
  have B1 := Lib.hid b1
  clear b1
  go_wp2_with fail
  go_ret2
  exact ⟨rfl, below_then (HB.out _) (by simp) B1.out⟩

set_option maxHeartbeats 1000000 in
set_option maxRecDepth 100000 in
theorem cput_back (w : World) (S : Nat → Prop) (g : Nat) (c : Rv.Coder) (r : Rv.Rec) (h : CoderAt w S g c) (hr : r.right = 0) (ht : r.tick < c.tick) :
    Calls Tryz.prog 23 #[.pointer (some ⟨g, 0, none⟩), .agg #[.int .i64 r.tick, .string r.key, .int .i64 r.cost, .int .i64 r.verdict]] w fun e w' => e = .returned (.tuple #[.slice none 0 0, .int .i64 60]) ∧ Below w.heap.size w w' := by
  have Hr := Lib.hid hr
  have hd : decide (r.tick < c.tick) = true := by simpa using ht
  obtain ⟨ok, hg, gd, h1, h2⟩ := h
  have c1 : w.cell? ⟨g, 1, none⟩ = some (.int .i64 c.tick) := by rw [cells_of h1]; rfl
  have hlt : g < w.heap.size := (Array.getElem?_eq_some_iff.1 h1).1
  clear hr ht h1 h2 hg ok
  have HB := Lib.hid (fun o => (Below.refl w.heap.size w).alloc (Nat.le_refl _) o)
  go_enter Tryz.func23, Tryz.ntmps23
  go_wp2_with fail
  refine (rright_any r _).mono ?_
  rintro e w1 ⟨rfl, b1⟩
  rw [Hr.out]
  obtain ⟨hc, hf, hl, hn, hm, hz⟩ := bcell2 b1 (w.heap.size + 1) (by simp)
  have B1 := Lib.hid b1
  clear b1
  have d1 : w1.cell? ⟨g, 1, none⟩ = some (.int .i64 c.tick) := by rw [hc _ _ (by omega)]; exact cell_below (HB.out _) c1
  have d2 : w1.cell? ⟨w.heap.size, 0, none⟩ = some (.int .i64 r.tick) := by rw [hc _ _ (by omega)]; go_simp
  go_upto_region 4 with (fail)
  go_quiet (fail)
  go_wp2_with fail
  go_ret2
  exact ⟨rfl, belowN _ (below_then (HB.out _) (by simp) B1.out)⟩

/-- A row of bytes is none of a coder's blocks. -/
def NoBytes (w : World) (k : Nat) : Prop := ∀ cur, w.heap[k]? ≠ some (.cells cur 5 (0, 0))
theorem DictAt.typed {w : World} {S : Nat → Prop} {g : Nat} {d : Rv.Dict} (h : DictAt w S g d) : DictAt w (fun k => S k ∧ NoBytes w k) g d := by
  obtain ⟨ok, kv, bm, ov, es, clock, h1, h2, h3, h4, h5, h6, h7, h8, h9, h10⟩ := h
  refine ⟨ok, kv, bm, ov, es, clock, h1, h2, h3, h4, h5, h6, ⟨h7, fun cur h => by rw [h1] at h; cases h⟩, ⟨h8, fun cur h => by rw [h4] at h; cases h⟩,
    fun k hk => ⟨h9 k hk, fun cur h => ?_⟩, fun k hk => ⟨h10 k hk, fun cur h => ?_⟩⟩
  · obtain ⟨cur2, hc⟩ := own_type h2 hk; rw [hc] at h; cases h
  · obtain ⟨cur2, hc⟩ := own_type h3 hk; rw [hc] at h; cases h

/-- What stands while Put works: the coder, the record in its box. -/
structure PutMid (w : World) (g gd b0 : Nat) (c : Rv.Coder) (r : Rv.Rec) : Prop where
  row : w.heap[g]? = some (.cells #[.pointer (some ⟨gd, 0, none⟩), .int .i64 c.tick, .int .i64 c.cost] 108 (0, 0))
  box : w.heap[b0]? = some (.cells #[.int .i64 r.tick, .string r.key, .int .i64 r.cost, .int .i64 r.verdict] 44 (0, 0))
theorem PutMid.kept {w w' : World} {S : Nat → Prop} {g gd b0 : Nat} {c : Rv.Coder} {r : Rv.Rec} (h : PutMid w g gd b0 c r) (k : Kept S w w') (h1 : ¬ S g) (h2 : ¬ S b0) : PutMid w' g gd b0 c r :=
  ⟨(k.block g (Array.getElem?_eq_some_iff.1 h.row).1 h1).trans h.row, (k.block b0 (Array.getElem?_eq_some_iff.1 h.box).1 h2).trans h.box⟩
def PutCells (w : World) (g gd b0 : Nat) (c : Rv.Coder) (r : Rv.Rec) : Prop :=
  w.cell? ⟨g, 0, none⟩ = some (.pointer (some ⟨gd, 0, none⟩)) ∧ w.cell? ⟨g, 1, none⟩ = some (.int .i64 c.tick) ∧ w.cell? ⟨g, 2, none⟩ = some (.int .i64 c.cost) ∧
  w.cell? ⟨b0, 0, none⟩ = some (.int .i64 r.tick) ∧ w.cell? ⟨b0, 1, none⟩ = some (.string r.key) ∧ w.cell? ⟨b0, 2, none⟩ = some (.int .i64 r.cost) ∧ w.cell? ⟨b0, 3, none⟩ = some (.int .i64 r.verdict)
theorem PutMid.cells {w : World} {g gd b0 : Nat} {c : Rv.Coder} {r : Rv.Rec} (h : PutMid w g gd b0 c r) : PutCells w g gd b0 c r := by
  refine ⟨?_, ?_, ?_, ?_, ?_, ?_, ?_⟩ <;> (first | (rw [cells_of h.row]; rfl) | (rw [cells_of h.box]; rfl))

theorem DictAt.drew {w : World} {S : Nat → Prop} {g : Nat} {d : Rv.Dict} (h : DictAt w S g d) : DictAt w.drew S g d := by
  obtain ⟨ok, kv, bm, ov, es, clock, h1, h2, h3, h4, h5, h6, h7⟩ := h
  exact ⟨ok, kv, bm, ov, es, clock, h1, h2, h3, h4, h5, h6, h7⟩
theorem use_slot {d : Rv.Dict} (ok : DOk d) (key : ByteArray) : (d.use key).2.1 ≤ 64 := by
  have h1 := ok.few
  have h2 := ok.r1
  unfold Rv.Dict.use
  split
  · rename_i s hs
    have := (List.getElem?_eq_some_iff.1 (find_some hs)).1
    simp; omega
  · split
    · simp; omega
    · simp only
      cases h : d.order[d.room - 1]? with
      | none => simp [List.getD, h]
      | some s =>
        have := ok.mem.1 (List.mem_of_getElem? h)
        simp [List.getD, h]; omega

def PutOk (w : World) (S : Nat → Prop) (g : Nat) (c : Rv.Coder) (bs : List UInt8) (e : Ending) (w' : World) : Prop :=
  ∃ B C S', e = .returned (.tuple #[.slice B bs.length C, .int .i64 0]) ∧ OwnB w' w.heap.size (.slice B bs.length C) bs ∧ CoderAt w' S' g c ∧ Moved S S' w w' ∧ (∀ k, (Value.slice B bs.length C).ownBlock = some k → ¬ S' k)

theorem put_fin {w w7 : World} {S S' : Nat → Prop} {g gd b0 : Nat} {c : Rv.Coder} {r : Rv.Rec} {u : Rv.Dict} {z : List UInt8} {B : Option Addr} {C : Nat} (hg : S g) (hlt : g < w.heap.size) (ok : COk ⟨u, r.tick, r.cost⟩)
    (K7 : Kept S w w7) (M7 : PutMid w7 g gd b0 c r) (O7 : OwnB w7 0 (.slice B z.length C) z) (L7 : ∀ k, (Value.slice B z.length C).ownBlock = some k → w.heap.size < k) (D7 : DictAt w7 S' gd u)
    (HS : ∀ k, S' k → (S k ∨ w.heap.size < k) ∧ k < w7.heap.size ∧ k ≠ g) :
    OwnB ((w7.drew.setCell ⟨g, 1, none⟩ (.int .i64 r.tick)).setCell ⟨g, 2, none⟩ (.int .i64 r.cost)) w.heap.size (.slice B z.length C) z ∧
    ∃ S'', CoderAt ((w7.drew.setCell ⟨g, 1, none⟩ (.int .i64 r.tick)).setCell ⟨g, 2, none⟩ (.int .i64 r.cost)) S'' g ⟨u, r.tick, r.cost⟩ ∧
      Moved S S'' w ((w7.drew.setCell ⟨g, 1, none⟩ (.int .i64 r.tick)).setCell ⟨g, 2, none⟩ (.int .i64 r.cost)) ∧ (∀ k, (Value.slice B z.length C).ownBlock = some k → ¬ S'' k) := by
  have k1 : Kept (fun k => k = g) w7.drew ((w7.drew.setCell ⟨g, 1, none⟩ (.int .i64 r.tick)).setCell ⟨g, 2, none⟩ (.int .i64 r.cost)) := Kept.setCell (S := fun k => k = g) (Kept.setCell (S := fun k => k = g) (Kept.refl _ _) ⟨g, 1, none⟩ _ (.inl rfl)) ⟨g, 2, none⟩ _ (.inl rfl)
  have row : ((w7.drew.setCell ⟨g, 1, none⟩ (.int .i64 r.tick)).setCell ⟨g, 2, none⟩ (.int .i64 r.cost)).heap[g]? = some (.cells #[.pointer (some ⟨gd, 0, none⟩), .int .i64 r.tick, .int .i64 r.cost] 108 (0, 0)) := by
    rw [set_at (set_at (w := w7.drew) M7.row 1 _)]; rfl
  generalize (w7.drew.setCell ⟨g, 1, none⟩ (.int .i64 r.tick)).setCell ⟨g, 2, none⟩ (.int .i64 r.cost) = wf at *
  have o : OwnB wf 0 (.slice B z.length C) z := OwnB.kept (a := w7.drew) O7 k1 (fun i hi e => by have := L7 i hi; omega)
  have d := (D7.drew.kept k1 (fun i hi e => (HS i hi).2.2 e)).typed
  refine ⟨o.rebase (fun k hk => Nat.le_of_lt (L7 k hk)), fun k => (S' k ∧ NoBytes wf k) ∨ k = g, ⟨ok, .inr rfl, gd, row, d.mono (fun i _ h => ⟨.inl h, (HS i h.1).2.2⟩)⟩, ⟨K7.drew.trans k1 (fun i _ e => e ▸ hg), fun k hk => ?_⟩, fun k hk => ?_⟩
  · have s1 : w.heap.size ≤ w7.heap.size := K7.size
    have s2 : w7.heap.size ≤ wf.heap.size := k1.size
    rcases hk with hk | rfl
    · obtain ⟨h1, h2, _⟩ := HS k hk.1
      exact ⟨h1.imp id Nat.le_of_lt, Nat.lt_of_lt_of_le h2 s2⟩
    · exact ⟨.inl hg, by omega⟩
  · rintro (h | rfl)
    · obtain ⟨cur, hc⟩ := own_type o.toV hk
      exact h.2 cur hc
    · have := L7 _ hk; omega

set_option maxHeartbeats 4000000 in
set_option maxRecDepth 100000 in
theorem cput_ok (w : World) (S : Nat → Prop) (g : Nat) (c : Rv.Coder) (r : Rv.Rec) (h : CoderAt w S g c) (hS : ∀ k, S k → k < w.heap.size) (hr : r.right = 0) (ht : c.tick ≤ r.tick) :
    Calls Tryz.prog 23 #[.pointer (some ⟨g, 0, none⟩), .agg #[.int .i64 r.tick, .string r.key, .int .i64 r.cost, .int .i64 r.verdict]] w (PutOk w S g (c.put r).1 (c.put r).2) := by
  obtain ⟨p0, p1, p2, p3, p4, p5, p6, p7⟩ := right_zero hr
  have Hr := Lib.hid hr
  have hd : decide (r.tick < c.tick) = false := by simp; omega
  obtain ⟨ok, hg, gd, q1, q2⟩ := h
  obtain ⟨t0, t1, t2, t3⟩ := ok
  have hlt : g < w.heap.size := (Array.getElem?_eq_some_iff.1 q1).1
  obtain ⟨z1, hz1⟩ : ∃ z, z = Rv.numB (4 * (r.tick - c.tick) + r.verdict) := ⟨_, rfl⟩
  obtain ⟨z2, hz2⟩ : ∃ z, z = z1 ++ Rv.numB (Rv.zig (r.cost - c.cost)).1 := ⟨_, rfl⟩
  have Q1 := Lib.hid q1
  have Q2 := Lib.hid q2
  have HS := Lib.hid hS
  have hgS := Lib.hid hg
  have Hz1 := Lib.hid hz1
  have Hz2 := Lib.hid hz2
  have HB := Lib.hid (fun o => (Below.refl w.heap.size w).alloc (Nat.le_refl _) o)
  have hw1 : IntKind.i64.wrap (r.tick - c.tick) = r.tick - c.tick := IntWalk.i64_in _ (by omega)
  have hw2 : IntKind.i64.wrap (4 * (r.tick - c.tick)) = 4 * (r.tick - c.tick) := IntWalk.i64_in _ (by omega)
  have hw3 : IntKind.i64.wrap (4 * (r.tick - c.tick) + r.verdict) = 4 * (r.tick - c.tick) + r.verdict := IntWalk.i64_in _ (by omega)
  have hw4 : IntKind.i64.wrap (r.cost - c.cost) = r.cost - c.cost := IntWalk.i64_in _ (by omega)
  have l1 : z1.length ≤ 9 := by rw [hz1]; exact Rv.numB_len _
  have l2 : z2.length ≤ 18 := by rw [hz2, List.length_append]; have := Rv.numB_len (Rv.zig (r.cost - c.cost)).1; omega
  clear hz1 hz2 hr q1 q2 hS hg
  go_enter Tryz.func23, Tryz.ntmps23
  go_wp2_with fail
  refine (rright_any r _).mono ?_
  rintro e w1 ⟨rfl, b1⟩
  rw [Hr.out]
  have M1 : Hid (PutMid w1 g gd w.heap.size c r) := Lib.hid ⟨by rw [b1.block g (by simp; omega), (HB.out _).block g hlt]; exact Q1.out, by rw [b1.block _ (by simp)]; exact heap_alloc_new w _⟩
  have B1 : Hid (Below w.heap.size w w1) := Lib.hid (below_then (HB.out _) (by simp) b1)
  have Z1 : Hid (w.heap.size < w1.heap.size) := Lib.hid (by have := b1.size; simp at this; omega)
  clear b1
  obtain ⟨d1, d2, d3, d4, d5, d6, d7⟩ := M1.out.cells
  go_upto_region 4 with (fail)
  go_quiet (fail)
  have B2 : Hid (Below w.heap.size w (w1.drewN nq)) := Lib.hid (belowN _ B1.out)
  have M2 : Hid (PutMid (w1.drewN nq) g gd w.heap.size c r) := Lib.hid ⟨M1.out.row, M1.out.box⟩
  have Z2 : Hid (w.heap.size < (w1.drewN nq).heap.size) := Lib.hid Z1.out
  clear d1 d2 d3 d4 d5 d6 d7 M1 B1 Z1
  generalize w1.drewN nq = w2 at *
  clear w1
  obtain ⟨d1, d2, d3, d4, d5, d6, d7⟩ := M2.out.cells
  go_upto_region 6 with (fail)
  go_region_held3 (fun w' => w'.cell? ⟨g, 1, none⟩ = some (.int .i64 c.tick) ∧ w'.cell? ⟨w.heap.size, 0, none⟩ = some (.int .i64 r.tick) ∧ w'.cell? ⟨w.heap.size, 3, none⟩ = some (.int .i64 r.verdict))
    (first | exact K1.out | exact ⟨d2, d4, d7⟩ | go_keep)
    (first | (go_at_call 40; refine (rnumber_to (.slice none 0 0) [] _ w2.drew z1 Hz1.out.symm (OwnB.nil _ _) (by simp)).mono ?_; rintro e w3 ⟨B, C, rfl, o, k, l⟩; have KK : Hid (Kept (fun _ => False) w2 w3) := Lib.hid ⟨k.os, k.tape, k.output, k.size, fun i hi _ => k.block i hi (by simp [Value.ownBlock])⟩; have O1 := Lib.hid o; have L1 : Hid (∀ k, (Value.slice B z1.length C).ownBlock = some k → w2.heap.size ≤ k) := Lib.hid (fun k hk => (l k hk).resolve_left (by simp [Value.ownBlock])); clear o k l; have K1 := Lib.hid (And.intro (KK.out.cell' d2 id) (And.intro (KK.out.cell' d4 id) (KK.out.cell' d7 id)))))
  have B3 : Hid (Below w.heap.size w w3) := Lib.hid (below_then B2.out (Nat.le_of_lt Z2.out) (KK.out.below (Nat.le_refl _) (fun _ _ h => h)))
  have M3 : Hid (PutMid w3 g gd w.heap.size c r) := Lib.hid (M2.out.kept KK.out id id)
  have L2 : Hid (∀ k, (Value.slice B z1.length C).ownBlock = some k → w.heap.size < k) := Lib.hid (fun k hk => by have := L1.out k hk; have := Z2.out; omega)
  have Z3 : Hid (w.heap.size < w3.heap.size) := Lib.hid (Nat.lt_of_lt_of_le Z2.out KK.out.size)
  clear d1 d2 d3 d4 d5 d6 d7 K1 KK M2 B2 L1 Z2 hw1 hw2 hw3
  obtain ⟨d1, d2, d3, d4, d5, d6, d7⟩ := M3.out.cells
  go_upto_region 7 with (fail)
  go_region_held3 (fun w' => w'.cell? ⟨g, 2, none⟩ = some (.int .i64 c.cost) ∧ w'.cell? ⟨w.heap.size, 2, none⟩ = some (.int .i64 r.cost))
    (first | exact ⟨d3, d6⟩ | go_keep)
    (first | (go_at_call 41; refine (zig_any (r.cost - c.cost) _ (by omega) (by omega)).mono ?_; rintro e w' ⟨rfl, rfl⟩))
  have M4 : Hid (PutMid w3.drew g gd w.heap.size c r) := Lib.hid ⟨M3.out.row, M3.out.box⟩
  have B4 : Hid (Below w.heap.size w w3.drew) := Lib.hid ⟨B3.out.os, B3.out.tape, B3.out.output, B3.out.size, B3.out.block⟩
  have O4 : Hid (OwnB w3.drew 0 (.slice B z1.length C) z1) := Lib.hid O1.out
  have Z4 : Hid (w.heap.size < w3.drew.heap.size) := Lib.hid Z3.out
  clear d1 d2 d3 d4 d5 d6 d7 M3 B3 O1 Z3 hw4
  generalize w3.drew = w4 at *
  clear w3 w2
  go_wp2_with fail
  refine (rnumber_to (.slice B z1.length C) z1 _ _ z2 Hz2.out.symm O4.out (by omega)).mono ?_
  rintro e w5 ⟨B', C', rfl, o, k, l⟩
  have M5 : Hid (PutMid w5 g gd w.heap.size c r) := Lib.hid (M4.out.kept k (fun e => by have := L2.out _ e; omega) (fun e => by have := L2.out _ e; omega))
  have B5 : Hid (Below w.heap.size w w5) := Lib.hid (B4.out.trans (k.below (Nat.le_of_lt Z4.out) (fun i hi e => by have := L2.out i e; omega)))
  have L5 : Hid (∀ k, (Value.slice B' z2.length C').ownBlock = some k → w.heap.size < k) := Lib.hid (fun i hi => (l i hi).elim (L2.out i) (fun h => Nat.lt_of_lt_of_le Z4.out h))
  have O5 : Hid (OwnB w5 0 (.slice B' z2.length C') z2) := Lib.hid o
  have Z5 : Hid (w.heap.size < w5.heap.size) := Lib.hid (Nat.lt_of_lt_of_le Z4.out k.size)
  have D5 : Hid (DictAt w5.drew (fun k => S k ∧ k ≠ g) gd c.d) := Lib.hid (Q2.out.below B5.out).drew
  clear o k l M4 B4 L2 O4 Z4
  obtain ⟨d1, d2, d3, d4, d5, d6, d7⟩ := M5.out.cells
  obtain ⟨u, hu⟩ : ∃ u, u = c.d.use r.key := ⟨_, rfl⟩
  have Hu := Lib.hid hu
  have hsl : u.2.1 ≤ 64 := by rw [hu]; exact use_slot Q2.out.1 _
  have Hput : Hid (c.put r = (⟨u.1, r.tick, r.cost⟩, z2 ++ if u.2.2 then Rv.numB (1 + (u.2.1 : Int)) else Rv.numB 0 ++ Rv.numB r.key.size ++ Rv.bytesOf r.key)) := Lib.hid (by unfold Rv.Coder.put; rw [Hz2.out, Hz1.out, hu])
  clear hu
  go_upto_region 9 with (fail)
  go_region_held3 (fun w' => w'.cell? ⟨g, 0, none⟩ = some (.pointer (some ⟨gd, 0, none⟩)) ∧ w'.cell? ⟨w.heap.size, 1, none⟩ = some (.string r.key))
    (first | exact K1.out | exact ⟨d1, d5⟩ | go_keep)
    (first | (go_at_call 42; refine (use_moved w5.drew (fun k => S k ∧ k ≠ g) gd c.d r.key D5.out p2 p3).mono ?_; rw [← Hu.out]; rintro e w6 ⟨rfl, S', dd, mv⟩; have D6 := Lib.hid dd; have MV := Lib.hid mv; clear dd mv; have K1 := Lib.hid (And.intro (MV.out.1.cell' (a := w5.drew) d1 (fun e => e.2 rfl)) (MV.out.1.cell' (a := w5.drew) d5 (fun e => by have := HS.out w.heap.size e.1; omega)))))
  have KS6 : Hid (Kept S w w6) := Lib.hid ((Kept.of_below B5.out).drew.trans MV.out.1 (fun i _ e => e.1))
  have M6 : Hid (PutMid w6 g gd w.heap.size c r) := Lib.hid (PutMid.kept (w := w5.drew) ⟨M5.out.row, M5.out.box⟩ MV.out.1 (fun e => e.2 rfl) (fun e => by have := HS.out _ e.1; omega))
  have O6 : Hid (OwnB w6 0 (.slice B' z2.length C') z2) := Lib.hid (OwnB.kept (a := w5.drew) O5.out MV.out.1 (fun i hi e => by have := HS.out _ e.1; have := L5.out i hi; omega))
  have HS6 : Hid (∀ k, S' k → (S k ∨ w.heap.size < k) ∧ k < w6.heap.size ∧ k ≠ g) := Lib.hid (fun k hk => by
    obtain ⟨h1, h2⟩ := MV.out.2 k hk
    have z5 := Z5.out
    refine ⟨h1.imp (fun h => h.1) (fun h => Nat.lt_of_lt_of_le Z5.out h), h2, ?_⟩
    rintro rfl
    rcases h1 with h1 | h1
    · exact h1.2 rfl
    · have : w5.heap.size ≤ k := h1
      omega)
  have Z6 : Hid (w.heap.size < w6.heap.size) := Lib.hid (Nat.lt_of_lt_of_le Z5.out MV.out.1.size)
  clear d1 d2 d3 d4 d5 d6 d7 K1 M5 B5 O5 Z5 D5 MV
  obtain ⟨d1, d2, d3, d4, d5, d6, d7⟩ := M6.out.cells
  cases hhad : u.2.2 with
  | true =>
    rw [hhad] at Hput
    simp only [if_true] at Hput
    have hw5 : IntKind.i64.wrap (1 + (u.2.1 : Int)) = 1 + (u.2.1 : Int) := IntWalk.i64_in _ (by omega)
    obtain ⟨z3, hz3⟩ : ∃ z, z = z2 ++ Rv.numB (1 + (u.2.1 : Int)) := ⟨_, rfl⟩
    rw [← hz3] at Hput
    have Hz3 := Lib.hid hz3
    clear hz3
    go_wp2_with fail
    refine (rnumber_to (.slice B' z2.length C') z2 _ _ z3 Hz3.out.symm O6.out (by omega)).mono ?_
    rintro e w7 ⟨B7, C7, rfl, o, k, l⟩
    have L7 : ∀ k, (Value.slice B7 z3.length C7).ownBlock = some k → w.heap.size < k := fun i hi => (l i hi).elim (L5.out i) (fun h => Nat.lt_of_lt_of_le Z6.out h)
    have M7 : Hid (PutMid w7 g gd w.heap.size c r) := Lib.hid (M6.out.kept k (fun e => by have := L5.out _ e; omega) (fun e => by have := L5.out _ e; omega))
    have Fin := Lib.hid (put_fin (hgS.out) hlt ⟨p0, p1, by show 0 ≤ r.cost; omega, p5⟩ (KS6.out.trans k (fun i hi e => by have := L5.out i e; omega)) M7.out o L7
      ((D6.out.typed.kept k (fun i hi e => by obtain ⟨cur, hc⟩ := own_type O6.out.toV e; exact hi.2 cur hc)).mono (fun _ _ h => h.1)) (fun k' hk' => ⟨(HS6.out k' hk').1, Nat.lt_of_lt_of_le (HS6.out k' hk').2.1 k.size, (HS6.out k' hk').2.2⟩))
    clear o k l L7 d1 d2 d3 d4 d5 d6 d7
    obtain ⟨d1, d2, d3, d4, d5, d6, d7⟩ := M7.out.cells
    have f1 : ∀ i, w7.frozen? ⟨g, i, none⟩ = false := fun i => frozen_of M7.out.row i
    have hne : ¬ w.heap.size = g := by omega
    have e1 : (w7.setCell ⟨g, 1, none⟩ (.int .i64 r.tick)).drew.cell? ⟨w.heap.size, 0, none⟩ = some (.int .i64 r.tick) := (World.cell?_of_block (w := w7) (set_off 1 _ hne)).trans d4
    have e2 : (w7.setCell ⟨g, 1, none⟩ (.int .i64 r.tick)).drew.cell? ⟨w.heap.size, 2, none⟩ = some (.int .i64 r.cost) := (World.cell?_of_block (w := w7) (set_off 1 _ hne)).trans d6
    have e3 : ((w7.setCell ⟨g, 1, none⟩ (.int .i64 r.tick)).setCell ⟨g, 2, none⟩ (.int .i64 r.cost)).drew.cell? ⟨w.heap.size, 0, none⟩ = some (.int .i64 r.tick) := (World.cell?_of_block (w := w7.setCell ⟨g, 1, none⟩ (.int .i64 r.tick)) (set_off 2 _ hne)).trans e1
    have e4 : ((w7.setCell ⟨g, 1, none⟩ (.int .i64 r.tick)).setCell ⟨g, 2, none⟩ (.int .i64 r.cost)).drew.cell? ⟨w.heap.size, 2, none⟩ = some (.int .i64 r.cost) := (World.cell?_of_block (w := w7.setCell ⟨g, 1, none⟩ (.int .i64 r.tick)) (set_off 2 _ hne)).trans e2
    go_upto_region 15 with (fail)
    go_region_held3 (fun w' => w'.cell? ⟨w.heap.size, 0, none⟩ = some (.int .i64 r.tick) ∧ w'.cell? ⟨w.heap.size, 2, none⟩ = some (.int .i64 r.cost))
      (first | exact ⟨d4, d6⟩ | exact ⟨e1, e2⟩ | exact ⟨e3, e4⟩ | go_keep)
      (first | fail)
    go_wp2_with fail
    go_ret2
    rw [Hput.out]
    obtain ⟨f1, S'', f2, f3, f4⟩ := Fin.out
    exact ⟨_, _, S'', rfl, f1, f2, f3, f4⟩
  | false =>
    rw [hhad] at Hput
    simp only [Bool.false_eq_true, if_false] at Hput
    obtain ⟨z3, hz3⟩ : ∃ z, z = z2 ++ Rv.numB 0 := ⟨_, rfl⟩
    obtain ⟨z4, hz4⟩ : ∃ z, z = z3 ++ Rv.numB r.key.size := ⟨_, rfl⟩
    obtain ⟨z5, hz5⟩ : ∃ z, z = z4 ++ Rv.bytesOf r.key := ⟨_, rfl⟩
    have l3 : z3.length ≤ 27 := by rw [hz3, List.length_append]; have := Rv.numB_len 0; omega
    have l4 : z4.length ≤ 36 := by rw [hz4, List.length_append]; have := Rv.numB_len r.key.size; omega
    have l5 : z4.length + r.key.size = z5.length := by rw [hz5, List.length_append]; congr 1
    have e5 : z2 ++ (Rv.numB 0 ++ Rv.numB r.key.size ++ Rv.bytesOf r.key) = z5 := by rw [hz5, hz4, hz3]; simp
    rw [e5] at Hput
    have Hz3 := Lib.hid hz3
    have Hz4 := Lib.hid hz4
    have Hz5 := Lib.hid hz5
    have L5' := Lib.hid l5
    clear hz3 hz4 hz5 e5 l5
    go_wp2_with fail
    refine (rnumber_to (.slice B' z2.length C') z2 _ _ z3 Hz3.out.symm O6.out (by omega)).mono ?_
    rintro e w7 ⟨B7, C7, rfl, o, k, l⟩
    have L7 : Hid (∀ k, (Value.slice B7 z3.length C7).ownBlock = some k → w.heap.size < k) := Lib.hid (fun i hi => (l i hi).elim (L5.out i) (fun h => Nat.lt_of_lt_of_le Z6.out h))
    have M7 : Hid (PutMid w7 g gd w.heap.size c r) := Lib.hid (M6.out.kept k (fun e => by have := L5.out _ e; omega) (fun e => by have := L5.out _ e; omega))
    have K7 : Hid (Kept S w w7) := Lib.hid (KS6.out.trans k (fun i hi e => by have := L5.out i e; omega))
    have D7 : Hid (DictAt w7 S' gd u.1) := Lib.hid ((D6.out.typed.kept k (fun i hi e => by obtain ⟨cur, hc⟩ := own_type O6.out.toV e; exact hi.2 cur hc)).mono (fun _ _ h => h.1))
    have HS7 : Hid (∀ k, S' k → (S k ∨ w.heap.size < k) ∧ k < w7.heap.size ∧ k ≠ g) := Lib.hid (fun k' hk' => ⟨(HS6.out k' hk').1, Nat.lt_of_lt_of_le (HS6.out k' hk').2.1 k.size, (HS6.out k' hk').2.2⟩)
    have O7 := Lib.hid o
    have Z7 : Hid (w.heap.size < w7.heap.size) := Lib.hid (Nat.lt_of_lt_of_le Z6.out k.size)
    clear o k l d1 d2 d3 d4 d5 d6 d7 M6 KS6 D6 HS6 O6 Z6 L5
    obtain ⟨d1, d2, d3, d4, d5, d6, d7⟩ := M7.out.cells
    go_wp2_with fail
    refine (rnumber_to (.slice B7 z3.length C7) z3 _ _ z4 Hz4.out.symm O7.out (by omega)).mono ?_
    rintro e w8 ⟨B8, C8, rfl, o, k, l⟩
    have L8 : Hid (∀ k, (Value.slice B8 z4.length C8).ownBlock = some k → w.heap.size + 1 ≤ k) := Lib.hid (fun i hi => (l i hi).elim (L7.out i) (fun h => Nat.lt_of_lt_of_le Z7.out h))
    have M8 : Hid (PutMid w8 g gd w.heap.size c r) := Lib.hid (M7.out.kept k (fun e => by have := L7.out _ e; omega) (fun e => by have := L7.out _ e; omega))
    have K8 : Hid (Kept S w w8) := Lib.hid (K7.out.trans k (fun i hi e => by have := L7.out i e; omega))
    have D8 : Hid (DictAt w8 S' gd u.1) := Lib.hid ((D7.out.typed.kept k (fun i hi e => by obtain ⟨cur, hc⟩ := own_type O7.out.toV e; exact hi.2 cur hc)).mono (fun _ _ h => h.1))
    have HS8 : Hid (∀ k, S' k → (S k ∨ w.heap.size < k) ∧ k < w8.heap.size ∧ k ≠ g) := Lib.hid (fun k' hk' => ⟨(HS7.out k' hk').1, Nat.lt_of_lt_of_le (HS7.out k' hk').2.1 k.size, (HS7.out k' hk').2.2⟩)
    have O8 : Hid (OwnB w8 (w.heap.size + 1) (.slice B8 z4.length C8) z4) := Lib.hid (o.rebase L8.out)
    have Z8 : Hid (w.heap.size + 1 ≤ w8.heap.size) := Lib.hid (Nat.lt_of_lt_of_le Z7.out k.size)
    clear o k l d1 d2 d3 d4 d5 d6 d7 M7 K7 D7 HS7 O7 Z7 L7
    obtain ⟨d1, d2, d3, d4, d5, d6, d7⟩ := M8.out.cells
    have hne : ¬ w.heap.size = g := by omega
    go_upto_region 15 with (at_builtin; refine app_str (w.heap.size + 1) rfl (.tmp 74) (.tmp 76) 22 9 rfl Tryz.underlying22 Tryz.underlying9 infoB (.slice B8 z4.length C8) z4 r.key (by rfl) (by rfl) O8.out Z8.out z5.length L5'.out (by have := L5'.out; omega) ?_; intro B7 C7 w7 o9 k9; rw [← Hz5.out] at o9; have O9 := Lib.hid o9; have K9 := Lib.hid k9; clear o9 k9)
    have M7 : Hid (PutMid w7 g gd w.heap.size c r) := Lib.hid (M8.out.kept K9.out (fun e => by have := L8.out _ e; omega) (fun e => by have := L8.out _ e; omega))
    have Fin := Lib.hid (put_fin (hgS.out) hlt ⟨p0, p1, by show 0 ≤ r.cost; omega, p5⟩ (K8.out.trans K9.out (fun i hi e => by have := L8.out i e; omega)) M7.out (O9.out.mono (Nat.zero_le _)) (fun k hk => (O9.out.toV.block k hk).1)
      ((D8.out.typed.kept K9.out (fun i hi e => by obtain ⟨cur, hc⟩ := own_type O8.out.toV e; exact hi.2 cur hc)).mono (fun _ _ h => h.1)) (fun k' hk' => ⟨(HS8.out k' hk').1, Nat.lt_of_lt_of_le (HS8.out k' hk').2.1 K9.out.size, (HS8.out k' hk').2.2⟩))
    clear d1 d2 d3 d4 d5 d6 d7
    obtain ⟨d1, d2, d3, d4, d5, d6, d7⟩ := M7.out.cells
    have f1 : ∀ i, w7.frozen? ⟨g, i, none⟩ = false := fun i => frozen_of M7.out.row i
    have e1 : (w7.setCell ⟨g, 1, none⟩ (.int .i64 r.tick)).drew.cell? ⟨w.heap.size, 0, none⟩ = some (.int .i64 r.tick) := (World.cell?_of_block (w := w7) (set_off 1 _ hne)).trans d4
    have e2 : (w7.setCell ⟨g, 1, none⟩ (.int .i64 r.tick)).drew.cell? ⟨w.heap.size, 2, none⟩ = some (.int .i64 r.cost) := (World.cell?_of_block (w := w7) (set_off 1 _ hne)).trans d6
    have e3 : ((w7.setCell ⟨g, 1, none⟩ (.int .i64 r.tick)).setCell ⟨g, 2, none⟩ (.int .i64 r.cost)).drew.cell? ⟨w.heap.size, 0, none⟩ = some (.int .i64 r.tick) := (World.cell?_of_block (w := w7.setCell ⟨g, 1, none⟩ (.int .i64 r.tick)) (set_off 2 _ hne)).trans e1
    have e4 : ((w7.setCell ⟨g, 1, none⟩ (.int .i64 r.tick)).setCell ⟨g, 2, none⟩ (.int .i64 r.cost)).drew.cell? ⟨w.heap.size, 2, none⟩ = some (.int .i64 r.cost) := (World.cell?_of_block (w := w7.setCell ⟨g, 1, none⟩ (.int .i64 r.tick)) (set_off 2 _ hne)).trans e2
    go_region_held3 (fun w' => w'.cell? ⟨w.heap.size, 0, none⟩ = some (.int .i64 r.tick) ∧ w'.cell? ⟨w.heap.size, 2, none⟩ = some (.int .i64 r.cost))
      (first | exact ⟨d4, d6⟩ | exact ⟨e1, e2⟩ | exact ⟨e3, e4⟩ | go_keep)
      (first | fail)
    go_wp2_with fail
    go_ret2
    rw [Hput.out]
    obtain ⟨f1, S'', f2, f3, f4⟩ := Fin.out
    exact ⟨_, _, S'', rfl, f1, f2, f3, f4⟩
end Go.Proofs.YtcmndglhileeoaaGreat

/- Walks of package record: Coder.Clone. -/
set_option linter.unusedSimpArgs false
set_option linter.unusedVariables false
namespace Go.Proofs.YtcmndglhileeoaaGreat
open Go.RowKit

theorem drewB {w : World} : Below w.heap.size w w.drew := ⟨rfl, rfl, rfl, Nat.le_refl _, fun _ _ => rfl⟩
theorem dclone_drew (w : World) (S : Nat → Prop) (g : Nat) (d : Rv.Dict) (h : DictAt w S g d) :
    Calls Tryz.prog 38 #[.pointer (some ⟨g, 0, none⟩)] w.drew fun e w' => ∃ g', e = .returned (.pointer (some ⟨g', 0, none⟩)) ∧ DictAt w' (fun k => w.heap.size ≤ k) g' d ∧ Below w.heap.size w w' := by
  refine (dclone_any w.drew S g d h.drew).mono ?_
  rintro e w' ⟨g', rfl, h1, h2⟩
  exact ⟨g', rfl, h1, Below.of_drew h2⟩

set_option maxHeartbeats 2000000 in
set_option maxRecDepth 100000 in
theorem cclone_any (w : World) (S : Nat → Prop) (g : Nat) (c : Rv.Coder) (h : CoderAt w S g c) :
    Calls Tryz.prog 22 #[.pointer (some ⟨g, 0, none⟩)] w fun e w' => ∃ g', e = .returned (.pointer (some ⟨g', 0, none⟩)) ∧ CoderAt w' (fun k => w.heap.size ≤ k ∧ k < w'.heap.size) g' c ∧ Below w.heap.size w w' := by
  obtain ⟨ok, hg, gd, q1, q2⟩ := h
  have c0 : w.cell? ⟨g, 0, none⟩ = some (.pointer (some ⟨gd, 0, none⟩)) := by rw [cells_of q1]; rfl
  have c1 : w.cell? ⟨g, 1, none⟩ = some (.int .i64 c.tick) := by rw [cells_of q1]; rfl
  have c2 : w.cell? ⟨g, 2, none⟩ = some (.int .i64 c.cost) := by rw [cells_of q1]; rfl
  have Q2 := Lib.hid q2
  have Ok := Lib.hid ok
  clear q1 q2 ok hg
  go_enter Tryz.func22, Tryz.ntmps22
  go_wp2_with fail
  go_region_held3 (fun w' => w'.cell? ⟨g, 0, none⟩ = some (.pointer (some ⟨gd, 0, none⟩)) ∧ w'.cell? ⟨g, 1, none⟩ = some (.int .i64 c.tick) ∧ w'.cell? ⟨g, 2, none⟩ = some (.int .i64 c.cost))
    (first | exact K1.out | exact ⟨c0, c1, c2⟩ | go_keep)
    (first | (go_at_call 38; refine (dclone_drew w _ gd c.d Q2.out).mono ?_; rintro e w1 ⟨g1, rfl, dd, b1⟩; have D1 := Lib.hid dd; have B1 := Lib.hid b1; clear dd b1; have K1 := Lib.hid (And.intro (cell_below B1.out c0) (And.intro (cell_below B1.out c1) (cell_below B1.out c2)))))
  have hW : w.heap.size ≤ w1.heap.size := B1.out.size
  have hfin : Hid (CoderAt (w1.alloc (.cells #[.pointer (some ⟨g1, 0, none⟩), .int .i64 c.tick, .int .i64 c.cost] 108)) (fun k => w.heap.size ≤ k ∧ k < (w1.alloc (.cells #[.pointer (some ⟨g1, 0, none⟩), .int .i64 c.tick, .int .i64 c.cost] 108)).heap.size) w1.heap.size c ∧
      Below w.heap.size w (w1.alloc (.cells #[.pointer (some ⟨g1, 0, none⟩), .int .i64 c.tick, .int .i64 c.cost] 108))) := Lib.hid (by
    refine ⟨⟨Ok.out, ⟨hW, by simp⟩, g1, heap_alloc_new w1 _, ?_⟩, B1.out.alloc hW _⟩
    refine ((D1.out.mono (S' := fun k => w.heap.size ≤ k ∧ k < w1.heap.size) (fun i hi h => ⟨h, hi⟩)).below ((Below.refl _ _).alloc (Nat.le_refl _) _)).mono (fun i _ h => ⟨⟨h.1, by simp; omega⟩, by omega⟩))
  clear D1 B1 K1
  go_wp2_with fail
  go_ret
  exact ⟨_, rfl, hfin.out.1, hfin.out.2⟩
end Go.Proofs.YtcmndglhileeoaaGreat
