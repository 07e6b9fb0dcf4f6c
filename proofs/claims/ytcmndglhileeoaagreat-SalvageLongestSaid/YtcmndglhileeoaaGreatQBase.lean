/- The words that the walks share: what of memory reads as what; small lemmas. No conditions. -/
import Derived.Test.YtcmndglhileeoaaGreatQModel
import Derived.Test.YtcmndglhileeoaaGreatProg
import Derived.WalkKit
import Derived.Lib.Hide
import Derived.Deep.LoopGhost
import Derived.Outline
import Derived.Laws.AppendOwnNone
namespace Go.Proofs.YtcmndglhileeoaaGreat
open Go.RowKit

/-- A slice of bytes that reads as a list. -/
def RdB (w : World) (A : Option Addr) (xs : List UInt8) : Prop :=
  ∀ j c, xs[j]? = some c → ∃ ad, A = some ad ∧ w.cell? (ad.add j) = some (.int .u8 (c.toNat : Int))
theorem drop_cons_of {α : Type} {xs : List α} {i : Nat} {c : α} (h : xs[i]? = some c) : xs.drop i = c :: xs.drop (i + 1) := by
  obtain ⟨hi, rfl⟩ := List.getElem?_eq_some_iff.1 h
  exact List.drop_eq_getElem_cons hi
theorem some_at {α : Type} {xs : List α} {i : Nat} (h : i < xs.length) : ∃ c, xs[i]? = some c := ⟨_, List.getElem?_eq_getElem h⟩


/-! ### numbers -/
theorem mayN_yes {n : Int} (h0 : 0 ≤ n) (h1 : n ≤ 4611686018427387903) : Rv.mayN n = true := by
  unfold Rv.mayN Rv.maxNumber; rw [decide_eq_true h0, decide_eq_true h1]; rfl
theorem mayN_no {n : Int} (h : n < 0 ∨ 4611686018427387903 < n) : Rv.mayN n = false := by
  unfold Rv.mayN Rv.maxNumber
  rcases h with h | h
  · rw [decide_eq_false (show ¬ 0 ≤ n by omega)]; rfl
  · rw [decide_eq_false (show ¬ n ≤ 4611686018427387903 by omega), Bool.and_false]
theorem numB_no {n : Int} (h : n < 0 ∨ 4611686018427387903 < n) : Rv.numB n = [] := by unfold Rv.numB; rw [mayN_no h]; rfl
theorem numB_yes {n : Nat} (h : n ≤ 4611686018427387903) : Rv.numB n = Rv.numN n := by unfold Rv.numB; rw [mayN_yes (by omega) (by omega)]; simp

/-! ### bytes -/
def u8s (xs : List UInt8) : List Value := xs.map fun c => .int .u8 (c.toNat : Int)
theorem u8s_length (xs : List UInt8) : (u8s xs).length = xs.length := by simp [u8s]
theorem u8s_append (xs ys : List UInt8) : u8s (xs ++ ys) = u8s xs ++ u8s ys := by simp [u8s]
theorem u8s_one (xs : List UInt8) : ∀ u ∈ u8s xs, u.oneCell' = true := by
  intro u hu
  obtain ⟨c, _, rfl⟩ := List.mem_map.1 hu
  rfl
/-- Values that stand from an address on (none: there are none). -/
def RdV (w : World) (A : Option Addr) (vs : List Value) : Prop := ∀ j u, vs[j]? = some u → ∃ ad, A = some ad ∧ w.cell? (ad.add j) = some u
theorem RdB.toV {w : World} {A : Option Addr} {xs : List UInt8} (h : RdB w A xs) : RdV w A (u8s xs) := by
  intro j u hu
  simp only [u8s, List.getElem?_map, Option.map_eq_some_iff] at hu
  obtain ⟨c, hc, rfl⟩ := hu
  exact h j c hc
theorem RdV.toB {w : World} {A : Option Addr} {xs : List UInt8} (h : RdV w A (u8s xs)) : RdB w A xs := by
  intro j c hc
  exact h j _ (by simp [u8s, hc])
theorem RdB.nil (w : World) (A : Option Addr) : RdB w A [] := fun j c h => by simp at h
theorem RdV.nil (w : World) (A : Option Addr) : RdV w A [] := fun j c h => by simp at h

/-- A row of bytes of the call's own: nil and none, or a block from base on. -/
def OwnB (w : World) (base : Nat) (v : Value) (xs : List UInt8) : Prop := w.ownsRow base 5 1 v xs.length (u8s xs)
/-- A row of values of one cell each. -/
def OwnV (w : World) (base : Nat) (e : TypeId) (v : Value) (vs : List Value) : Prop := w.ownsRow base e 1 v vs.length vs

theorem OwnV.shape {w : World} {base : Nat} {e : TypeId} {v : Value} {vs : List Value} (h : OwnV w base e v vs) : ∃ A c, v = .slice A vs.length c ∧ vs.length ≤ c ∧ c ≤ maxLen ∧ RdV w A vs := by
  rcases h.2 with ⟨rfl, h0⟩ | ⟨g, cap, cur, rfl, hb, hg, hn, hm, _⟩
  · have : vs = [] := List.eq_nil_of_length_eq_zero h0
    subst this
    exact ⟨none, 0, rfl, Nat.le_refl _, by simp, RdV.nil _ _⟩
  · exact ⟨_, cap, rfl, hn, hm, fun j u hu => ⟨_, rfl, World.ownsRow.cells h (g := g) rfl j u hu⟩⟩
theorem OwnB.toV {w : World} {base : Nat} {v : Value} {xs : List UInt8} (h : OwnB w base v xs) : OwnV w base 5 v (u8s xs) := by
  unfold OwnV; rw [u8s_length]; exact h
theorem OwnV.toB {w : World} {base : Nat} {v : Value} {xs : List UInt8} (h : OwnV w base 5 v (u8s xs)) : OwnB w base v xs := by
  unfold OwnV at h; rw [u8s_length] at h; exact h
theorem OwnB.shape {w : World} {base : Nat} {v : Value} {xs : List UInt8} (h : OwnB w base v xs) : ∃ A c, v = .slice A xs.length c ∧ xs.length ≤ c ∧ c ≤ maxLen ∧ RdB w A xs := by
  obtain ⟨A, c, e, h1, h2, h3⟩ := h.toV.shape
  rw [u8s_length] at e h1
  exact ⟨A, c, e, h1, h2, h3.toB⟩
theorem OwnB.nil (w : World) (base : Nat) : OwnB w base (.slice none 0 0) [] := World.ownsRow_nil _ _ _ _
theorem OwnV.nil (w : World) (base : Nat) (e : TypeId) : OwnV w base e (.slice none 0 0) [] := World.ownsRow_nil _ _ _ _
theorem OwnV.mono {w : World} {base base' : Nat} {e : TypeId} {v : Value} {vs : List Value} (h : OwnV w base e v vs) (hb : base' ≤ base) : OwnV w base' e v vs := by
  refine ⟨h.1, ?_⟩
  rcases h.2 with hn | ⟨g, cap, cur, rfl, hg, r⟩
  · exact .inl hn
  · exact .inr ⟨g, cap, cur, rfl, Nat.le_trans hb hg, r⟩
theorem OwnB.mono {w : World} {base base' : Nat} {v : Value} {xs : List UInt8} (h : OwnB w base v xs) (hb : base' ≤ base) : OwnB w base' v xs := (h.toV.mono hb).toB
theorem OwnV.block {w : World} {base : Nat} {e : TypeId} {v : Value} {vs : List Value} (h : OwnV w base e v vs) : ∀ k, v.ownBlock = some k → base ≤ k ∧ k < w.heap.size := World.ownsRow.lt h
/-- It lives on, where its block does. -/
theorem OwnV.step {w w' : World} {base : Nat} {e : TypeId} {v : Value} {vs : List Value} (h : OwnV w base e v vs) (hk : ∀ k, v.ownBlock = some k → k < w.heap.size → w'.heap[k]? = w.heap[k]?) : OwnV w' base e v vs := by
  have hb := h.block
  refine ⟨h.1, ?_⟩
  rcases h.2 with hn | ⟨g, cap, cur, rfl, hg, hh, r⟩
  · exact .inl hn
  · exact .inr ⟨g, cap, cur, rfl, hg, by rw [hk g rfl (hb g rfl).2]; exact hh, r⟩
theorem OwnB.step {w w' : World} {base : Nat} {v : Value} {xs : List UInt8} (h : OwnB w base v xs) (hk : ∀ k, v.ownBlock = some k → k < w.heap.size → w'.heap[k]? = w.heap[k]?) : OwnB w' base v xs := (h.toV.step hk).toB
theorem OwnV.below {w w' : World} {base : Nat} {e : TypeId} {v : Value} {vs : List Value} (h : OwnV w base e v vs) (hb : Below w.heap.size w w') : OwnV w' base e v vs := h.step fun k _ hk => hb.block k hk
theorem OwnB.below {w w' : World} {base : Nat} {v : Value} {xs : List UInt8} (h : OwnB w base v xs) (hb : Below w.heap.size w w') : OwnB w' base v xs := h.step fun k _ hk => hb.block k hk
theorem OwnB.alloc {w : World} {base : Nat} {v : Value} {xs : List UInt8} (h : OwnB w base v xs) (o : Obj) : OwnB (w.alloc o) base v xs := World.ownsRow.alloc h o
theorem OwnV.alloc {w : World} {base : Nat} {e : TypeId} {v : Value} {vs : List Value} (h : OwnV w base e v vs) (o : Obj) : OwnV (w.alloc o) base e v vs := World.ownsRow.alloc h o

theorem cell_below {w w1 : World} (h : Below w.heap.size w w1) {a : Addr} {v : Value} (hc : w.cell? a = some v) : w1.cell? a = some v := (h.cell (World.block_lt_of_cell? w a hc)).trans hc
theorem RdV.below {w w' : World} {A : Option Addr} {vs : List Value} (h : RdV w A vs) (hb : Below w.heap.size w w') : RdV w' A vs := fun j u hu =>
  let ⟨ad, e, hc⟩ := h j u hu; ⟨ad, e, cell_below hb hc⟩
theorem RdB.below {w w' : World} {A : Option Addr} {xs : List UInt8} (h : RdB w A xs) (hb : Below w.heap.size w w') : RdB w' A xs := (h.toV.below hb).toB
theorem RdB.alloc {w : World} {A : Option Addr} {xs : List UInt8} (h : RdB w A xs) (o : Obj) : RdB (w.alloc o) A xs := h.below ((Below.refl _ _).alloc (Nat.le_refl _) o)
theorem RdV.alloc {w : World} {A : Option Addr} {vs : List Value} (h : RdV w A vs) (o : Obj) : RdV (w.alloc o) A vs := h.below ((Below.refl _ _).alloc (Nat.le_refl _) o)
theorem below_then {B : Nat} {w w1 w2 : World} (h : Below B w w1) (hB : B ≤ w1.heap.size) (k : Below w1.heap.size w1 w2) : Below B w w2 := h.trans (k.mono hB)
theorem below_trans {w w1 w2 : World} (h : Below w.heap.size w w1) (k : Below w1.heap.size w1 w2) : Below w.heap.size w w2 := below_then h h.size k

theorem grown_trans {w w1 w2 : World} {row : Option Nat} (h : w.grownBy w1 row) (k : w1.grownBy w2 row) : w.grownBy w2 row :=
  ⟨k.os.trans h.os, k.tape.trans h.tape, k.output.trans h.output, Nat.le_trans h.size k.size, fun i hi hr => (k.block i (Nat.lt_of_lt_of_le hi h.size) hr).trans (h.block i hi hr)⟩

theorem ret_int {k : IntKind} {a b : Int} (h : a = b) : Ending.returned (.int k a) = .returned (.int k b) := by rw [h]
theorem bcell {W w1 : World} (hb : Below W.heap.size W w1) : (∀ b o, b < W.heap.size → w1.cell? ⟨b, o, none⟩ = W.cell? ⟨b, o, none⟩) ∧ (∀ b o, b < W.heap.size → w1.frozen? ⟨b, o, none⟩ = W.frozen? ⟨b, o, none⟩) :=
  ⟨fun b o h => hb.cell (p := ⟨b, o, none⟩) h, fun b o h => hb.frozen (p := ⟨b, o, none⟩) h⟩

/-- A literal row. -/
theorem own_lit {W : World} {base : Nat} {e : TypeId} {cs : Array Value} {vs : List Value} {n : Nat} (hv : cs.toList = vs) (hn : n = vs.length) (hb : base ≤ W.heap.size) (hl : n ≤ 140737488355328) :
    OwnV (W.alloc (.cells cs e)) base e (.slice (some ⟨W.heap.size, 0, none⟩) n n) vs := by
  subst hn
  subst hv
  refine ⟨by simp, .inr ⟨W.heap.size, _, cs, rfl, hb, heap_alloc_new W _, Nat.le_refl _, by simp only [maxLen]; omega, by simp, by rw [Nat.mul_one]; exact List.take_length⟩⟩

theorem add_add (a : Addr) (m n : Nat) : (a.add m).add n = a.add (m + n) := by
  unfold Addr.add
  by_cases hm : m = 0
  · subst hm; simp
  · by_cases hn : n = 0
    · subst hn; simp
    · simp [hm, hn, Nat.add_assoc]

/-- What was there below n: its cells and marks, and that it is there, none of the new blocks. -/
theorem bcell2 {W w1 : World} (hb : Below W.heap.size W w1) (n : Nat) (hn : n ≤ W.heap.size) : (∀ b o, b < n → w1.cell? ⟨b, o, none⟩ = W.cell? ⟨b, o, none⟩) ∧ (∀ b o, b < n → w1.frozen? ⟨b, o, none⟩ = W.frozen? ⟨b, o, none⟩) ∧
    (∀ b, b < n → b < w1.heap.size) ∧ (∀ b, b < n → ¬ b = w1.heap.size) ∧ (∀ b, b < n → ¬ w1.heap.size = b) ∧ n ≤ w1.heap.size := by
  have := hb.size
  exact ⟨fun b o h => hb.cell (p := ⟨b, o, none⟩) (Nat.lt_of_lt_of_le h hn), fun b o h => hb.frozen (p := ⟨b, o, none⟩) (Nat.lt_of_lt_of_le h hn), fun b h => by omega, fun b h => by omega, fun b h => by omega, by omega⟩

theorem OwnV.grown {w w' : World} {base : Nat} {e : TypeId} {v : Value} {vs : List Value} {row : Option Nat} (h : OwnV w base e v vs) (hg : w.grownBy w' row) (hr : ∀ k, row = some k → k < base) : OwnV w' base e v vs :=
  h.step fun k hk hlt => hg.block k hlt (fun e => by have := hr k e.symm; have := (h.block k hk).1; omega)
theorem OwnB.grown {w w' : World} {base : Nat} {v : Value} {xs : List UInt8} {row : Option Nat} (h : OwnB w base v xs) (hg : w.grownBy w' row) (hr : ∀ k, row = some k → k < base) : OwnB w' base v xs := (h.toV.grown hg hr).toB
theorem OwnB.lt {w : World} {base : Nat} {v : Value} {xs : List UInt8} (h : OwnB w base v xs) : ∀ k, v.ownBlock = some k → k < w.heap.size := fun k hk => (h.toV.block k hk).2
theorem OwnB.nilcap {w : World} {base : Nat} {A : Option Addr} {n c : Nat} {xs : List UInt8} (h : OwnB w base (.slice A n c) xs) : A = none → c = 0 := by
  rintro rfl
  rcases h.2 with ⟨he, _⟩ | ⟨g, cap, cur, he, _⟩
  · injection he
  · injection he with h1; cases h1

/-! ### append -/
theorem info_parts' {P : Program} {e : TypeId} {z : Option Value} {s b : Nat} (h : (P.info? e).map (fun i => (i.zero, i.size, i.bytes)) = some (z, s, b)) : ∃ i, P.info? e = some i ∧ i.zero = z ∧ i.size = s ∧ i.bytes = b := by
  obtain ⟨i, hi, hz⟩ := Option.map_eq_some_iff.1 h
  simp only [Prod.mk.injEq] at hz
  exact ⟨i, hi, hz⟩

section
variable {P : Program} {ops : Array Oper} {rest : List Oper} {o : Oper} {a : Act} {Q : Exit → Act → World → Prop}
/-- append of what stands somewhere (nil, too) onto a row of one's own. -/
theorem app_src {w0 W : World} (base : Nat) (hgd : o.guard = none) (s x : Operand) (t e : TypeId) (z : Value) (bytes : Nat)
    (ho : o.op = .call { callee := .builtin .append, args := #[s, x], argTypes := #[t, t] })
    (ht : P.underlying t = some (.slice e)) (hinfo : (P.info? e).map (fun i => (i.zero, i.size, i.bytes)) = some (some z, 1, bytes)) (hz : z.cells.size = 1) (hb0 : 0 < bytes)
    (v : Value) (vs news : List Value) (A : Option Addr) (c : Nat) (hs : a.eval s = v) (hx : a.eval x = .slice A news.length c) (h1 : ∀ u ∈ news, u.oneCell' = true)
    (HO : OwnV W base e v vs) (HR : RdV W A news) (HB : Below base w0 W) (hbase : base ≤ W.heap.size) (hl : (vs.length + news.length) * bytes ≤ 140737488355328)
    (hnone : A = none → c = 0)
    (h : ∀ v1 w1, OwnV w1 base e v1 (vs ++ news) → Below base w0 w1 → W.grownBy w1 v.ownBlock → (v1 = .slice none 0 0 ↔ v = .slice none 0 0 ∧ news.length = 0) → wpList P ops Q rest (a.put o.dst v1) w1) :
    wpList P ops Q (o :: rest) a W := by
  obtain ⟨i0, hi, hz0, hz1, hz2⟩ := info_parts' hinfo
  have hlen : vs.length + news.length ≤ 140737488355328 := Nat.le_trans (Nat.le_mul_of_pos_right _ hb0) hl
  have own_base : ∀ k, v.ownBlock = some k → base ≤ k := fun k hk => (HO.block k hk).1
  cases A with
  | some ad =>
    refine wpList_append_own W hgd s x t ho base e i0 z 1 bytes ht hi hz0 hz1 hz2 hz (by omega) v vs.length vs hs HO ad news.length c news hx (by simp)
      (fun j u hu => by obtain ⟨ad', e', hc⟩ := HR j u hu; cases e'; exact hc) h1 (by simp only [maxLen]; omega) hl hbase ?_
    intro v1 w1 hown hg hn
    exact h v1 w1 (by unfold OwnV; rw [List.length_append]; exact hown) (HB.grown hg hbase own_base) hg hn
  | none =>
    have h0 : news = [] := by
      cases news with
      | nil => rfl
      | cons u r => obtain ⟨ad', e', _⟩ := HR 0 u rfl; cases e'
    subst h0
    obtain rfl := hnone rfl
    exact wpList_append_own_none hgd s x t ho base e i0 1 ht hi v vs.length vs hs HO hx
      (h v W (by rw [List.append_nil]; exact HO) HB ⟨rfl, rfl, rfl, Nat.le_refl _, fun _ _ _ => rfl⟩ (by simp))

/-- append of one value, which lies in a new block of its own. -/
theorem app_one {w0 W : World} (base : Nat) (hgd : o.guard = none) (s x : Operand) (t e : TypeId) (z : Value) (bytes : Nat)
    (ho : o.op = .call { callee := .builtin .append, args := #[s, x], argTypes := #[t, t] })
    (ht : P.underlying t = some (.slice e)) (hinfo : (P.info? e).map (fun i => (i.zero, i.size, i.bytes)) = some (some z, 1, bytes)) (hz : z.cells.size = 1) (hb0 : 0 < bytes)
    (v : Value) (vs : List Value) (y : Value) (hs : a.eval s = v) (hx : a.eval x = .slice (some ⟨W.heap.size, 0, none⟩) 1 1) (h1 : y.oneCell' = true)
    (HO : OwnV W base e v vs) (HB : Below base w0 W) (hbase : base ≤ W.heap.size) (hl : (vs.length + 1) * bytes ≤ 140737488355328)
    (h : ∀ v1 w1, OwnV w1 base e v1 (vs ++ [y]) → Below base w0 w1 → W.grownBy w1 v.ownBlock → wpList P ops Q rest (a.put o.dst v1) w1) :
    wpList P ops Q (o :: rest) a (W.alloc (.cells #[y] e)) := by
  refine app_src (w0 := w0) base hgd s x t e z bytes ho ht hinfo hz hb0 v vs [y] (some ⟨W.heap.size, 0, none⟩) 1 hs hx (by simpa using h1) (HO.alloc _) ?_ (HB.alloc hbase _) (by simp; omega) (by simpa using hl) (by simp) ?_
  · intro j u hu
    refine ⟨_, rfl, ?_⟩
    have hj : j = 0 := by have := (List.getElem?_eq_some_iff.1 hu).1; simp at this; exact this
    subst hj
    have hu' : y = u := by simpa using hu
    subst hu'
    show (W.alloc (.cells #[y] e)).cell? ⟨W.heap.size, 0, none⟩ = some y
    have := heap_alloc_new W (.cells #[y] e)
    simp only [World.cell?, this]
    rfl
  · intro v1 w1 h2 h3 h4 _
    exact h v1 w1 h2 h3 (grown_trans (World.grownBy_alloc W _ _) h4)

theorem appb_src {w0 W : World} (base : Nat) (hgd : o.guard = none) (s x : Operand) (t : TypeId) 
    (ho : o.op = .call { callee := .builtin .append, args := #[s, x], argTypes := #[t, t] })
    (ht : P.underlying t = some (.slice 5)) (hinfo : (P.info? 5).map (fun i => (i.zero, i.size, i.bytes)) = some (some (.int .u8 0), 1, 1))
    (v : Value) (xs news : List UInt8) (A : Option Addr) (c : Nat) (hs : a.eval s = v) (hx : a.eval x = .slice A news.length c)
    (HO : OwnB W base v xs) (HR : RdB W A news) (HB : Below base w0 W) (hbase : base ≤ W.heap.size) (hl : xs.length + news.length ≤ 140737488355328)
    (hnone : A = none → c = 0)
    (h : ∀ v1 w1, OwnB w1 base v1 (xs ++ news) → Below base w0 w1 → W.grownBy w1 v.ownBlock → (v1 = .slice none 0 0 ↔ v = .slice none 0 0 ∧ news.length = 0) → wpList P ops Q rest (a.put o.dst v1) w1) :
    wpList P ops Q (o :: rest) a W := by
  refine app_src (w0 := w0) base hgd s x t 5 (.int .u8 0) 1 ho ht hinfo rfl (by omega) v (u8s xs) (u8s news) A c hs (by rw [u8s_length]; exact hx) (u8s_one _) HO.toV HR.toV HB hbase
    (by rw [u8s_length, u8s_length]; omega) hnone ?_
  intro v1 w1 h2 h3 h4 h5
  rw [← u8s_append] at h2
  rw [u8s_length] at h5
  exact h v1 w1 h2.toB h3 h4 h5

theorem appb_one {w0 W : World} (base : Nat) (hgd : o.guard = none) (s x : Operand) (t : TypeId)
    (ho : o.op = .call { callee := .builtin .append, args := #[s, x], argTypes := #[t, t] })
    (ht : P.underlying t = some (.slice 5)) (hinfo : (P.info? 5).map (fun i => (i.zero, i.size, i.bytes)) = some (some (.int .u8 0), 1, 1))
    (v : Value) (xs : List UInt8) (y : Int) (c : UInt8) (hy : y = (c.toNat : Int)) (hs : a.eval s = v) (hx : a.eval x = .slice (some ⟨W.heap.size, 0, none⟩) 1 1)
    (HO : OwnB W base v xs) (HB : Below base w0 W) (hbase : base ≤ W.heap.size) (hl : xs.length + 1 ≤ 140737488355328)
    (h : ∀ v1 w1, OwnB w1 base v1 (xs ++ [c]) → Below base w0 w1 → W.grownBy w1 v.ownBlock → wpList P ops Q rest (a.put o.dst v1) w1) :
    wpList P ops Q (o :: rest) a (W.alloc (.cells #[.int .u8 y] 5)) := by
  subst hy
  refine app_one (w0 := w0) base hgd s x t 5 (.int .u8 0) 1 ho ht hinfo rfl (by omega) v (u8s xs) (.int .u8 (c.toNat : Int)) hs hx rfl HO.toV HB hbase (by rw [u8s_length]; omega) ?_
  intro v1 w1 h2 h3 h4
  rw [show u8s xs ++ [Value.int .u8 (c.toNat : Int)] = u8s (xs ++ [c]) by simp [u8s]] at h2
  exact h v1 w1 h2.toB h3 h4

/-- make([]byte, 0, n). -/
theorem makeb_cap {w0 W : World} (base : Nat) (hgd : o.guard = none) (l c : Operand) (t : TypeId) (hop : o.op = Op.makeSlice t l c)
    (ht : P.underlying t = some (.slice 5)) (hinfo : (P.info? 5).map (fun i => (i.zero, i.size, i.bytes)) = some (some (.int .u8 0), 1, 1))
    (C : Int) (n : Nat) (hl : a.eval l = .int .i64 0) (hc : a.eval c = .int .i64 C) (hC : C = (n : Int)) (hn : n ≤ 140737488355328) (HB : Below base w0 W) (hbase : base ≤ W.heap.size)
    (h : ∀ v1 w1, OwnB w1 base v1 [] → Below base w0 w1 → W.grownBy w1 none → wpList P ops Q rest (a.put o.dst v1) w1) : wpList P ops Q (o :: rest) a W := by
  obtain ⟨i0, hi, hz0, hz1, hz2⟩ := info_parts' hinfo
  refine wpList_make_own W hgd l c t hop base 5 i0 (.int .u8 0) 1 ht hi hz0 hz1 .i64 .i64 C n hl hc hC (by rw [hz2]; omega) (by simp only [maxLen]; omega) hbase ?_
  intro w1 h1 h2
  exact h _ w1 h1 (HB.grown h2 hbase (by simp)) h2
end
end Go.Proofs.YtcmndglhileeoaaGreat
