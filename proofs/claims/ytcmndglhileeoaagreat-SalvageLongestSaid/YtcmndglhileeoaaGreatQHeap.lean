/- What a call may have written: Kept. Whole blocks behind stores. No program beyond its name. -/
import Derived.Test.YtcmndglhileeoaaGreatQBase
import Derived.Test.YtcmndglhileeoaaGreatQMap
import Derived.Laws.CopyOwn
import Derived.Maps.AppendAt
set_option linter.unusedSimpArgs false
set_option linter.unusedVariables false
namespace Go.Proofs.YtcmndglhileeoaaGreat
open Go.RowKit

/-- Of what there was only the blocks of S may have turned. -/
structure Kept (S : Nat → Prop) (w w' : World) : Prop where
  os : w'.os = w.os
  tape : w'.tape = w.tape
  output : w'.output = w.output
  size : w.heap.size ≤ w'.heap.size
  block : ∀ k, k < w.heap.size → ¬ S k → w'.heap[k]? = w.heap[k]?

theorem Kept.refl (S : Nat → Prop) (w : World) : Kept S w w := ⟨rfl, rfl, rfl, Nat.le_refl _, fun _ _ _ => rfl⟩
theorem Kept.trans {S S' : Nat → Prop} {a b c : World} (h : Kept S a b) (k : Kept S' b c) (hs : ∀ i, i < a.heap.size → S' i → S i) : Kept S a c :=
  ⟨k.os.trans h.os, k.tape.trans h.tape, k.output.trans h.output, Nat.le_trans h.size k.size, fun i hi hn => (k.block i (Nat.lt_of_lt_of_le hi h.size) (fun e => hn (hs i hi e))).trans (h.block i hi hn)⟩
theorem Kept.mono {S S' : Nat → Prop} {a b : World} (h : Kept S a b) (hs : ∀ i, i < a.heap.size → S i → S' i) : Kept S' a b :=
  ⟨h.os, h.tape, h.output, h.size, fun i hi hn => h.block i hi (fun e => hn (hs i hi e))⟩
theorem Kept.alloc {S : Nat → Prop} {a b : World} (h : Kept S a b) (o : Obj) : Kept S a (b.alloc o) :=
  ⟨h.os, h.tape, h.output, by simp; have := h.size; omega, fun i hi hn => (Below.heap_alloc b o i (Nat.lt_of_lt_of_le hi h.size)).trans (h.block i hi hn)⟩
theorem Kept.setCell {S : Nat → Prop} {a b : World} (h : Kept S a b) (p : Addr) (v : Value) (hp : S p.block ∨ a.heap.size ≤ p.block) : Kept S a (b.setCell p v) :=
  ⟨h.os, h.tape, h.output, by simp [World.setCell]; exact h.size, fun i hi hn => (Below.heap_setCell b p v i (fun e => by subst e; rcases hp with hp | hp; exact hn hp; omega)).trans (h.block i hi hn)⟩
theorem Kept.setB {S : Nat → Prop} {a b : World} (h : Kept S a b) (g : Nat) (o : Obj) (hp : S g ∨ a.heap.size ≤ g) : Kept S a (Rv.setB b g o) :=
  ⟨h.os, h.tape, h.output, by simp [Rv.setB_size]; exact h.size, fun i hi hn => (Rv.setB_other (fun e => by subst e; rcases hp with hp | hp; exact hn hp; omega)).trans (h.block i hi hn)⟩
theorem Kept.of_below {S : Nat → Prop} {a b : World} (h : Below a.heap.size a b) : Kept S a b := ⟨h.os, h.tape, h.output, h.size, fun i hi _ => h.block i hi⟩
theorem Kept.of_grown {S : Nat → Prop} {a b : World} {row : Option Nat} (h : a.grownBy b row) (hs : ∀ k, row = some k → k < a.heap.size → S k) : Kept S a b :=
  ⟨h.os, h.tape, h.output, h.size, fun i hi hn => h.block i hi (fun e => hn (hs i e.symm hi))⟩
theorem Kept.below {S : Nat → Prop} {a b : World} {B : Nat} (h : Kept S a b) (hB : B ≤ a.heap.size) (hs : ∀ k, k < B → ¬ S k) : Below B a b :=
  ⟨h.os, h.tape, h.output, h.size, fun i hi => h.block i (Nat.lt_of_lt_of_le hi hB) (hs i hi)⟩
theorem Kept.grown {a b : World} {g : Nat} {S : Nat → Prop} (h : Kept S a b) (hs : ∀ k, S k → k = g) : a.grownBy b (some g) :=
  ⟨h.os, h.tape, h.output, h.size, fun i hi hn => h.block i hi (fun e => hn (by rw [hs i e]))⟩
theorem Kept.cell {S : Nat → Prop} {a b : World} (h : Kept S a b) {p : Addr} (hp : p.block < a.heap.size) (hs : ¬ S p.block) : b.cell? p = a.cell? p := World.cell?_of_block (w := a) (h.block p.block hp hs)
theorem Kept.frozen {S : Nat → Prop} {a b : World} (h : Kept S a b) {p : Addr} (hp : p.block < a.heap.size) (hs : ¬ S p.block) : b.frozen? p = a.frozen? p := World.frozen?_of_block (w := a) (h.block p.block hp hs)
theorem Kept.cell' {S : Nat → Prop} {a b : World} (h : Kept S a b) {p : Addr} {v : Value} (hc : a.cell? p = some v) (hs : ¬ S p.block) : b.cell? p = some v :=
  (h.cell (World.block_lt_of_cell? a p hc) hs).trans hc
theorem OwnV.kept {S : Nat → Prop} {a b : World} {base : Nat} {e : TypeId} {v : Value} {vs : List Value} (h : OwnV a base e v vs) (k : Kept S a b) (hs : ∀ i, v.ownBlock = some i → ¬ S i) : OwnV b base e v vs :=
  h.step fun i hi hlt => k.block i hlt (hs i hi)
theorem OwnB.kept {S : Nat → Prop} {a b : World} {base : Nat} {v : Value} {vs : List UInt8} (h : OwnB a base v vs) (k : Kept S a b) (hs : ∀ i, v.ownBlock = some i → ¬ S i) : OwnB b base v vs :=
  h.step fun i hi hlt => k.block i hlt (hs i hi)
theorem RdV.kept {S : Nat → Prop} {a b : World} {A : Option Addr} {vs : List Value} (h : RdV a A vs) (k : Kept S a b) (hs : ∀ ad, A = some ad → ¬ S ad.block) : RdV b A vs := fun j u hu => by
  obtain ⟨ad, e, hc⟩ := h j u hu
  exact ⟨ad, e, k.cell' hc (by unfold Addr.add; split <;> exact hs ad e)⟩
theorem RdB.kept {S : Nat → Prop} {a b : World} {A : Option Addr} {vs : List UInt8} (h : RdB a A vs) (k : Kept S a b) (hs : ∀ ad, A = some ad → ¬ S ad.block) : RdB b A vs := (h.toV.kept k hs).toB

/-! ### whole blocks -/
theorem cells_of {w : World} {g : Nat} {cs : Array Value} {e : TypeId} {m : Nat × Nat} (h : w.heap[g]? = some (.cells cs e m)) (i : Nat) : w.cell? ⟨g, i, none⟩ = cs[i]? := cell_of_row w g i cs e m h
theorem frozen_of {w : World} {g : Nat} {cs : Array Value} {e : TypeId} (h : w.heap[g]? = some (.cells cs e (0, 0))) (i : Nat) : w.frozen? ⟨g, i, none⟩ = false := by simp [World.frozen?, h]
theorem set_at {w : World} {g : Nat} {cs : Array Value} {e : TypeId} {m : Nat × Nat} (h : w.heap[g]? = some (.cells cs e m)) (i : Nat) (v : Value) : (w.setCell ⟨g, i, none⟩ v).heap[g]? = some (.cells (cs.setIfInBounds i v) e m) := by
  rw [setCell_eq_setRow w g i cs e m v h]
  exact setRow_heap w g cs _ e m h
theorem set_off {w : World} {g k : Nat} (i : Nat) (v : Value) (hk : k ≠ g) : (w.setCell ⟨g, i, none⟩ v).heap[k]? = w.heap[k]? := Below.heap_setCell w ⟨g, i, none⟩ v k hk

/-- A store into a row of one's own. -/
theorem OwnV.set {w : World} {base : Nat} {e : TypeId} {g n c : Nat} {vs : List Value} (h : OwnV w base e (.slice (some ⟨g, 0, none⟩) n c) vs) (i : Nat) (hi : i < vs.length) (u : Value) :
    OwnV (w.setCell ⟨g, i, none⟩ u) base e (.slice (some ⟨g, 0, none⟩) n c) (vs.set i u) := by
  refine ⟨by simp, ?_⟩
  rcases h.2 with ⟨he, _⟩ | ⟨g', cap, cur, he, hb, hg, hn, hm, hs, ht⟩
  · injection he with h1; cases h1
  · injection he with h1 h2 h3
    injection h1 with h1
    injection h1 with h1
    subst h1; subst h2; subst h3
    refine .inr ⟨g, c, cur.setIfInBounds i u, by simp, hb, set_at hg i u, by simpa using hn, hm, by simpa using hs, ?_⟩
    simp only [Nat.mul_one, List.length_set] at ht ⊢
    rw [Array.toList_setIfInBounds, List.take_set, ht]
theorem OwnV.row {w : World} {base : Nat} {e : TypeId} {A : Option Addr} {n c : Nat} {vs : List Value} (h : OwnV w base e (.slice A n c) vs) (hn : 0 < vs.length) :
    ∃ g cur, A = some ⟨g, 0, none⟩ ∧ base ≤ g ∧ g < w.heap.size ∧ w.heap[g]? = some (.cells cur e (0, 0)) ∧ n = vs.length ∧ vs.length ≤ c ∧ c ≤ maxLen ∧ cur.size = c ∧ cur.toList.take vs.length = vs := by
  rcases h.2 with ⟨he, h0⟩ | ⟨g', cap, cur, he, hb, hg, hn, hm, hs, ht⟩
  · omega
  · injection he with h1 h2 h3
    subst h3
    exact ⟨g', cur, h1, hb, (Array.getElem?_eq_some_iff.1 hg).1, hg, h2, hn, hm, by simpa using hs, by simpa using ht⟩
theorem OwnV.of_row {w : World} {base : Nat} {e : TypeId} {g c : Nat} {vs : List Value} {cur : Array Value} (hb : base ≤ g) (hg : w.heap[g]? = some (.cells cur e (0, 0))) (hn : vs.length ≤ c) (hm : c ≤ maxLen) (hs : cur.size = c) (ht : cur.toList.take vs.length = vs) :
    OwnV w base e (.slice (some ⟨g, 0, none⟩) vs.length c) vs := ⟨by simp, .inr ⟨g, c, cur, rfl, hb, hg, hn, hm, by simpa using hs, by simpa using ht⟩⟩
theorem own_type {w : World} {base : Nat} {e : TypeId} {v : Value} {vs : List Value} (h : OwnV w base e v vs) {k : Nat} (hk : v.ownBlock = some k) : ∃ cur, w.heap[k]? = some (.cells cur e (0, 0)) := by
  rcases h.2 with ⟨rfl, h0⟩ | ⟨g', cap, cur, rfl, hb, hg, hn, hm, hs, ht⟩
  · simp [Value.ownBlock] at hk
  · simp [Value.ownBlock] at hk
    subst hk
    exact ⟨cur, hg⟩

/-! ### append, and where the new row lies -/
section
variable {P : Program} {ops : Array Oper} {rest : List Oper} {o : Oper} {a : Act} {Q : Exit → Act → World → Prop}
theorem app_src_at {W : World} (hgd : o.guard = none) (s x : Operand) (t e : TypeId) (z : Value) (bytes : Nat)
    (ho : o.op = .call { callee := .builtin .append, args := #[s, x], argTypes := #[t, t] })
    (ht : P.underlying t = some (.slice e)) (hinfo : (P.info? e).map (fun i => (i.zero, i.size, i.bytes)) = some (some z, 1, bytes)) (hz : z.cells.size = 1) (hb0 : 0 < bytes)
    (v : Value) (vs news : List Value) (A : Option Addr) (c : Nat) (hs : a.eval s = v) (hx : a.eval x = .slice A news.length c) (h1 : ∀ u ∈ news, u.oneCell' = true)
    (HO : OwnV W 0 e v vs) (HR : RdV W A news) (hl : (vs.length + news.length) * bytes ≤ 140737488355328)
    (hnone : A = none → c = 0) (N : Nat) (hN : vs.length + news.length = N)
    (h : ∀ B1 c1 w1, OwnV w1 0 e (.slice B1 N c1) (vs ++ news) → Kept (fun k => v.ownBlock = some k) W w1 → (∀ k, (Value.slice B1 N c1).ownBlock = some k → v.ownBlock = some k ∨ W.heap.size ≤ k) → wpList P ops Q rest (a.put o.dst (.slice B1 N c1)) w1) :
    wpList P ops Q (o :: rest) a W := by
  subst hN
  obtain ⟨i0, hi, hz0, hz1, hz2⟩ := info_parts' hinfo
  have hlen : vs.length + news.length ≤ 140737488355328 := Nat.le_trans (Nat.le_mul_of_pos_right _ hb0) hl
  cases A with
  | some ad =>
    refine wpList_append_own_at W hgd s x t ho 0 e i0 z 1 bytes ht hi hz0 hz1 hz2 hz (by omega) v vs.length vs hs HO ad news.length c news hx (by simp)
      (fun j u hu => by obtain ⟨ad', e', hc⟩ := HR j u hu; cases e'; exact hc) h1 (by simp only [maxLen]; omega) hl (Nat.zero_le _) ?_
    intro v1 w1 hown hg _ hat
    have o1 : OwnV w1 0 e v1 (vs ++ news) := by unfold OwnV; rw [List.length_append]; exact hown
    obtain ⟨B1, c1, rfl, _, _, _⟩ := o1.shape
    rw [List.length_append] at o1 hat ⊢
    refine h B1 c1 w1 o1 (Kept.of_grown hg fun k hk _ => hk) (fun k hk => ?_)
    rcases hat with hat | hat
    · exact .inl (hat ▸ hk)
    · rw [hat] at hk
      injection hk with hk
      exact .inr (by omega)
  | none =>
    have h0 : news = [] := by
      cases news with
      | nil => rfl
      | cons u r => obtain ⟨ad', e', _⟩ := HR 0 u rfl; cases e'
    subst h0
    obtain rfl := hnone rfl
    obtain ⟨B1, c1, rfl, _, _, _⟩ := HO.shape
    exact wpList_append_own_none hgd s x t ho 0 e i0 1 ht hi _ vs.length vs hs HO hx
      (h B1 c1 W (by rw [List.append_nil]; exact HO) (Kept.refl _ _) (fun k hk => .inl hk))

theorem app_one_at {W : World} (hgd : o.guard = none) (s x : Operand) (t e : TypeId) (z : Value) (bytes : Nat)
    (ho : o.op = .call { callee := .builtin .append, args := #[s, x], argTypes := #[t, t] })
    (ht : P.underlying t = some (.slice e)) (hinfo : (P.info? e).map (fun i => (i.zero, i.size, i.bytes)) = some (some z, 1, bytes)) (hz : z.cells.size = 1) (hb0 : 0 < bytes)
    (v : Value) (vs : List Value) (y : Value) (hs : a.eval s = v) (hx : a.eval x = .slice (some ⟨W.heap.size, 0, none⟩) 1 1) (h1 : y.oneCell' = true)
    (HO : OwnV W 0 e v vs) (hl : (vs.length + 1) * bytes ≤ 140737488355328) (N : Nat) (hN : vs.length + 1 = N)
    (h : ∀ B1 c1 w1, OwnV w1 0 e (.slice B1 N c1) (vs ++ [y]) → Kept (fun k => v.ownBlock = some k) W w1 → (∀ k, (Value.slice B1 N c1).ownBlock = some k → v.ownBlock = some k ∨ W.heap.size ≤ k) → wpList P ops Q rest (a.put o.dst (.slice B1 N c1)) w1) :
    wpList P ops Q (o :: rest) a (W.alloc (.cells #[y] e)) := by
  refine app_src_at hgd s x t e z bytes ho ht hinfo hz hb0 v vs [y] (some ⟨W.heap.size, 0, none⟩) 1 hs hx (by simpa using h1) (HO.alloc _) ?_ (by simpa using hl) (by simp) N (by simpa using hN) ?_
  · intro j u hu
    refine ⟨_, rfl, ?_⟩
    have hj : j = 0 := by have := (List.getElem?_eq_some_iff.1 hu).1; simp at this; exact this
    subst hj
    have hu' : y = u := by simpa using hu
    subst hu'
    show (W.alloc (.cells #[y] e)).cell? ⟨W.heap.size, 0, none⟩ = some y
    have := heap_alloc_new W (.cells #[y] e)
    simp only [World.cell?, this]
    rfl
  · intro B1 c1 w1 h2 h3 h4
    refine h B1 c1 w1 h2 (((Kept.refl _ W).alloc _).trans h3 (fun _ _ h => h)) (fun k hk => ?_)
    rcases h4 k hk with h5 | h5
    · exact .inl h5
    · simp at h5; exact .inr (by omega)
end
end Go.Proofs.YtcmndglhileeoaaGreat
