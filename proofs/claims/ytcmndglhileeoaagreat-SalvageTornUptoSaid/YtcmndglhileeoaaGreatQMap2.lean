/- Maps keyed by strings in a range: a step, an entry, an update of an entry that is there, delete. No program. -/
import Derived.Test.YtcmndglhileeoaaGreatQMap
import Derived.Maps.RangeRun
set_option linter.unusedSimpArgs false
set_option linter.unusedVariables false
namespace Rv
open Go Go.ChangeMaps Go.MapKept

theorem entry_same {l : List MapEntry} (h : l.Pairwise (fun a b => a.key ≠ b.key)) {x y : MapEntry} (hx : x ∈ l) (hy : y ∈ l) (hk : x.key = y.key) : x = y := by
  induction l with
  | nil => cases hx
  | cons a r ih =>
    obtain ⟨h1, h2⟩ := List.pairwise_cons.1 h
    rcases List.mem_cons.1 hx with rfl | hx'
    · rcases List.mem_cons.1 hy with e | hy'
      · exact e.symm
      · exact absurd hk (h1 y hy')
    · rcases List.mem_cons.1 hy with rfl | hy'
      · exact absurd hk.symm (h1 x hx')
      · exact ih h2 hx' hy'
theorem entry_born {l : List MapEntry} (h : l.Pairwise (fun a b => a.born < b.born)) {x y : MapEntry} (hx : x ∈ l) (hy : y ∈ l) (hk : x.born = y.born) : x = y := by
  induction l with
  | nil => cases hx
  | cons a r ih =>
    obtain ⟨h1, h2⟩ := List.pairwise_cons.1 h
    rcases List.mem_cons.1 hx with rfl | hx'
    · rcases List.mem_cons.1 hy with e | hy'
      · exact e.symm
      · have := h1 y hy'; omega
    · rcases List.mem_cons.1 hy with rfl | hy'
      · have := h1 x hx'; omega
      · exact ih h2 hx' hy'

section
variable {P : Program} {w : World} {t k e : TypeId} {b : Nat} {es : Array MapEntry} {clock : Nat}

/-- An update of a key that has an entry. -/
theorem run_put_old (ht : P.underlying t = some (.map k e)) (hk : P.underlying k = some .string) (hb : w.heap[b]? = some (.map es clock)) (S : SMap es clock) (key : ByteArray) (v : Value) {x0 : MapEntry} (hx0 : x0 ∈ es.toList) (hk0 : x0.key = .string key) :
    ∃ es', (Instr.mapUpdate t (.map (some b)) (.string key) v).run P w = .ok () (setB w b (.map es' clock)) ∧ SMap es' clock ∧
      (∀ k', findE es'.toList k' = if k' = key then some v else findE es.toList k') ∧ (∀ y ∈ es'.toList, (y.born = x0.born ∧ y.key = .string key) ∨ (y ∈ es.toList ∧ y.key ≠ .string key)) := by
  have hc := run_checkKey (P := P) (w := w) hk (isKey_string key) false 9999
  rcases findNow_at key es.toList 0 S.keys with ⟨h1, h2, h3⟩ | ⟨j, x, h5, h6, h3, h4⟩
  · exact absurd hk0 (h3 x0 hx0)
  · have hxx : x = x0 := by
      have hmem := List.mem_of_getElem? h5
      exact entry_same S.nodup hmem hx0 (h6.trans hk0.symm)
    subst hxx
    obtain ⟨es', clock', hrun, S', hf, hsz⟩ := run_put ht hk hb S key v
    have hf0 := run_findKey (P := P) (w := w) hk h3
    rw [Nat.zero_add] at hf0
    have hx : es[j]? = some x := by rw [← Array.getElem?_toList]; exact h5
    have hj : j < es.size := (Array.getElem?_eq_some_iff.1 hx).1
    have hxe : es[j] = x := (Array.getElem?_eq_some_iff.1 hx).2
    have hkey : x.key = .string key := h6
    have hmod : (es.modify j fun e => { e with key := .string key, val := v }) = es.set j ⟨.string key, v, x.born⟩ hj := by
      apply Array.ext'
      apply List.ext_getElem?
      intro i
      rw [Array.getElem?_toList, Array.getElem?_toList, Array.getElem?_modify, Array.getElem?_set]
      by_cases h : j = i
      · subst h; simp [hj, hxe]
      · simp [h]
    have hrun2 : (Instr.mapUpdate t (.map (some b)) (.string key) v).run P w = .ok () (setB w b (.map (es.set j ⟨.string key, v, x.born⟩ hj) clock)) := by
      have hst : (Instr.keyThatStays (.string key) (.string key)).run P w = .ok (.string key) w := by simp [Instr.keyThatStays, Instr.sameBits, ba_eq]
      simp only [Instr.mapUpdate, Sem.run_bind, run_underlying ht, Result.andThen_ok, run_getObj_map hb, hc, hf0, hx, Option.map_some, Option.getD_some, hkey, hst, hmod, run_setObj_map _ hb]
      rfl
    have hsame : setB w b (.map es' clock') = setB w b (.map (es.set j ⟨.string key, v, x.born⟩ hj) clock) := by
      rw [hrun] at hrun2
      injection hrun2
    have hheap : (setB w b (.map es' clock')).heap[b]? = some (.map es' clock') := setB_same hb
    rw [hsame, setB_same hb] at hheap
    injection hheap with hheap
    injection hheap with he1 he2
    subst he1
    subst he2
    refine ⟨_, hrun2, S', hf, fun y hy => ?_⟩
    rw [show (es.set j ⟨.string key, v, x.born⟩ hj).toList = es.toList.set j ⟨.string key, v, x.born⟩ by simp] at hy
    by_cases hyk : y.key = .string key
    · have : y ∈ (es.set j ⟨.string key, v, x.born⟩ hj).toList := by simpa using hy
      have h0 : (⟨.string key, v, x.born⟩ : MapEntry) ∈ (es.set j ⟨.string key, v, x.born⟩ hj).toList := by
        have : j < es.toList.length := by simpa using hj
        simpa using List.mem_set this (⟨.string key, v, x.born⟩ : MapEntry)
      have := entry_same S'.nodup this h0 hyk
      rw [this]
      exact .inl ⟨rfl, rfl⟩
    · rcases List.mem_or_eq_of_mem_set hy with h | h
      · exact .inr ⟨h, hyk⟩
      · rw [h] at hyk; exact absurd rfl hyk
end

section
variable {P : Program} {w : World} {ops : Array Oper} {rest : List Oper} {o : Oper} {a : Act} {Q : Exit → Act → World → Prop}
def DoneOf (es : Array MapEntry) (seen : Array Nat) : Prop := ∀ x ∈ es.toList, x.born ∈ seen.toList
def NextOf (es : Array MapEntry) (seen : Array Nat) (e : MapEntry) : Prop := e ∈ es.toList ∧ e.born ∉ seen.toList
def NextW (w wn : World) (r : Nat) (o : Obj) : Prop := ∃ w1, (w1 = w ∨ w1 = w.drew) ∧ wn = setB w1 r o
theorem wpList_next_at (hgd : o.guard = none) (it : Operand) (hop : o.op = Op.next it false) (r bm since c0 : Nat) (seen : Array Nat) (es : Array MapEntry) (clock : Nat) (hit : a.eval it = .pointer (some ⟨r, 0, none⟩))
    (hr : w.heap[r]? = some (.mapIter (some bm) since seen c0)) (hb : w.heap[bm]? = some (.map es clock)) (hold : ∀ x ∈ es.toList, x.born < since) (hsc : since ≤ c0)
    (hDone : DoneOf es seen → wpList P ops Q rest (a.put o.dst (.tuple #[.bool false])) w)
    (hMore : ∀ e, NextOf es seen e → ∀ wn, NextW w wn r (.mapIter (some bm) since (seen.push e.born) clock) → wpList P ops Q rest (a.put o.dst (.tuple #[.bool true, e.key, e.val])) wn) :
    wpList P ops Q (o :: rest) a w := by
  refine wpList_plain hgd fun K' hK' => ?_
  unfold Oper.wp
  rcases run_next_at (P := P) w o.type r bm since c0 seen es clock hr hb hold hsc with ⟨h0, hrun⟩ | ⟨e, he, w1, hw1, hrun⟩
  · simp [execOp, hop, hit, hrun, Result.andThen]
    refine hK' _ _ (hDone fun x hx => ?_)
    have h0' : leftOf es seen = #[] := Array.eq_empty_of_size_eq_zero h0
    unfold leftOf at h0'
    rw [Array.filter_eq_empty_iff] at h0'
    have := h0' x (by simpa using hx)
    simpa using this
  · simp [execOp, hop, hit, hrun, Result.andThen]
    have he' : e ∈ es.toList ∧ e.born ∉ seen.toList := by
      unfold leftOf at he
      simpa using he
    exact hK' _ _ (hMore e he' _ ⟨w1, hw1, rfl⟩)

/-- delete. -/
theorem wpList_delete_sm (hgd : o.guard = none) (m key : Operand) (tm tk : TypeId) (ho : o.op = .call { callee := .builtin .delete, args := #[m, key], argTypes := #[tm, tk] })
    {e : TypeId} (ht : P.underlying tm = some (.map tk e)) (hk : P.underlying tk = some .string) (b : Nat) (es : Array MapEntry) (clock : Nat) (ks : ByteArray) (hm : a.eval m = .map (some b)) (hks : a.eval key = .string ks)
    (hb : w.heap[b]? = some (.map es clock)) (S : SMap es clock)
    (h : ∀ es', SMap es' clock → (∀ k', findE es'.toList k' = if k' = ks then none else findE es.toList k') → (∀ x ∈ es'.toList, x ∈ es.toList) → wpList P ops Q rest (a.put o.dst (.tuple #[])) (setB w b (.map es' clock))) : wpList P ops Q (o :: rest) a w := by
  refine wpList_plain hgd fun K' hK' => ?_
  obtain ⟨es', hrun, h1, h2, -, h3⟩ := run_del (P := P) (w := w) (ty := o.type) ht hk hb S ks
  unfold Oper.wp execOp
  simp only [ho, resolve, invoke, builtin, Sem.run_bind, Sem.run_pure, Result.andThen_ok, List.map_toArray, List.map_cons, List.map_nil, hm, hks, hrun]
  exact hK' _ _ (h es' h1 h2 h3)
end

/-- One less is left. -/
theorem countP_lt {α : Type} {p q : α → Bool} : ∀ {l : List α} {x : α}, x ∈ l → p x = true → q x = false → (∀ y, q y = true → p y = true) → l.countP q < l.countP p
  | a :: r, x, hx, hp, hq, h => by
    rcases List.mem_cons.1 hx with rfl | hx
    · rw [List.countP_cons_of_pos hp, List.countP_cons_of_neg (by rw [hq]; simp)]
      exact Nat.lt_succ_of_le (List.countP_mono_left (fun y _ => h y))
    · have ih := countP_lt hx hp hq h
      rw [List.countP_cons, List.countP_cons]
      have := h a
      by_cases hqa : q a = true
      · rw [if_pos hqa, if_pos (this hqa)]; omega
      · rw [if_neg hqa]; split <;> omega
end Rv
