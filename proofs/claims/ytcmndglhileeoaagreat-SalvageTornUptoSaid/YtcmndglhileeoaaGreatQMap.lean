/- Maps keyed by strings, by what a look-up finds: look-up, store, delete, length, made. No program. -/
import Derived.Test.YtcmndglhileeoaaGreatQBase
import Derived.MapKept
import Derived.Maps.Own
set_option linter.unusedSimpArgs false
set_option linter.unusedVariables false
namespace Rv
open Go Go.ChangeMaps Go.MapKept

/-- What stands under a key. -/
def findE : List MapEntry → ByteArray → Option Value
  | [], _ => none
  | e :: r, k => match e.key with
    | .string s => if k = s then some e.val else findE r k
    | _ => findE r k

structure SMap (es : Array MapEntry) (clock : Nat) : Prop where
  keys : ∀ e ∈ es.toList, ∃ s, e.key = .string s
  nodup : es.toList.Pairwise (fun a b => a.key ≠ b.key)
  born : es.toList.Pairwise (fun a b => a.born < b.born)
  low : ∀ e ∈ es.toList, e.born < clock

theorem ba_eq (a b : ByteArray) : (a == b) = decide (a = b) := by
  have h : (a == b) = (a.data == b.data) := rfl
  rw [h]
  by_cases e : a = b
  · subst e; simp
  · rw [decide_eq_false e, beq_eq_false_iff_ne]
    exact fun h => e (ByteArray.ext h)

theorem ba_lawful : LawfulBEq ByteArray :=
  { rfl := fun {a} => by rw [ba_eq]; simp
    eq_of_beq := fun {a b} h => by rw [ba_eq] at h; exact of_decide_eq_true h }

theorem isKey_string (k : ByteArray) : IsKey .string (.string k) := by simp [IsKey]

theorem findNow_at (k : ByteArray) : ∀ (l : List MapEntry) (i : Nat), (∀ e ∈ l, ∃ s, e.key = .string s) →
    (Instr.findNow .string (.string k) l i = some none ∧ findE l k = none ∧ ∀ e ∈ l, e.key ≠ .string k) ∨
    ∃ j e, l[j]? = some e ∧ e.key = .string k ∧ Instr.findNow .string (.string k) l i = some (some (i + j, e.val)) ∧ findE l k = some e.val
  | [], i, _ => .inl ⟨rfl, rfl, fun e he => by cases he⟩
  | e :: r, i, h => by
    obtain ⟨s, hs⟩ := h e List.mem_cons_self
    by_cases hk : k = s
    · refine .inr ⟨0, e, rfl, by rw [hs, hk], ?_, ?_⟩
      · simp [Instr.findNow, hs, Instr.sameNow, ba_eq, hk]
      · simp [findE, hs, hk]
    · have e1 : Instr.findNow .string (.string k) (e :: r) i = Instr.findNow .string (.string k) r (i + 1) := by
        have : (k == s) = false := by rw [ba_eq]; exact decide_eq_false hk
        simp [Instr.findNow, hs, Instr.sameNow, this]
      have e2 : findE (e :: r) k = findE r k := by simp [findE, hs, hk]
      rcases findNow_at k r (i + 1) (fun x hx => h x (List.mem_cons_of_mem _ hx)) with ⟨h1, h2, h3⟩ | ⟨j, x, h1, h2, h3, h4⟩
      · refine .inl ⟨by rw [e1]; exact h1, by rw [e2]; exact h2, fun x hx => ?_⟩
        rcases List.mem_cons.1 hx with rfl | hx
        · rw [hs]; intro he; injection he with he; exact hk he.symm
        · exact h3 x hx
      · exact .inr ⟨j + 1, x, by simpa using h1, h2, by rw [e1, h3, show i + 1 + j = i + (j + 1) by omega], by rw [e2]; exact h4⟩

theorem findE_of {l : List MapEntry} (hn : l.Pairwise (fun a b => a.key ≠ b.key)) {e : MapEntry} (he : e ∈ l) {k : ByteArray} (hk : e.key = .string k) : findE l k = some e.val := by
  induction l with
  | nil => cases he
  | cons x r ih =>
    obtain ⟨h1, h2⟩ := List.pairwise_cons.1 hn
    rcases List.mem_cons.1 he with rfl | he
    · simp [findE, hk]
    · have := h1 e he
      unfold findE
      split
      · rename_i s hs
        by_cases h : k = s
        · subst h; exact absurd (hs.trans hk.symm) this
        · rw [if_neg h]; exact ih h2 he
      · exact ih h2 he

theorem findE_none {l : List MapEntry} {k : ByteArray} (h : ∀ e ∈ l, e.key ≠ .string k) : findE l k = none := by
  induction l with
  | nil => rfl
  | cons x r ih =>
    have h1 := h x List.mem_cons_self
    have h2 := ih (fun e he => h e (List.mem_cons_of_mem _ he))
    unfold findE
    split
    · rename_i s hs
      rw [if_neg (fun e => h1 (by rw [hs, e]))]; exact h2
    · exact h2

theorem findE_some {l : List MapEntry} {k : ByteArray} {v : Value} (h : findE l k = some v) : ∃ e ∈ l, e.key = .string k ∧ e.val = v := by
  induction l with
  | nil => cases h
  | cons x r ih =>
    unfold findE at h
    split at h
    · rename_i s hs
      by_cases hk : k = s
      · rw [if_pos hk] at h
        exact ⟨x, List.mem_cons_self, by rw [hs, hk], Option.some.inj h⟩
      · rw [if_neg hk] at h
        obtain ⟨e, he, h1⟩ := ih h
        exact ⟨e, List.mem_cons_of_mem _ he, h1⟩
    · obtain ⟨e, he, h1⟩ := ih h
      exact ⟨e, List.mem_cons_of_mem _ he, h1⟩

theorem findE_append {l l' : List MapEntry} {k : ByteArray} : findE (l ++ l') k = (findE l k).or (findE l' k) := by
  induction l with
  | nil => simp [findE]
  | cons x r ih =>
    simp only [List.cons_append]
    cases hx : x.key with
    | string s =>
      by_cases h : k = s
      · simp [findE, hx, h]
      · simp [findE, hx, h, ih]
    | _ => simp [findE, hx, ih]

def setB (w : World) (b : Nat) (o : Obj) : World := { w with heap := w.heap.setIfInBounds b o }
theorem setB_same {w : World} {b : Nat} {o o' : Obj} (hb : w.heap[b]? = some o) : (setB w b o').heap[b]? = some o' := (heap_set hb).1
theorem setB_other {w : World} {b k : Nat} {o' : Obj} (hne : k ≠ b) : (setB w b o').heap[k]? = w.heap[k]? := by
  show (w.heap.setIfInBounds b o')[k]? = _
  simp [Ne.symm hne]
theorem setB_size (w : World) (b : Nat) (o' : Obj) : (setB w b o').heap.size = w.heap.size := by simp [setB]

section
variable {P : Program} {w : World} {t k e : TypeId} {b : Nat} {es : Array MapEntry} {clock : Nat}

theorem run_look (ht : P.underlying t = some (.map k e)) (hk : P.underlying k = some .string) (hb : w.heap[b]? = some (.map es clock)) (S : SMap es clock) (key : ByteArray) {z : Value}
    (hz : ∀ w, (zeroValue e).run P w = .ok z w) (ok : Bool) :
    (Instr.lookup t (.map (some b)) (.string key) ok).run P w = .ok (if ok then .tuple #[(findE es.toList key).getD z, .bool (findE es.toList key).isSome] else (findE es.toList key).getD z) w := by
  have hc := run_checkKey (P := P) (w := w) hk (isKey_string key) es.isEmpty 9999
  rcases findNow_at key es.toList 0 S.keys with ⟨h1, h2, _⟩ | ⟨j, x, _, _, h3, h4⟩
  · have hf := run_findKey (P := P) (w := w) hk h1
    rw [h2]
    simp [Instr.lookup, run_underlying ht, run_getObj_map hb, hc, hf, hz, Result.andThen]
  · have hf := run_findKey (P := P) (w := w) hk h3
    rw [h4]
    simp [Instr.lookup, run_underlying ht, run_getObj_map hb, hc, hf, Result.andThen]

theorem run_put (ht : P.underlying t = some (.map k e)) (hk : P.underlying k = some .string) (hb : w.heap[b]? = some (.map es clock)) (S : SMap es clock) (key : ByteArray) (v : Value) :
    ∃ es' clock', (Instr.mapUpdate t (.map (some b)) (.string key) v).run P w = .ok () (setB w b (.map es' clock')) ∧ SMap es' clock' ∧
      (∀ k', findE es'.toList k' = if k' = key then some v else findE es.toList k') ∧ es'.size = (if (findE es.toList key).isSome then es.size else es.size + 1) := by
  have hc := run_checkKey (P := P) (w := w) hk (isKey_string key) false 9999
  rcases findNow_at key es.toList 0 S.keys with ⟨h1, h2, h3⟩ | ⟨j, x, h5, h6, h3, h4⟩
  · have hf := run_findKey (P := P) (w := w) hk h1
    refine ⟨es.push ⟨.string key, v, clock⟩, clock + 1, ?_, ⟨?_, ?_, ?_, ?_⟩, ?_, by rw [h2]; simp⟩
    · simp [Instr.mapUpdate, run_underlying ht, run_getObj_map hb, hc, hf, run_setObj_map _ hb, Result.andThen, setB]
    · intro x hx
      rw [Array.toList_push, List.mem_append] at hx
      rcases hx with hx | hx
      · exact S.keys x hx
      · rw [List.mem_singleton.1 hx]; exact ⟨key, rfl⟩
    · rw [Array.toList_push, List.pairwise_append]
      refine ⟨S.nodup, List.pairwise_singleton _ _, fun x hx y hy => ?_⟩
      rw [List.mem_singleton.1 hy]
      exact h3 x hx
    · rw [Array.toList_push, List.pairwise_append]
      refine ⟨S.born, List.pairwise_singleton _ _, fun x hx y hy => ?_⟩
      rw [List.mem_singleton.1 hy]
      exact S.low x hx
    · intro x hx
      rw [Array.toList_push, List.mem_append] at hx
      rcases hx with hx | hx
      · have := S.low x hx; omega
      · rw [List.mem_singleton.1 hx]; show clock < clock + 1; omega
    · intro k'
      rw [Array.toList_push, findE_append]
      by_cases h : k' = key
      · subst h
        rw [h2, if_pos rfl]
        simp [findE]
      · rw [if_neg h]
        simp [findE, h]
  · have hf := run_findKey (P := P) (w := w) hk h3
    rw [Nat.zero_add] at hf
    have hx : es[j]? = some x := by rw [← Array.getElem?_toList]; exact h5
    have hj : j < es.size := (Array.getElem?_eq_some_iff.1 hx).1
    have hxe : es[j] = x := (Array.getElem?_eq_some_iff.1 hx).2
    have hkey : x.key = .string key := h6
    have hmod : (es.modify j fun e => { e with key := .string key, val := v }) = es.set j ⟨.string key, v, x.born⟩ hj := by
      apply Array.ext'
      apply List.ext_getElem?
      intro i
      rw [Array.getElem?_toList, Array.getElem?_toList, Array.getElem?_modify, Array.getElem?_set]
      by_cases h : j = i
      · subst h; simp [hj, hxe]
      · simp [h]
    have htl : (es.set j ⟨.string key, v, x.born⟩ hj).toList = es.toList.set j ⟨.string key, v, x.born⟩ := by simp
    have mem_set : ∀ y, y ∈ es.toList.set j ⟨.string key, v, x.born⟩ → y = ⟨.string key, v, x.born⟩ ∨ y ∈ es.toList := fun y hy => by
      rcases List.mem_or_eq_of_mem_set hy with h | h
      · exact .inr h
      · exact .inl h
    have pw : ∀ {R : MapEntry → MapEntry → Prop} {l : List MapEntry} {j : Nat} {x y : MapEntry}, l[j]? = some x → l.Pairwise R → (∀ a, R a x → R a y) → (∀ a, R x a → R y a) → (l.set j y).Pairwise R := by
      intro R l
      induction l with
      | nil => intro j x y h; simp at h
      | cons a r ih =>
        intro j x y h hp h1 h2
        obtain ⟨p1, p2⟩ := List.pairwise_cons.1 hp
        cases j with
        | zero =>
          simp at h
          subst h
          simp only [List.set_cons_zero]
          exact List.pairwise_cons.2 ⟨fun z hz => h2 z (p1 z hz), p2⟩
        | succ j =>
          simp only [List.set_cons_succ]
          simp at h
          refine List.pairwise_cons.2 ⟨fun z hz => ?_, ih h p2 h1 h2⟩
          rcases List.mem_or_eq_of_mem_set hz with h3 | rfl
          · exact p1 z h3
          · exact h1 a (p1 x (List.mem_of_getElem? h))
    refine ⟨es.set j ⟨.string key, v, x.born⟩ hj, clock, ?_, ⟨?_, ?_, ?_, ?_⟩, ?_, by rw [h4]; simp⟩
    · have hst : (Instr.keyThatStays (.string key) (.string key)).run P w = .ok (.string key) w := by simp [Instr.keyThatStays, Instr.sameBits, ba_eq]
      simp only [Instr.mapUpdate, Sem.run_bind, run_underlying ht, Result.andThen_ok, run_getObj_map hb, hc, hf, hx, Option.map_some, Option.getD_some, hkey, hst, hmod, run_setObj_map _ hb]
      rfl
    · intro y hy
      rw [htl] at hy
      rcases mem_set y hy with rfl | h
      · exact ⟨key, rfl⟩
      · exact S.keys y h
    · rw [htl]
      exact pw h5 S.nodup (fun a h => by rw [hkey] at h; exact h) (fun a h => by rw [hkey] at h; exact h)
    · rw [htl]
      exact pw h5 S.born (fun a h => h) (fun a h => h)
    · intro y hy
      rw [htl] at hy
      rcases mem_set y hy with rfl | h
      · exact S.low x (List.mem_of_getElem? h5)
      · exact S.low y h
    · intro k'
      rw [htl]
      have hnd : (es.toList.set j ⟨.string key, v, x.born⟩).Pairwise (fun a b => a.key ≠ b.key) := pw h5 S.nodup (fun a h => by rw [hkey] at h; exact h) (fun a h => by rw [hkey] at h; exact h)
      have hjl : j < es.toList.length := by simpa using hj
      by_cases h : k' = key
      · subst h
        rw [if_pos rfl]
        exact findE_of hnd (List.mem_set hjl _) rfl
      · rw [if_neg h]
        cases hf' : findE es.toList k' with
        | none =>
          refine findE_none (fun y hy hyk => ?_)
          rcases mem_set y hy with rfl | hy
          · injection hyk with hyk; exact h hyk.symm
          · rw [findE_of S.nodup hy hyk] at hf'; cases hf'
        | some u =>
          obtain ⟨y, hy, h8, h9⟩ := findE_some hf'
          have : y ∈ es.toList.set j ⟨.string key, v, x.born⟩ := by
            obtain ⟨i, hi⟩ := List.getElem?_of_mem hy
            have hne : j ≠ i := by
              rintro rfl
              rw [h5] at hi
              injection hi with hi
              subst hi
              rw [hkey] at h8
              injection h8 with h8
              exact h h8.symm
            refine List.mem_of_getElem? (i := i) ?_
            rw [List.getElem?_set_ne hne]; exact hi
          rw [findE_of hnd this h8, h9]

theorem run_del {ty : TypeId} (ht : P.underlying t = some (.map k e)) (hk : P.underlying k = some .string) (hb : w.heap[b]? = some (.map es clock)) (S : SMap es clock) (key : ByteArray) :
    ∃ es', (Builtin.delete_ #[t, k] ty #[.map (some b), .string key]).run P w = .ok (.tuple #[]) (setB w b (.map es' clock)) ∧ SMap es' clock ∧
      (∀ k', findE es'.toList k' = if k' = key then none else findE es.toList k') ∧ es'.size = (if (findE es.toList key).isSome then es.size - 1 else es.size) ∧ (∀ x ∈ es'.toList, x ∈ es.toList) := by
  have hc := run_checkKey (P := P) (w := w) hk (isKey_string key) es.isEmpty 9999
  rcases findNow_at key es.toList 0 S.keys with ⟨h1, h2, h3⟩ | ⟨j, x, h5, h6, h3, h4⟩
  · have hf := run_findKey (P := P) (w := w) hk h1
    refine ⟨es, ?_, S, fun k' => ?_, by rw [h2]; rfl, fun x h => h⟩
    · simp [Builtin.delete_, run_underlying ht, run_getObj_map hb, hc, hf, run_setObj_map _ hb, Result.andThen, setB]
    · by_cases h : k' = key
      · subst h; rw [if_pos rfl, h2]
      · rw [if_neg h]
  · have hf := run_findKey (P := P) (w := w) hk h3
    rw [Nat.zero_add] at hf
    have hx : es[j]? = some x := by rw [← Array.getElem?_toList]; exact h5
    have hj : j < es.size := (Array.getElem?_eq_some_iff.1 hx).1
    have htl : (es.eraseIdxIfInBounds j).toList = es.toList.eraseIdx j := by
      unfold Array.eraseIdxIfInBounds
      rw [dif_pos hj]
      simp
    have sub : (es.toList.eraseIdx j).Sublist es.toList := List.eraseIdx_sublist _ _
    refine ⟨es.eraseIdxIfInBounds j, ?_, ⟨?_, ?_, ?_, ?_⟩, ?_, ?_, ?_⟩
    · simp [Builtin.delete_, run_underlying ht, run_getObj_map hb, hc, hf, run_setObj_map _ hb, Result.andThen, setB]
    · intro y hy; rw [htl] at hy; exact S.keys y (sub.subset hy)
    · rw [htl]; exact S.nodup.sublist sub
    · rw [htl]; exact S.born.sublist sub
    · intro y hy; rw [htl] at hy; exact S.low y (sub.subset hy)
    · intro k'
      rw [htl]
      have hnd := S.nodup.sublist sub
      by_cases h : k' = key
      · subst h
        rw [if_pos rfl]
        refine findE_none (fun y hy hyk => ?_)
        obtain ⟨i, hi⟩ := List.getElem?_of_mem hy
        rw [List.getElem?_eraseIdx] at hi
        have pwi := List.pairwise_iff_getElem.1 S.nodup
        obtain ⟨hjl, hjx⟩ := List.getElem?_eq_some_iff.1 h5
        by_cases hij : i < j
        · rw [if_pos hij] at hi
          obtain ⟨hil, hiy⟩ := List.getElem?_eq_some_iff.1 hi
          exact pwi i j hil hjl hij (by rw [hiy, hjx, hyk, h6])
        · rw [if_neg hij] at hi
          obtain ⟨hil, hiy⟩ := List.getElem?_eq_some_iff.1 hi
          exact pwi j (i + 1) hjl hil (by omega) (by rw [hiy, hjx, hyk, h6])
      · rw [if_neg h]
        cases hf' : findE es.toList k' with
        | none =>
          refine findE_none (fun y hy hyk => ?_)
          rw [findE_of S.nodup (sub.subset hy) hyk] at hf'; cases hf'
        | some u =>
          obtain ⟨y, hy, h8, h9⟩ := findE_some hf'
          have : y ∈ es.toList.eraseIdx j := by
            obtain ⟨i, hi⟩ := List.getElem?_of_mem hy
            have hne : i ≠ j := by
              rintro rfl
              rw [h5] at hi
              injection hi with hi
              subst hi
              rw [h6] at h8
              injection h8 with h8
              exact h h8.symm
            rw [List.mem_eraseIdx_iff_getElem?]
            exact ⟨i, hne, hi⟩
          rw [findE_of hnd this h8, h9]
    · rw [h4]
      simp only [Option.isSome_some, if_true]
      rw [← Array.length_toList, htl, List.length_eraseIdx, if_pos (by simpa using hj)]
      simp
    · intro y hy; rw [htl] at hy; exact sub.subset hy
end

theorem smap_nil : SMap #[] 0 := ⟨by simp, by simp, by simp, by simp⟩

end Rv
