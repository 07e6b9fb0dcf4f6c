/- The plain law of what is owed, by key: get?, put, in order. No Go. -/
import Derived.Test.YtcmndglhileeoaaGreatQPlain
namespace Rv

theorem keyLt_iff (a b : ByteArray) : keyLt a b = true ↔ a.data.toList < b.data.toList := by simp [keyLt]
theorem keyLt_irrefl (a : ByteArray) : keyLt a a = false := by simp [keyLt, List.lt_irrefl]
theorem keyLt_trans {a b c : ByteArray} (h : keyLt a b = true) (k : keyLt b c = true) : keyLt a c = true := by
  rw [keyLt_iff] at *
  exact List.lt_trans h k
theorem key_ext {a b : ByteArray} (h : a.data.toList = b.data.toList) : a = b := by
  cases a; cases b
  simp only at h
  congr 1
  exact Array.toList_inj.1 h
theorem keyLt_total {a b : ByteArray} (h : a ≠ b) (k : keyLt a b = false) : keyLt b a = true := by
  rw [keyLt_iff]
  have k' : ¬ a.data.toList < b.data.toList := by simpa [keyLt] using k
  have h1 : b.data.toList ≤ a.data.toList := List.not_lt.1 k'
  rcases List.le_iff_lt_or_eq.1 h1 with h2 | h2
  · exact h2
  · exact absurd (key_ext h2.symm) h

def Sorted (l : Owed) : Prop := l.Pairwise fun a b => keyLt a.1 b.1 = true

theorem get_put (l : Owed) (key : ByteArray) (d : Debt) (k : ByteArray) : (l.put key d).get? k = if k = key then some d else l.get? k := by
  induction l with
  | nil =>
    simp only [Owed.put, Owed.get?]
    by_cases h : key = k
    · rw [if_pos h, if_pos h.symm]
    · rw [if_neg h, if_neg (fun e => h e.symm)]
  | cons e r ih =>
    obtain ⟨k0, d0⟩ := e
    unfold Owed.put
    by_cases h1 : k0 = key
    · rw [if_pos h1]
      subst h1
      simp only [Owed.get?]
      by_cases h : k0 = k
      · rw [if_pos h, if_pos h.symm]
      · rw [if_neg h, if_neg (fun e => h e.symm), if_neg h]
    · rw [if_neg h1]
      by_cases h2 : keyLt key k0 = true
      · rw [if_pos h2]
        simp only [Owed.get?]
        by_cases h : key = k
        · rw [if_pos h, if_pos h.symm]
        · rw [if_neg h]
          rw [if_neg (fun e : k = key => h e.symm)]
      · rw [if_neg h2]
        simp only [Owed.get?]
        by_cases h : k0 = k
        · rw [if_pos h, if_pos h, if_neg (fun e => h1 (h.trans e))]
        · rw [if_neg h, if_neg h]; exact ih
theorem mem_put {l : Owed} {key : ByteArray} {d : Debt} {x : ByteArray × Debt} (h : x ∈ l.put key d) : x = (key, d) ∨ x ∈ l := by
  induction l with
  | nil => simp only [Owed.put, List.mem_singleton] at h; exact .inl h
  | cons e r ih =>
    obtain ⟨k0, d0⟩ := e
    unfold Owed.put at h
    split at h
    · rcases List.mem_cons.1 h with h | h
      · exact .inl h
      · exact .inr (List.mem_cons_of_mem _ h)
    · split at h
      · rcases List.mem_cons.1 h with h | h
        · exact .inl h
        · exact .inr h
      · rcases List.mem_cons.1 h with h | h
        · exact .inr (h ▸ List.mem_cons_self)
        · rcases ih h with h | h
          · exact .inl h
          · exact .inr (List.mem_cons_of_mem _ h)
theorem sorted_put {l : Owed} (h : Sorted l) (key : ByteArray) (d : Debt) : Sorted (l.put key d) := by
  induction l with
  | nil => exact List.pairwise_singleton _ _
  | cons e r ih =>
    obtain ⟨k0, d0⟩ := e
    obtain ⟨h1, h2⟩ := List.pairwise_cons.1 h
    unfold Owed.put
    by_cases hk : k0 = key
    · rw [if_pos hk]
      subst hk
      exact List.pairwise_cons.2 ⟨fun x hx => h1 x hx, h2⟩
    · rw [if_neg hk]
      by_cases hlt : keyLt key k0 = true
      · rw [if_pos hlt]
        refine List.pairwise_cons.2 ⟨fun x hx => ?_, h⟩
        rcases List.mem_cons.1 hx with rfl | hx
        · exact hlt
        · exact keyLt_trans hlt (h1 x hx)
      · rw [if_neg hlt]
        refine List.pairwise_cons.2 ⟨fun x hx => ?_, ih h2⟩
        rcases mem_put hx with rfl | hx
        · exact keyLt_total (fun e => hk e.symm) (by simpa using hlt)
        · exact h1 x hx
theorem put_length (l : Owed) (key : ByteArray) (d : Debt) : (l.put key d).length ≤ l.length + 1 := by
  induction l with
  | nil => simp [Owed.put]
  | cons e r ih =>
    obtain ⟨k0, d0⟩ := e
    unfold Owed.put
    split
    · simp
    · split
      · simp
      · simp; omega

theorem get_mem {l : Owed} {k : ByteArray} {d : Debt} (h : l.get? k = some d) : (k, d) ∈ l := by
  induction l with
  | nil => simp [Owed.get?] at h
  | cons e r ih =>
    obtain ⟨k0, d0⟩ := e
    unfold Owed.get? at h
    by_cases hk : k0 = k
    · rw [if_pos hk] at h; cases h; subst hk; exact List.mem_cons_self
    · rw [if_neg hk] at h; exact List.mem_cons_of_mem _ (ih h)
theorem get_of {l : Owed} (hs : Sorted l) {k : ByteArray} {d : Debt} (h : (k, d) ∈ l) : l.get? k = some d := by
  induction l with
  | nil => cases h
  | cons e r ih =>
    obtain ⟨k0, d0⟩ := e
    obtain ⟨h1, h2⟩ := List.pairwise_cons.1 hs
    unfold Owed.get?
    rcases List.mem_cons.1 h with h | h
    · cases h; rw [if_pos rfl]
    · have : k0 ≠ k := fun e => by
        have := h1 _ h
        simp only at this
        rw [e, keyLt_irrefl] at this
        cases this
      rw [if_neg this]; exact ih h2 h
theorem get_none {l : Owed} {k : ByteArray} : l.get? k = none ↔ ∀ d, (k, d) ∉ l := by
  induction l with
  | nil => simp [Owed.get?]
  | cons e r ih =>
    obtain ⟨k0, d0⟩ := e
    unfold Owed.get?
    by_cases hk : k0 = k
    · rw [if_pos hk]
      subst hk
      simp only [reduceCtorEq, false_iff]
      intro h
      exact h d0 List.mem_cons_self
    · rw [if_neg hk, ih]
      constructor
      · intro h d hm
        rcases List.mem_cons.1 hm with hm | hm
        · cases hm; exact hk rfl
        · exact h d hm
      · intro h d hm
        exact h d (List.mem_cons_of_mem _ hm)
/-- What a move of all does to one. -/
theorem get_move {l : Owed} (hs : Sorted l) (f : Debt → Debt) (k : ByteArray) :
    Owed.get? ((l.map fun e => (e.1, f e.2)).filter fun e => e.2.owes) k = match l.get? k with
      | none => none
      | some d => if (f d).owes then some (f d) else none := by
  induction l with
  | nil => rfl
  | cons e r ih =>
    obtain ⟨k0, d0⟩ := e
    obtain ⟨h1, h2⟩ := List.pairwise_cons.1 hs
    have ih := ih h2
    simp only [List.map_cons, List.filter_cons]
    by_cases hk : k0 = k
    · subst hk
      have hn : Owed.get? r k0 = none := get_none.2 (fun d hm => by
        have := h1 _ hm
        simp only at this
        rw [keyLt_irrefl] at this
        cases this)
      rw [hn] at ih
      simp only at ih
      rw [show Owed.get? ((k0, d0) :: r) k0 = some d0 by unfold Owed.get?; rw [if_pos rfl]]
      simp only
      by_cases ho : (f d0).owes = true
      · rw [if_pos ho, if_pos ho]; unfold Owed.get?; rw [if_pos rfl]
      · rw [if_neg ho, if_neg ho]; exact ih
    · rw [show Owed.get? ((k0, d0) :: r) k = Owed.get? r k by rw [Owed.get?]; rw [if_neg hk]]
      rw [← ih]
      split
      · rw [Owed.get?, if_neg hk]
      · rfl
theorem sorted_move {l : Owed} (hs : Sorted l) (f : Debt → Debt) : Sorted ((l.map fun e => (e.1, f e.2)).filter fun e => e.2.owes) := by
  refine List.Pairwise.sublist List.filter_sublist ?_
  rw [List.pairwise_map]
  exact hs
end Rv
