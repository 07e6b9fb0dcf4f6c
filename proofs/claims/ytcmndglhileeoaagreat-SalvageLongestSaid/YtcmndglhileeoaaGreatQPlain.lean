/- A part of the proof: Plain. -/
import Derived.Test.YtcmndglhileeoaaGreatQModel
namespace Rv

/-- Two rows of bytes that are the same up to N. -/
structure Agree (N : Nat) (b b' : Bs) : Prop where
  le : N ≤ b.length
  le' : N ≤ b'.length
  eq : b.take N = b'.take N

theorem Agree.symm {N : Nat} {b b' : Bs} (h : Agree N b b') : Agree N b' b := ⟨h.le', h.le, h.eq.symm⟩

theorem Agree.upto {N : Nat} {b b' : Bs} (h : Agree N b b') {k : Nat} (hk : k ≤ N) : b.take k = b'.take k := by
  have := congrArg (List.take k) h.eq
  rwa [List.take_take, List.take_take, Nat.min_eq_left hk] at this

theorem Agree.sub {N : Nat} {b b' : Bs} (h : Agree N b b') {i n : Nat} (hk : i + n ≤ N) : (b.drop i).take n = (b'.drop i).take n := by
  rw [List.take_drop, List.take_drop, h.upto hk]

theorem Agree.mono {N k : Nat} {b b' : Bs} (h : Agree N b b') (hk : k ≤ N) : Agree k b b' := ⟨Nat.le_trans hk h.le, Nat.le_trans hk h.le', h.upto hk⟩

theorem agree_take {b : Bs} {x y : Nat} (hx : x ≤ y) (hy : y ≤ b.length) : Agree x (b.take x) (b.take y) :=
  ⟨by simp; omega, by simp; omega, by simp [List.take_take, Nat.min_eq_left hx]⟩

theorem rdGo_ok : ∀ (l : Bs) (i n a k : Nat), rdGo i n l = .ok a k → i < k ∧ k ≤ i + l.length ∧ ∀ l' : Bs, l'.take (k - i) = l.take (k - i) → rdGo i n l' = .ok a k := by
  intro l
  induction l with
  | nil => intro i n a k h; simp [rdGo] at h
  | cons c r ih =>
    intro i n a k h
    rw [rdGo] at h
    split at h
    · simp at h
    · rename_i h1
      split at h
      · rename_i h2
        injection h with ha hk
        subst ha; subst hk
        refine ⟨by omega, by simp, fun l' hl => ?_⟩
        have : i + 1 - i = 1 := by omega
        rw [this] at hl
        cases l' with
        | nil => simp at hl
        | cons c' r' =>
          simp at hl
          subst hl
          rw [rdGo]
          rw [if_neg h1, if_pos h2]
      · rename_i h2
        obtain ⟨h3, h4, h5⟩ := ih _ _ _ _ h
        refine ⟨by omega, by simp; omega, fun l' hl => ?_⟩
        have e : k - i = (k - (i + 1)) + 1 := by omega
        rw [e] at hl
        cases l' with
        | nil => simp at hl
        | cons c' r' =>
          simp only [List.take_succ_cons, List.cons.injEq] at hl
          obtain ⟨rfl, hl⟩ := hl
          rw [rdGo]
          rw [if_neg h1, if_neg h2]
          exact h5 _ hl

theorem rdB_ok {b : Bs} {at_ n len : Nat} (h : rdB (b.drop at_) = .ok n len) : 0 < len ∧ at_ + len ≤ b.length := by
  obtain ⟨h1, h2, _⟩ := rdGo_ok _ _ _ _ _ h
  simp at h2
  omega

theorem rdB_agree {N : Nat} {b b' : Bs} (hb : Agree N b b') {at_ n len : Nat} (h : rdB (b.drop at_) = .ok n len) (hN : at_ + len ≤ N) : rdB (b'.drop at_) = .ok n len := by
  obtain ⟨h1, h2, h3⟩ := rdGo_ok _ _ _ _ _ h
  exact h3 _ (by rw [Nat.sub_zero]; exact (hb.sub hN).symm)

theorem rdMany_ok {b : Bs} : ∀ (k at_ : Nat) (l : List Int) (to : Nat), rdMany b k at_ = .ok (l, to) → at_ ≤ to ∧ (0 < k → to ≤ b.length) ∧ ∀ (b' : Bs) (N : Nat), Agree N b b' → to ≤ N → rdMany b' k at_ = .ok (l, to) := by
  intro k
  induction k with
  | zero =>
    intro at_ l to h
    simp [rdMany] at h
    obtain ⟨rfl, rfl⟩ := h
    exact ⟨Nat.le_refl _, by omega, fun _ _ _ _ => by simp [rdMany]⟩
  | succ k ih =>
    intro at_ l to h
    rw [rdMany] at h
    split at h
    · simp at h
    · rename_i n len hr
      split at h
      · simp at h
      · rename_i l' to' hm
        simp at h
        obtain ⟨rfl, rfl⟩ := h
        obtain ⟨h1, h2, h3⟩ := ih _ _ _ hm
        have h4 := rdB_ok hr
        refine ⟨by omega, fun _ => ?_, fun b' N hb hN => ?_⟩
        · rcases Nat.eq_zero_or_pos k with hk | hk
          · subst hk
            simp [rdMany] at hm
            omega
          · exact h2 hk
        · rw [rdMany, rdB_agree hb hr (by omega)]
          simp only
          rw [h3 b' N hb hN]

theorem Seal.read_take (l : Bs) : Seal.read l = Seal.read (l.take 6) := by
  rcases l with _ | ⟨a, l⟩
  · rfl
  rcases l with _ | ⟨b, l⟩
  · rfl
  rcases l with _ | ⟨c, l⟩
  · rfl
  rcases l with _ | ⟨d, l⟩
  · rfl
  rcases l with _ | ⟨e, l⟩
  · rfl
  rcases l with _ | ⟨f, l⟩
  · rfl
  rfl

theorem Seal.read_ok {l l' : Bs} {s : Seal} (h : Seal.read l = .ok s) (hl : l'.take 6 = l.take 6) : Seal.read l' = .ok s := by
  rw [Seal.read_take, hl, ← Seal.read_take, h]

theorem Seal.read_len {l : Bs} {s : Seal} (h : Seal.read l = .ok s) : 6 ≤ l.length := by
  rcases l with _ | ⟨a, l⟩
  · cases h
  rcases l with _ | ⟨b, l⟩
  · cases h
  rcases l with _ | ⟨c, l⟩
  · cases h
  rcases l with _ | ⟨d, l⟩
  · cases h
  rcases l with _ | ⟨e, l⟩
  · cases h
  rcases l with _ | ⟨f, l⟩
  · cases h
  simp

theorem Pol.read_ok {b : Bs} {p : Pol} {to : Nat} (h : Pol.read b = .ok (p, to)) : p.ok = true ∧ to ≤ b.length ∧ ∀ (b' : Bs) (N : Nat), Agree N b b' → to ≤ N → Pol.read b' = .ok (p, to) := by
  rw [Pol.read] at h
  split at h
  · simp at h
  · rename_i h0
    split at h
    · simp at h
    · rename_i k len hk
      split at h
      · simp at h
      · rename_i h1
        split at h
        · simp at h
        · rename_i l at_ hm
          simp only at h
          split at h
          · simp at h
          · rename_i h2
            split at h
            · simp at h
            · rename_i s hs
              split at h
              · rename_i h3
                simp at h
                obtain ⟨rfl, rfl⟩ := h
                have h4 := Seal.read_len hs
                simp at h4
                have h5 := rdMany_ok _ _ _ _ hm
                have h6 := rdB_ok hk
                refine ⟨by simpa using h2, by omega, fun b' N hb hN => ?_⟩
                rw [Pol.read, ← hb.upto (show 4 ≤ N by omega), if_neg h0, rdB_agree hb hk (by omega)]
                simp only
                rw [if_neg h1, h5.2.2 b' N hb (by omega)]
                simp only
                rw [if_neg h2, Seal.read_ok hs (hb.sub (show at_ + 6 ≤ N by omega)).symm]
                simp only
                rw [← hb.upto (show at_ ≤ N by omega), if_pos h3]
              · simp at h

theorem Dict.get_ok {d d' : Dict} {b : Bs} {at_ to : Nat} {key : ByteArray} (h : d.get b at_ = .ok (d', key, to)) :
    at_ < to ∧ to ≤ b.length ∧ ∀ (b' : Bs) (N : Nat), Agree N b b' → to ≤ N → d.get b' at_ = .ok (d', key, to) := by
  rw [Dict.get] at h
  split at h
  · simp at h
  · rename_i n len hr
    have h1 := rdB_ok hr
    split at h
    · rename_i h0
      split at h
      · simp at h
      · rename_i d1 key1 ht
        simp at h
        obtain ⟨rfl, rfl, rfl⟩ := h
        refine ⟨by omega, by omega, fun b' N hb hN => ?_⟩
        rw [Dict.get, rdB_agree hb hr (by omega)]
        simp only
        rw [if_pos h0, ht]
    · rename_i h0
      split at h
      · simp at h
      · rename_i k len2 hr2
        have h2 := rdB_ok hr2
        split at h
        · simp at h
        · rename_i h3
          split at h
          · simp at h
          · rename_i h4
            simp only at h
            split at h
            · simp at h
            · rename_i h5
              simp at h
              obtain ⟨rfl, rfl, rfl⟩ := h
              refine ⟨by omega, by omega, fun b' N hb hN => ?_⟩
              have e := hb.sub (show (at_ + len + len2) + k ≤ N by omega)
              have hl := hb.le'
              rw [Dict.get, rdB_agree hb hr (by omega)]
              simp only
              rw [if_neg h0, rdB_agree hb hr2 (by omega)]
              simp only
              rw [if_neg h3, if_neg (by omega), ← e, if_neg h5]

theorem Coder.get_ok {c c' : Coder} {b : Bs} {at_ to : Nat} {r : Rec} (h : c.get b at_ = .ok (c', r, to)) :
    at_ < to ∧ to ≤ b.length ∧ ∀ (b' : Bs) (N : Nat), Agree N b b' → to ≤ N → c.get b' at_ = .ok (c', r, to) := by
  rw [Coder.get] at h
  split at h
  · simp at h
  · rename_i n len hr
    have h1 := rdB_ok hr
    split at h
    · simp at h
    · rename_i g1
      split at h
      · simp at h
      · rename_i g2
        split at h
        · simp at h
        · rename_i z len2 hr2
          have h2 := rdB_ok hr2
          simp only at h
          split at h
          · simp at h
          · rename_i g3
            split at h
            · simp at h
            · rename_i d' key to' hd
              simp only [Except.ok.injEq, Prod.mk.injEq] at h
              obtain ⟨rfl, rfl, rfl⟩ := h
              obtain ⟨h3, h4, h5⟩ := Dict.get_ok hd
              refine ⟨by omega, by omega, fun b' N hb hN => ?_⟩
              rw [Coder.get, rdB_agree hb hr (by omega)]
              simp only
              rw [if_neg g1, if_neg g2, rdB_agree hb hr2 (by omega)]
              simp only
              rw [if_neg g3, h5 b' N hb hN]

theorem standsAt_iff {b : Bs} {at_ : Nat} {want : Bs} : standsAt b at_ want = true ↔ (b.drop at_).take want.length = want := by
  unfold standsAt
  rw [List.isPrefixOf_iff_prefix, List.prefix_iff_eq_take, eq_comm]

theorem standsAt_len {b : Bs} {at_ : Nat} {want : Bs} (h : standsAt b at_ want = true) (h0 : at_ ≤ b.length) : at_ + want.length ≤ b.length := by
  rw [standsAt_iff] at h
  have := congrArg List.length h
  simp at this
  omega

theorem standsAt_agree {N : Nat} {b b' : Bs} (hb : Agree N b b') {at_ : Nat} {want : Bs} (h : standsAt b at_ want = true) (hN : at_ + want.length ≤ N) : standsAt b' at_ want = true := by
  rw [standsAt_iff] at *
  rw [← hb.sub hN]; exact h

theorem Maker.adds_piece (m : Maker) (r : Rec) (c : Coder) (x : Bs) : (m.adds r c x).1.piece = x ∧ (m.adds r c x).1.coder = c := by
  unfold Maker.adds
  simp only
  split <;> (split <;> first | exact ⟨rfl, rfl⟩ | (split <;> exact ⟨rfl, rfl⟩))

theorem Maker.next_ok {m m' : Maker} {b : Bs} {r : Rec} (h : m.next b = .some r m') :
    m.size < m'.size ∧ m'.size ≤ b.length ∧ m.records < 10000 ∨ 10000 < m.records ∧ m.next b = .some r m' := by
  by_cases hr : m.records ≤ 10000
  · left
    rw [Maker.next] at h
    split at h
    · simp at h
    · split at h
      · simp at h
      · split at h
        · simp at h
        · rename_i c x to hg
          obtain ⟨h3, h4, _⟩ := Coder.get_ok hg
          simp only at h
          split at h
          · simp at h
          · rename_i g1
            split at h
            · simp at h
            · rename_i g2
              simp at h
              obtain ⟨rfl, rfl⟩ := h
              have k1 := standsAt_len (by simpa using g1) h4
              have k2 := standsAt_len (by simpa using g2) k1
              have k3 := (Maker.adds_piece m x c ((b.drop m.size).take (to - m.size))).1
              have k4 : ((b.drop m.size).take (to - m.size)).length = to - m.size := by simp; omega
              simp only [Maker.done, k3, k4]
              omega
  · right; exact ⟨by omega, h⟩

theorem Maker.next_agree {m m' : Maker} {b b' : Bs} {N : Nat} {r : Rec} (h : m.next b = .some r m') (hb : Agree N b b') (hN : m'.size ≤ N) : m.next b' = .some r m' := by
  rw [Maker.next] at h
  split at h
  · simp at h
  · rename_i g0
    split at h
    · simp at h
    · rename_i g00
      split at h
      · simp at h
      · rename_i c x to hg
        obtain ⟨h3, h4, h5⟩ := Coder.get_ok hg
        simp only at h
        split at h
        · simp at h
        · rename_i g1
          split at h
          · simp at h
          · rename_i g2
            simp at h
            obtain ⟨rfl, rfl⟩ := h
            have k3 := (Maker.adds_piece m x c ((b.drop m.size).take (to - m.size))).1
            have k4 : ((b.drop m.size).take (to - m.size)).length = to - m.size := by simp; omega
            simp only [Maker.done, k3, k4] at hN
            have e := hb.sub (i := m.size) (n := to - m.size) (by omega)
            have hl := hb.le'
            rw [Maker.next, if_neg (by omega), if_neg g00, h5 b' N hb (by omega)]
            simp only
            rw [← e, standsAt_agree hb (by simpa using g1) (by omega)]
            simp only [Bool.true_eq_false, if_false]
            rw [standsAt_agree hb (by simpa using g2) (by omega)]
            simp

/-- The makers that Next leads through: no more records than there may be. -/
theorem Maker.next_records {m m' : Maker} {b : Bs} {r : Rec} (h : m.next b = .some r m') : m'.records = m.records + 1 ∧ m'.p = m.p ∧ m.records ≠ 10000 := by
  rw [Maker.next] at h
  split at h
  · simp at h
  · split at h
    · simp at h
    · rename_i g
      split at h
      · simp at h
      · simp only at h
        split at h
        · simp at h
        · split at h
          · simp at h
          · simp at h
            obtain ⟨rfl, rfl⟩ := h
            exact ⟨rfl, rfl, g⟩

theorem Maker.reads_size (b : Bs) : ∀ (k : Nat) (m : Maker), m.records ≤ 10000 → m.size ≤ b.length →
    m.size ≤ (Maker.reads b k m).2.1.size ∧ (Maker.reads b k m).2.1.size ≤ b.length ∧ ((Maker.reads b k m).1 = [] ↔ (Maker.reads b k m).2.1.size = m.size) := by
  intro k
  induction k with
  | zero => intro m _ h; simp [Maker.reads]; exact h
  | succ k ih =>
    intro m hr hs
    rw [Maker.reads]
    split
    · simp; exact hs
    · simp; exact hs
    · rename_i x m' hn
      rcases Maker.next_ok hn with h1 | h1
      · have h2 := (Maker.next_records hn).1
        have := ih m' (by omega) h1.2.1
        refine ⟨by simp only; omega, by simp only; omega, ?_⟩
        simp only [reduceCtorEq, false_iff]
        omega
      · omega

/-- Enough rounds: none more changes anything. -/
theorem Maker.reads_more (b : Bs) : ∀ (k : Nat) (m : Maker), m.records ≤ 10000 → 10000 < k + m.records → ∀ j, Maker.reads b (k + j) m = Maker.reads b k m := by
  intro k
  induction k with
  | zero => intro m h1 h2; omega
  | succ k ih =>
    intro m h1 h2 j
    rw [show k + 1 + j = (k + j) + 1 by omega, Maker.reads, Maker.reads]
    split
    · rfl
    · rfl
    · rename_i x m' hn
      have h3 := Maker.next_records hn
      rw [ih m' (by omega) (by omega)]

/-- With enough rounds it ends at a fault, or at the end. -/
theorem Maker.reads_end (b : Bs) : ∀ (k : Nat) (m : Maker), m.records ≤ 10000 → 10000 < k + m.records →
    (Maker.reads b k m).2.1.next b = (match (Maker.reads b k m).2.2 with | none => .none_ | some f => .fault f) := by
  intro k
  induction k with
  | zero => intro m h1 h2; omega
  | succ k ih =>
    intro m h1 h2
    rw [Maker.reads]
    split
    · rename_i h; simp [h]
    · rename_i h; simp [h]
    · rename_i x m' hn
      have h3 := Maker.next_records hn
      exact ih m' (by omega) (by omega)

theorem Maker.reads_records (b : Bs) : ∀ (k : Nat) (m : Maker), (Maker.reads b k m).2.1.records = m.records + (Maker.reads b k m).1.length ∧ (Maker.reads b k m).2.1.p = m.p := by
  intro k
  induction k with
  | zero => intro m; simp [Maker.reads]
  | succ k ih =>
    intro m
    rw [Maker.reads]
    split
    · simp
    · simp
    · rename_i x m' hn
      have h3 := Maker.next_records hn
      have := ih m'
      simp only [List.length_cons]
      exact ⟨by omega, by rw [this.2, h3.2.1]⟩

theorem Maker.reads_le (b : Bs) : ∀ (k : Nat) (m : Maker), m.records ≤ 10000 → (Maker.reads b k m).2.1.records ≤ 10000 := by
  intro k
  induction k with
  | zero => intro m h; simpa [Maker.reads] using h
  | succ k ih =>
    intro m h
    rw [Maker.reads]
    split
    · exact h
    · exact h
    · rename_i x m' hn
      have h3 := Maker.next_records hn
      exact ih m' (by omega)

/-- What stands in a beginning is read in the whole, too, and on from there. -/
theorem Maker.reads_agree {b b' : Bs} {N : Nat} : ∀ (k : Nat) (m : Maker), m.records ≤ 10000 → 10000 < k + m.records → Agree N b b' → (Maker.reads b k m).2.1.size ≤ N → m.size ≤ b.length →
    ∃ j, j + (Maker.reads b k m).1.length = k ∧ Maker.reads b' k m = ((Maker.reads b k m).1 ++ (Maker.reads b' j (Maker.reads b k m).2.1).1, (Maker.reads b' j (Maker.reads b k m).2.1).2) := by
  intro k
  induction k with
  | zero => intro m h1 h2; omega
  | succ k ih =>
    intro m h1 h2 hb hN hs
    rw [Maker.reads] at hN ⊢
    cases hn : m.next b with
    | none_ =>
      simp only [hn] at hN ⊢
      exact ⟨k + 1, by simp, by simp⟩
    | fault f =>
      simp only [hn] at hN ⊢
      exact ⟨k + 1, by simp, by simp⟩
    | some x m' =>
      simp only [hn] at hN ⊢
      have h3 := Maker.next_records hn
      have h4 := Maker.next_ok hn
      have h5 := Maker.reads_size b k m' (by omega) (by omega)
      have h6 := Maker.next_agree hn hb (by omega)
      obtain ⟨j, hj, hr⟩ := ih m' (by omega) (by omega) hb hN (by omega)
      refine ⟨j, ?_, ?_⟩
      · simp only [List.length_cons]; omega
      · rw [Maker.reads, h6]
        simp only [hr, List.cons_append]

/-! ### one form: what is read is what would be written -/
theorem numN_small {n : Nat} (h : n < 128) : numN n = [UInt8.ofNat n] := by rw [numN, dif_pos h]
theorem numN_great {n : Nat} (h : 128 ≤ n) : numN n = UInt8.ofNat (n % 128 + 128) :: numN (n / 128) := by rw [numN, dif_neg (by omega)]

theorem rdGo_form : ∀ (l : Bs) (i n a k : Nat), rdGo i n l = .ok a k → ∃ v, a = n + 128 ^ i * v ∧ l.take (k - i) = numN v ∧ (0 < i → 0 < v) := by
  intro l
  induction l with
  | nil => intro i n a k h; simp [rdGo] at h
  | cons c r ih =>
    intro i n a k h
    have hk := (rdGo_ok _ _ _ _ _ h).1
    rw [rdGo] at h
    split at h
    · simp at h
    · rename_i h1
      split at h
      · rename_i h2
        injection h with ha hk'
        subst ha; subst hk'
        refine ⟨c.toNat, ?_, ?_, ?_⟩
        · rw [Nat.mod_eq_of_lt h2, Nat.mul_comm]
        · rw [numN_small h2, show i + 1 - i = 1 by omega]; simp
        · intro hi
          rcases Nat.eq_zero_or_pos c.toNat with h0 | h0
          · exact absurd (.inl ⟨h0, hi⟩) h1
          · exact h0
      · rename_i h2
        obtain ⟨v, hv, hl, hp⟩ := ih _ _ _ _ h
        have hc : c.toNat < 256 := c.toNat_lt
        have hv0 := hp (by omega)
        refine ⟨c.toNat % 128 + 128 * v, ?_, ?_, fun _ => by omega⟩
        · rw [hv, Nat.mul_add, Nat.pow_succ, Nat.mul_assoc, Nat.mul_comm (128 ^ i) (c.toNat % 128)]; omega
        · rw [numN_great (by omega), show k - i = (k - (i + 1)) + 1 by omega, List.take_succ_cons, hl]
          congr 1
          · rw [show (c.toNat % 128 + 128 * v) % 128 + 128 = c.toNat by omega]; simp
          · congr 1; omega

theorem rdGo_bound : ∀ (l : Bs) (i n a k : Nat), rdGo i n l = .ok a k → i ≤ 8 → n < 128 ^ i → a ≤ 4611686018427387903 ∧ k ≤ 9 := by
  intro l
  induction l with
  | nil => intro i n a k h; simp [rdGo] at h
  | cons c r ih =>
    intro i n a k h hi hn
    have hc : c.toNat < 256 := c.toNat_lt
    have hn' : n + c.toNat % 128 * 128 ^ i < 128 ^ (i + 1) := by
      have h1 : c.toNat % 128 ≤ 127 := by omega
      have h2 := Nat.mul_le_mul_right (128 ^ i) h1
      rw [Nat.pow_succ]; omega
    rw [rdGo] at h
    split at h
    · simp at h
    · rename_i h1
      split at h
      · rename_i h2
        injection h with ha hk'
        subst ha; subst hk'
        refine ⟨?_, by omega⟩
        rcases Nat.lt_or_ge i 8 with h8 | h8
        · have h3 : 128 ^ (i + 1) ≤ 128 ^ 8 := Nat.pow_le_pow_right (by omega) (by omega)
          have h4 : (128 : Nat) ^ 8 = 72057594037927936 := by decide
          omega
        · have : i = 8 := by omega
          subst this
          rcases Nat.lt_or_ge 4611686018427387903 (n + c.toNat % 128 * 128 ^ 8) with h5 | h5
          · exact absurd (.inr ⟨rfl, .inr h5⟩) h1
          · exact h5
      · rename_i h2
        rcases Nat.lt_or_ge i 8 with h8 | h8
        · exact ih _ _ _ _ h (by omega) hn'
        · exact absurd (.inr ⟨by omega, .inl (by omega)⟩) h1

theorem rdB_form {b : Bs} {n len : Nat} (h : rdB b = .ok n len) : b.take len = numB n ∧ n ≤ 4611686018427387903 ∧ len ≤ 9 := by
  obtain ⟨v, hv, hl, _⟩ := rdGo_form _ _ _ _ _ h
  have hb := rdGo_bound _ _ _ _ _ h (by omega) (by simp)
  simp at hv hl
  subst hv
  refine ⟨?_, hb.1, hb.2⟩
  unfold numB mayN maxNumber
  rw [if_pos (by simp; omega), hl]
  simp

theorem take_parts (b : Bs) (i j k : Nat) : (b.drop i).take (j + k) = (b.drop i).take j ++ (b.drop (i + j)).take k := by
  rw [List.take_add, List.drop_drop]

theorem rdMany_form {b : Bs} : ∀ (k at_ : Nat) (l : List Int) (to : Nat), rdMany b k at_ = .ok (l, to) → l.length = k ∧ (b.drop at_).take (to - at_) = (l.map numB).flatten := by
  intro k
  induction k with
  | zero =>
    intro at_ l to h
    simp [rdMany] at h
    obtain ⟨rfl, rfl⟩ := h
    simp
  | succ k ih =>
    intro at_ l to h
    have h0 := (rdMany_ok _ _ _ _ h).1
    rw [rdMany] at h
    split at h
    · simp at h
    · rename_i n len hr
      split at h
      · simp at h
      · rename_i l' to' hm
        simp at h
        obtain ⟨rfl, rfl⟩ := h
        have h1 := rdMany_ok _ _ _ _ hm
        have h2 := ih _ _ _ hm
        refine ⟨by simp [h2.1], ?_⟩
        rw [show to' - at_ = len + (to' - (at_ + len)) by omega, take_parts, h2.2, (rdB_form hr).1]
        simp

theorem b3_n3 (a b c : UInt8) : b3 (n3 a b c) = [a, b, c] := by
  have ha := a.toNat_lt
  have hb := b.toNat_lt
  have hc := c.toNat_lt
  unfold b3 n3
  rw [show (((a.toNat : Int) + b.toNat * 256 + c.toNat * 65536) % 256).toNat = a.toNat by omega,
    show (((a.toNat : Int) + b.toNat * 256 + c.toNat * 65536) / 256 % 256).toNat = b.toNat by omega,
    show (((a.toNat : Int) + b.toNat * 256 + c.toNat * 65536) / 65536 % 256).toNat = c.toNat by omega]
  simp

theorem Seal.read_form {l : Bs} {s : Seal} (h : Seal.read l = .ok s) : l.take 6 = s.bytes ∧ s.right = true := by
  rcases l with _ | ⟨a, l⟩
  · cases h
  rcases l with _ | ⟨b, l⟩
  · cases h
  rcases l with _ | ⟨c, l⟩
  · cases h
  rcases l with _ | ⟨d, l⟩
  · cases h
  rcases l with _ | ⟨e, l⟩
  · cases h
  rcases l with _ | ⟨f, l⟩
  · cases h
  rw [Seal.read] at h
  split at h
  · rename_i hr
    injection h with h
    subst h
    refine ⟨?_, hr⟩
    unfold Seal.bytes
    rw [if_pos hr]
    simp [b3_n3]
  · cases h

theorem Pol.fields_of {k : Nat} {l : List Int} (hl : l.length = 7) (hk : k = 1 ∨ k = 2) : ((Pol.of k l).fields.map fun f => f.1) = (k : Int) :: l := by
  match l, hl with
  | [c, a, b, x, y, z, w], _ =>
    rcases hk with rfl | rfl <;> simp [Pol.of, Pol.fields]

theorem Pol.read_form {b : Bs} {p : Pol} {to : Nat} (h : Pol.read b = .ok (p, to)) : b.take to = p.header ∧ to = p.header.length ∧ 4 < to := by
  have hlen := (Pol.read_ok h).2.1
  rw [Pol.read] at h
  split at h
  · simp at h
  · rename_i h0
    split at h
    · simp at h
    · rename_i k len hk
      split at h
      · simp at h
      · rename_i h1
        split at h
        · simp at h
        · rename_i l at_ hm
          simp only at h
          split at h
          · simp at h
          · rename_i h2
            split at h
            · simp at h
            · rename_i s hs
              split at h
              · rename_i h3
                simp at h
                obtain ⟨rfl, rfl⟩ := h
                have g1 := rdMany_form _ _ _ _ hm
                have g2 := rdMany_ok _ _ _ _ hm
                have g3 := rdB_form hk
                have g4 := Seal.read_form hs
                have hf := Pol.fields_of (k := k) g1.1 (by omega)
                have e : b.take at_ = (Pol.of k l).body := by
                  have : b.take at_ = b.take 4 ++ ((b.drop 4).take len ++ (b.drop (4 + len)).take (at_ - (4 + len))) := by
                    rw [← take_parts, show at_ = 4 + (len + (at_ - (4 + len))) by omega]
                    conv => lhs; rw [List.take_add]
                    congr 2
                    omega
                  rw [this, Decidable.not_not.1 h0, g1.2, g3.1]
                  unfold Pol.body
                  congr 1
                  rw [show ((Pol.of k l).fields.map fun f => numB f.1) = ((Pol.of k l).fields.map fun f => f.1).map numB by simp, hf]
                  simp
                have e2 : b.take (at_ + 6) = (Pol.of k l).header := by
                  unfold Pol.header
                  rw [if_pos (by simpa using h2), List.take_add, e, g4.1, h3, e]
                refine ⟨e2, ?_, by omega⟩
                rw [← e2]
                simp
                omega
              · simp at h

theorem scanned_eq {b : Bs} {p : Pol} {to : Nat} (h : Pol.read b = .ok (p, to)) : scanned b = .ok (p, (Maker.reads (b.take 4194304) 10001 (Maker.begun p)).1, (Maker.reads (b.take 4194304) 10001 (Maker.begun p)).2.1.size) := by
  unfold scanned; rw [h]

/-- no header is long -/
theorem numN_len : ∀ (k n : Nat), n < 128 ^ (k + 1) → (numN n).length ≤ k + 1 := by
  intro k
  induction k with
  | zero => intro n h; rw [numN_small (by simpa using h)]; simp
  | succ k ih =>
    intro n h
    rcases Nat.lt_or_ge n 128 with h1 | h1
    · rw [numN_small h1]; simp
    · rw [numN_great h1]
      have := ih (n / 128) (by rw [Nat.div_lt_iff_lt_mul (by omega)]; rw [Nat.pow_succ] at h; exact h)
      simp; omega

theorem numB_len (n : Int) : (numB n).length ≤ 9 := by
  unfold numB mayN maxNumber
  split
  · rename_i h
    simp at h
    refine numN_len 8 _ ?_
    have : (128 : Nat) ^ (8 + 1) = 9223372036854775808 := by decide
    omega
  · simp

theorem Seal.bytes_len (s : Seal) : s.bytes.length ≤ 6 := by
  unfold Seal.bytes; split <;> simp [b3]

theorem flat_len (l : List Int) : ((l.map numB).flatten).length ≤ 9 * l.length := by
  induction l with
  | nil => simp
  | cons a l ih =>
    have := numB_len a
    simp only [List.map_cons, List.flatten_cons, List.length_append, List.length_cons]
    omega

theorem Pol.header_len (p : Pol) : p.header.length ≤ 82 := by
  unfold Pol.header
  split
  · have h1 := Seal.bytes_len (Seal.start.adds p.body)
    have h2 : p.body.length ≤ 76 := by
      unfold Pol.body
      have := flat_len (p.fields.map fun f => f.1)
      rw [List.map_map] at this
      have h3 : (p.fields.map fun f => f.1).length = 8 := by
        unfold Pol.fields; split <;> simp
      rw [h3] at this
      simp only [List.length_append, List.length_cons, List.length_nil]
      have h4 : (p.fields.map fun f => numB f.1) = (p.fields.map (numB ∘ fun f => f.1)) := rfl
      rw [h4]; omega
    simp; omega
  · simp

theorem scan_more {b : Bs} {x y : Nat} (hxy : x ≤ y) (hy : y ≤ b.length) {p : Pol} {l : List Rec} {n : Nat} (h : scanned (b.take x) = .ok (p, l, n)) :
    ∃ l2 m, scanned (b.take y) = .ok (p, l ++ l2, m) ∧ n ≤ m ∧ n ≤ x ∧ m ≤ y ∧ (n = m ↔ l2 = []) := by
  cases hp : Pol.read (b.take x) with
  | error f => simp [scanned, hp] at h
  | ok q =>
    obtain ⟨q, to⟩ := q
    rw [scanned_eq hp] at h
    simp only [Except.ok.injEq, Prod.mk.injEq] at h
    obtain ⟨rfl, rfl, rfl⟩ := h
    have h1 := Pol.read_ok hp
    have h2 := Pol.read_form hp
    have h3 := Pol.header_len q
    have hx : (b.take x).length = x := by simp; omega
    have hA : Agree (min x 4194304) ((b.take x).take 4194304) ((b.take y).take 4194304) := by
      rw [List.take_take, List.take_take, Nat.min_comm 4194304 x, Nat.min_comm 4194304 y]
      exact agree_take (by omega) (by omega)
    have hs : (Maker.begun q).size ≤ ((b.take x).take 4194304).length := by
      rw [hx] at h1
      show q.header.length ≤ _
      simp
      omega
    have hlen : ((b.take x).take 4194304).length = min x 4194304 := by simp; omega
    have hlen' : ((b.take y).take 4194304).length = min y 4194304 := by simp; omega
    have h4 := Maker.reads_size ((b.take x).take 4194304) 10001 (Maker.begun q) (by show 0 ≤ 10000; omega) hs
    obtain ⟨j, hj, hr⟩ := Maker.reads_agree (b' := (b.take y).take 4194304) 10001 (Maker.begun q) (by show 0 ≤ 10000; omega) (by omega) hA (by omega) hs
    have hp' : Pol.read (b.take y) = .ok (q, to) := h1.2.2 _ x (agree_take hxy hy) (by rw [hx] at h1; exact h1.2.1)
    have h6 := Maker.reads_records ((b.take x).take 4194304) 10001 (Maker.begun q)
    have h7 : (Maker.begun q).records = 0 := rfl
    have h8 : (Maker.reads ((b.take x).take 4194304) 10001 (Maker.begun q)).2.1.records ≤ 10000 := Maker.reads_le _ _ _ (by show 0 ≤ 10000; omega)
    have h5 := Maker.reads_size ((b.take y).take 4194304) j (Maker.reads ((b.take x).take 4194304) 10001 (Maker.begun q)).2.1 h8 (by omega)
    refine ⟨_, _, by rw [scanned_eq hp', hr], h5.1, by omega, by omega, ?_⟩
    rw [h5.2.2]
    exact ⟨fun h => h.symm, fun h => h.symm⟩

theorem decode_of_scanned {b : Bs} {p : Pol} {l : List Rec} {n : Nat} (h : scanned b = .ok (p, l, n)) : n ≤ b.length ∧ n ≤ 4194304 ∧ decode (b.take n) = .ok (p, l) ∧ scanned (b.take n) = .ok (p, l, n) := by
  cases hp : Pol.read b with
  | error f => simp [scanned, hp] at h
  | ok q =>
    obtain ⟨q, to⟩ := q
    rw [scanned_eq hp] at h
    simp only [Except.ok.injEq, Prod.mk.injEq] at h
    obtain ⟨rfl, hl, hn⟩ := h
    have h1 := Pol.read_ok hp
    have h2 := Pol.read_form hp
    have h3 := Pol.header_len q
    have hr0 : (Maker.begun q).records ≤ 10000 := by show 0 ≤ 10000; omega
    have hs : (Maker.begun q).size ≤ (b.take 4194304).length := by
      show q.header.length ≤ _
      simp
      omega
    have h4 := Maker.reads_size (b.take 4194304) 10001 (Maker.begun q) hr0 hs
    have hto : (Maker.begun q).size = to := h2.2.1.symm
    rw [hn] at h4
    have hlen : (b.take 4194304).length = min b.length 4194304 := by simp; omega
    have hA : Agree n (b.take 4194304) (b.take n) := ⟨h4.2.1, by simp; omega, by rw [List.take_take, List.take_take]; congr 1; omega⟩
    obtain ⟨j, hj, hr⟩ := Maker.reads_agree (b' := b.take n) 10001 (Maker.begun q) hr0 (by omega) hA (by omega) hs
    have hend : (Maker.reads (b.take 4194304) 10001 (Maker.begun q)).2.1.next (b.take n) = .none_ := by
      rw [Maker.next, if_pos]
      rw [hn]; simp; omega
    have hj2 : Maker.reads (b.take n) j (Maker.reads (b.take 4194304) 10001 (Maker.begun q)).2.1 = ([], (Maker.reads (b.take 4194304) 10001 (Maker.begun q)).2.1, none) := by
      cases j with
      | zero => rw [Maker.reads]
      | succ j => rw [Maker.reads, hend]
    rw [hj2, List.append_nil, hl] at hr
    have hpn : Pol.read (b.take n) = .ok (q, to) := h1.2.2 _ n ⟨by omega, by simp; omega, by rw [List.take_take]; congr 1; omega⟩ (by omega)
    refine ⟨by omega, by omega, ?_, ?_⟩
    · unfold decode openR
      rw [if_neg (by simp; omega), hpn]
      simp only [hr]
      rfl
    · rw [scanned_eq hpn, List.take_take, Nat.min_eq_right (by omega), hr]
      simp only [hn]

/-- What decodes is scanned whole. -/
theorem scanned_of_decode {b : Bs} {p : Pol} {l : List Rec} (h : decode b = .ok (p, l)) : b.length ≤ 4194304 ∧ scanned b = .ok (p, l, b.length) := by
  unfold decode openR at h
  by_cases hb : b.length > 4194304
  · rw [if_pos hb] at h; simp at h
  rw [if_neg hb] at h
  cases hp : Pol.read b with
  | error f => simp [hp] at h
  | ok q =>
    obtain ⟨q, to⟩ := q
    have hr0 : (Maker.begun q).records ≤ 10000 := by show 0 ≤ 10000; omega
    have hend := Maker.reads_end b 10001 (Maker.begun q) hr0 (by omega)
    rw [hp] at h
    simp only at h
    split at h
    · rename_i l' m' hr
      simp only [Except.ok.injEq, Prod.mk.injEq] at h
      obtain ⟨rfl, rfl⟩ := h
      rw [hr] at hend
      simp only at hend
      rw [Maker.next] at hend
      split at hend
      · rename_i hsz
        refine ⟨by omega, ?_⟩
        rw [scanned_eq hp, List.take_of_length_le (by omega), hr]
        simp only [hsz]
        rfl
      · exfalso
        split at hend
        · simp at hend
        · split at hend
          · simp at hend
          · simp only at hend
            split at hend
            · simp at hend
            · split at hend <;> simp at hend
    · simp at h

theorem decode_scanned_error {b : Bs} {f : Fault} (h : scanned b = .error f) : ∀ r, decode b ≠ .ok r := by
  intro ⟨p, l⟩ hd
  rw [(scanned_of_decode hd).2] at h
  simp at h

theorem scan_longest {b : Bs} {p : Pol} {l : List Rec} {n : Nat} (h : scanned b = .ok (p, l, n)) {to : Nat} (h1 : n < to) (h2 : to ≤ b.length) : ∀ r, decode (b.take to) ≠ .ok r := by
  intro ⟨q, l'⟩ hd
  have hs := scanned_of_decode hd
  have hl : (b.take to).length = to := by simp; omega
  rw [hl] at hs
  obtain ⟨l2, m, hm, h3, h4, h5, h6⟩ := scan_more (b := b) (x := to) (y := b.length) h2 (Nat.le_refl _) hs.2
  rw [List.take_length, h] at hm
  simp only [Except.ok.injEq, Prod.mk.injEq] at hm
  omega

end Rv
