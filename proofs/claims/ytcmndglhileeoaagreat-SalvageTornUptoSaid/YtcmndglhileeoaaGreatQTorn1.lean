/- A tape that is written record by record; what its beginnings are when read. No walk. -/
import Derived.Test.YtcmndglhileeoaaGreatQTorn0
import Derived.Test.YtcmndglhileeoaaGreatQSalBToAwake
set_option linter.unusedSimpArgs false
set_option linter.unusedVariables false
namespace Go.Proofs.YtcmndglhileeoaaGreat
open Go.RowKit

structure TInv (m : Rv.Maker) : Prop where
  ok : MOk m
  c : Rv.CInv m.coder
  t : 0 ≤ m.coder.tick
theorem TInv.begin {p : Rv.Pol} (h : p.ok = true) : TInv (Rv.Maker.begun p) := ⟨MOk.begun h, Rv.CInv.begin h, Int.le_refl _⟩
theorem mput_parts {m m' : Rv.Maker} {r : Rv.Rec} {ps : List Rv.Bs} (hp : m.put r = .ok (m', ps)) :
    ∃ s, r.right = 0 ∧ m.coder.tick ≤ r.tick ∧ m.adds r (m.coder.put r).1 (m.coder.put r).2 = (s, true) ∧ m.records ≠ 10000 ∧ m' = m.done r s ∧ ps.flatten = s.piece ++ s.check ++ s.trailer ∧ s.piece = (m.coder.put r).2 ∧ s.coder = (m.coder.put r).1 := by
  by_cases h0 : m.coder.putE r = 0
  · obtain ⟨hr, ht⟩ := putE_zero h0
    obtain ⟨⟨s, b⟩, hs⟩ : ∃ s, m.adds r (m.coder.put r).1 (m.coder.put r).2 = s := ⟨_, rfl⟩
    by_cases hb : b = false ∨ m.records = 10000
    · rw [put_big h0 rfl hs hb] at hp; cases hp
    · have hbt : b = true := by cases b <;> simp_all
      subst hbt
      have hn : m.records ≠ 10000 := fun e => hb (.inr e)
      rw [put_fits h0 rfl hs hn] at hp
      simp only [Except.ok.injEq, Prod.mk.injEq] at hp
      obtain ⟨rfl, rfl⟩ := hp
      obtain ⟨q1, q2, q3, q4, q5⟩ := adds_parts hs
      refine ⟨s, hr, ht, hs, hn, rfl, ?_, q1, q2⟩
      have ht0 : s.ends = false → s.trailer = [] := fun e => by
        by_cases hbb : addSize m r (m.coder.put r).2 > 4194304
        · rw [adds_big _ hbb] at hs; cases hs
        · rw [adds_fit _ hbb] at hs
          injection hs with hs1 hs2
          subst hs1
          show addTr m r _ = []
          unfold addTr
          have e' : addEnds m = false := e
          rw [e']; rfl
      cases he : s.ends
      · rw [ht0 he]
        split
        · rename_i hc; rw [hc]; simp
        · simp
      · split
        · rename_i hc; rw [hc]; simp
        · simp
  · rw [put_bad h0] at hp; cases hp
theorem TInv.put {m m' : Rv.Maker} {r : Rv.Rec} {ps : List Rv.Bs} (h : TInv m) (hp : m.put r = .ok (m', ps)) : TInv m' := by
  obtain ⟨s, hr, ht, hs, hn, rfl, hf, q1, q2⟩ := mput_parts hp
  refine ⟨(mput_ok h.ok hp).1, ?_, ?_⟩
  · show Rv.CInv s.coder
    rw [q2]
    exact h.c.put hr
  · show 0 ≤ s.coder.tick
    rw [q2]
    exact (rec_right hr).1
theorem prefix_app (x y : Rv.Bs) : x.isPrefixOf (x ++ y) = true := by rw [List.isPrefixOf_iff_prefix]; exact List.prefix_append x y
/-- A record that was written is read again, with its pieces. -/
theorem mnext_put {m m' : Rv.Maker} {r : Rv.Rec} {ps : List Rv.Bs} {b pre rest : Rv.Bs} (h : TInv m) (hp : m.put r = .ok (m', ps)) (hb : b = pre ++ (ps.flatten ++ rest)) (hpre : pre.length = m.size) : m.next b = .some r m' := by
  obtain ⟨s, hr, ht, hs, hn, rfl, hf, q1, q2⟩ := mput_parts hp
  rw [hf] at hb
  have hpos : 0 < s.piece.length := by
    rw [q1]
    obtain ⟨a0, a1, a2, a3, a4, a5⟩ := rec_right hr
    have ht0 := h.t
    have hx := Rv.numB_pos' (n := 4 * (r.tick - m.coder.tick) + r.verdict) (by omega) (by omega)
    unfold Rv.Coder.put
    simp only [List.length_append]
    omega
  have hlen : b.length = pre.length + (s.piece.length + s.check.length + s.trailer.length + rest.length) := by rw [hb]; simp; omega
  have hget := Rv.coder_get_put (c := m.coder) (r := r) (b := b) (pre := pre) (rest := s.check ++ s.trailer ++ rest) h.c hr ht h.t (by rw [hb, q1]; simp)
  rw [hpre, ← q1] at hget
  have hd0 : b.drop m.size = s.piece ++ (s.check ++ (s.trailer ++ rest)) := by rw [hb, ← hpre, List.drop_left]; simp
  have hd1 : b.drop (m.size + s.piece.length) = s.check ++ (s.trailer ++ rest) := by rw [← List.drop_drop, hd0, List.drop_left]
  have hd2 : b.drop (m.size + s.piece.length + s.check.length) = s.trailer ++ rest := by rw [← List.drop_drop, hd1, List.drop_left]
  have hpc : (b.drop m.size).take (m.size + s.piece.length - m.size) = s.piece := by rw [hd0, Nat.add_sub_cancel_left, List.take_left]
  rw [← q1] at hs
  unfold Rv.Maker.next
  rw [if_neg (by omega), if_neg hn, hget]
  simp only [hpc, hs]
  rw [if_neg, if_neg]
  · unfold Rv.standsAt
    rw [hd2, prefix_app]
    simp
  · unfold Rv.standsAt
    rw [hd1, prefix_app]
    simp

/-- A tape as it was written: its records, where each ended, its writer, its bytes. -/
inductive Wr (p : Rv.Pol) : List Rv.Rec → List Nat → Rv.Maker → Rv.Bs → Prop
  | nil : p.ok = true → Wr p [] [p.header.length] (Rv.Maker.begun p) p.header
  | snoc {l es m b r m' ps} : Wr p l es m b → m.put r = .ok (m', ps) → Wr p (l ++ [r]) (es ++ [(b ++ ps.flatten).length]) m' (b ++ ps.flatten)
theorem Wr.inv {p : Rv.Pol} {l : List Rv.Rec} {es : List Nat} {m : Rv.Maker} {b : Rv.Bs} (h : Wr p l es m b) : p.ok = true ∧ TInv m ∧ m.p = p ∧ m.records = l.length ∧ m.size = b.length ∧ es.length = l.length + 1 ∧ b.length ≤ 4194304 ∧ (∃ t, b = p.header ++ t) ∧ es[0]? = some p.header.length ∧ es[l.length]? = some b.length := by
  induction h with
  | nil h => exact ⟨h, TInv.begin h, rfl, rfl, rfl, rfl, (MOk.begun h).z1, ⟨[], by simp⟩, rfl, rfl⟩
  | @snoc l es m b r m' ps hw hp ih =>
    obtain ⟨k0, k1, k2, k3, k4, k5, k6, ⟨t, kt⟩, k7, k8⟩ := ih
    have hi := k1.put hp
    obtain ⟨_, j2, j3, j4, j5, j6⟩ := mput_ok k1.ok hp
    have hz := hi.ok.z1
    refine ⟨k0, hi, j2.trans k2, by rw [j3, k3]; simp, by rw [j4, k4, List.length_append], by simp [k5], by rw [List.length_append, ← k4, ← j4]; exact hz, ⟨t ++ ps.flatten, by rw [kt]; simp⟩, ?_, ?_⟩
    · rw [List.getElem?_append_left (by omega)]; exact k7
    · have e : (l ++ [r]).length = es.length := by rw [k5]; simp
      rw [e, List.getElem?_append_right (Nat.le_refl _)]
      simp
/-- A tape in its first w records. -/
theorem Wr.cut {p : Rv.Pol} {l : List Rv.Rec} {es : List Nat} {m : Rv.Maker} {b : Rv.Bs} (h : Wr p l es m b) : ∀ w, w ≤ l.length → ∃ mw bw, Wr p (l.take w) (es.take (w + 1)) mw bw ∧ es[w]? = some bw.length ∧ (∃ t, b = bw ++ t) ∧ (w < l.length → ∃ r m1, mw.next b = .some r m1 ∧ es[w + 1]? = some m1.size) := by
  induction h with
  | nil h =>
    intro w hw
    obtain rfl : w = 0 := by simpa using hw
    exact ⟨_, _, .nil h, rfl, ⟨[], by simp⟩, by simp⟩
  | @snoc l es m b r m' ps hw hp ih =>
    intro w hle
    obtain ⟨k0, k1, k2, k3, k4, k5, k6, kt, k7, k8⟩ := hw.inv
    rcases Nat.lt_or_ge w l.length with hlt | hge
    · obtain ⟨mw, bw, h1, h2, ⟨t, h3⟩, h4⟩ := ih w (by omega)
      refine ⟨mw, bw, ?_, ?_, ⟨t ++ ps.flatten, by rw [h3]; simp⟩, fun _ => ?_⟩
      · rw [List.take_append_of_le_length (by omega), List.take_append_of_le_length (by omega)]
        exact h1
      · rw [List.getElem?_append_left (by omega)]; exact h2
      · obtain ⟨r', m1, h6, h7⟩ := h4 hlt
        obtain ⟨j0, j1, j2, j3, j4, j5, j6, jt, j7, j8⟩ := h1.inv
        have h8 := mnext_ok j1.ok k6 (by rw [h3, List.length_append, j4]; omega) h6
        have hA : Rv.Agree b.length b (b ++ ps.flatten) := ⟨Nat.le_refl _, by rw [List.length_append]; omega, by rw [List.take_length, List.take_left]⟩
        refine ⟨r', m1, Rv.Maker.next_agree h6 hA h8.2.1, ?_⟩
        rw [List.getElem?_append_left (by omega)]; exact h7
    rcases Nat.lt_or_ge l.length w with hgt | hle2
    · obtain rfl : w = l.length + 1 := by simp at hle; omega
      refine ⟨m', b ++ ps.flatten, ?_, ?_, ⟨[], by simp⟩, fun h => by simp at h⟩
      · rw [List.take_of_length_le (by simp), List.take_of_length_le (by simp; omega)]
        exact .snoc hw hp
      · rw [← k5, List.getElem?_append_right (Nat.le_refl _)]
        simp
    · obtain rfl : w = l.length := by omega
      refine ⟨m, b, ?_, ?_, ⟨ps.flatten, rfl⟩, fun _ => ⟨r, m', mnext_put k1 hp (pre := b) (rest := []) (by simp) k4.symm, ?_⟩⟩
      · rw [List.take_left, ← k5, List.take_left]
        exact hw
      · rw [List.getElem?_append_left (by omega)]; exact k8
      · rw [← k5, List.getElem?_append_right (Nat.le_refl _)]
        have j4 := (mput_ok k1.ok hp).2.2.2.1
        simp [j4, k4]

/-- Reading a beginning of a tape: so many records, and no more. -/
theorem Wr.reads {p : Rv.Pol} {l : List Rv.Rec} {es : List Nat} {m : Rv.Maker} {b : Rv.Bs} (h : Wr p l es m b) {B : Rv.Bs} (hB : B.length ≤ 4194304) : (∃ t, B = b ++ t) → ReadTo B p m l := by
  induction h with
  | nil h =>
    rintro ⟨t, rfl⟩
    exact ReadTo.begin (Rv.header_read t h)
  | @snoc l es m b r m' ps hw hp ih =>
    rintro ⟨t, rfl⟩
    obtain ⟨k0, k1, k2, k3, k4, k5, k6, kt, k7, k8⟩ := hw.inv
    have h1 := ih ⟨ps.flatten ++ t, by simp⟩
    exact h1.step hB (mnext_put k1 hp (pre := b) (rest := t) (by simp) k4.symm)
theorem scanned_reads {B : Rv.Bs} {p : Rv.Pol} {m : Rv.Maker} {l : List Rv.Rec} {tt : Nat} (hl : B.length ≤ 4194304) (hp : Rv.Pol.read B = .ok (p, tt)) (h : ReadTo B p m l) (hn : ∀ x m1, m.next B ≠ .some x m1) : Rv.scanned B = .ok (p, l, m.size) := by
  rw [Rv.scanned_eq hp, List.take_of_length_le hl]
  cases hx : m.next B with
  | none_ => rw [h.stop hx]
  | fault f => rw [h.fall hx]
  | some x m1 => exact absurd hx (hn x m1)
/-- THE PLAIN LAW: of a torn tape just the records are kept whose pieces stand there whole. -/
theorem torn {p : Rv.Pol} {l : List Rv.Rec} {es : List Nat} {m : Rv.Maker} {b : Rv.Bs} (h : Wr p l es m b) {n w : Nat} (hn : n ≤ b.length) (hw : w < es.length) (he : ∀ e, es[w]? = some e → e ≤ n) (hnext : ∀ e, es[w + 1]? = some e → n < e) :
    Rv.scanned (b.take n) = .ok (p, l.take w, es.getD w 0) := by
  obtain ⟨k0, k1, k2, k3, k4, k5, k6, ⟨t0, kt⟩, k7, k8⟩ := h.inv
  obtain ⟨mw, bw, h1, h2, ⟨t, h3⟩, h4⟩ := h.cut w (by omega)
  obtain ⟨j0, j1, j2, j3, j4, j5, j6, ⟨t1, jt⟩, j7, j8⟩ := h1.inv
  have hle := he _ h2
  have hlen : (b.take n).length = n := by rw [List.length_take]; omega
  have hpre : b.take n = bw ++ t.take (n - bw.length) := by
    rw [h3, List.take_append]
    rw [List.take_of_length_le hle]
  have hrd := h1.reads (B := b.take n) (by omega) ⟨_, hpre⟩
  have hpol : Rv.Pol.read (b.take n) = .ok (p, p.header.length) := by
    rw [hpre, jt, List.append_assoc]
    exact Rv.header_read _ k0
  have hsz : mw.size = es.getD w 0 := by
    rw [j4]
    simp [List.getD, h2]
  rw [← hsz]
  refine scanned_reads (by omega) hpol hrd (fun x m1 hx => ?_)
  have hmn := mnext_ok j1.ok (by omega) (by omega) hx
  rcases Nat.lt_or_ge w l.length with h5 | h5
  · obtain ⟨r', m2, h6, h7⟩ := h4 h5
    have hA : Rv.Agree n (b.take n) b := ⟨by omega, hn, by rw [List.take_take, Nat.min_self]⟩
    have h8 := Rv.Maker.next_agree hx hA (by omega)
    rw [h6] at h8
    injection h8 with h9 h10
    subst h10
    have := hnext _ h7
    omega
  · obtain rfl : w = l.length := by omega
    rw [k8] at h2
    injection h2 with h2
    omega
theorem torn_head {p : Rv.Pol} {l : List Rv.Rec} {es : List Nat} {m : Rv.Maker} {b : Rv.Bs} (h : Wr p l es m b) {n : Nat} (hn : n < p.header.length) : ∃ f, Rv.scanned (b.take n) = .error f := by
  obtain ⟨k0, k1, k2, k3, k4, k5, k6, ⟨t0, kt⟩, k7, k8⟩ := h.inv
  have hbl : p.header.length ≤ b.length := by rw [kt, List.length_append]; omega
  have hlen : (b.take n).length = n := by rw [List.length_take]; omega
  cases hp : Rv.Pol.read (b.take n) with
  | error f => exact ⟨f, by unfold Rv.scanned; rw [hp]⟩
  | ok q =>
    obtain ⟨q, t⟩ := q
    exfalso
    have h1 := Rv.Pol.read_ok hp
    have h2 := h1.2.2 b n ⟨by omega, by omega, by rw [List.take_take, Nat.min_self]⟩ (by omega)
    have h3 := Rv.header_read t0 k0
    rw [← kt, h2] at h3
    simp only [Except.ok.injEq, Prod.mk.injEq] at h3
    omega
end Go.Proofs.YtcmndglhileeoaaGreat
