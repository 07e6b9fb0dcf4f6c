/- What is written is read again: numbers, headers, records; what a torn tape keeps. No walk. -/
import Derived.Test.YtcmndglhileeoaaGreatQTapeQ
set_option linter.unusedSimpArgs false
set_option linter.unusedVariables false
namespace Rv

theorem u8_of (k : Nat) (h : k < 256) : (UInt8.ofNat k).toNat = k := by rw [UInt8.toNat_ofNat']; omega
theorem rdGo_num (v : Nat) : ∀ (i acc : Nat) (rest : Bs), acc + v * 128 ^ i ≤ 4611686018427387903 → (0 < i → 0 < v) → i ≤ 8 → rdGo i acc (numN v ++ rest) = .ok (acc + v * 128 ^ i) (i + (numN v).length) := by
  induction v using Nat.strongRecOn with
  | _ v ih =>
    intro i acc rest hb hp hi
    by_cases h : v < 128
    · rw [numN_small h]
      have hc := u8_of v (by omega)
      show rdGo i acc (UInt8.ofNat v :: ([] ++ rest)) = _
      rw [rdGo]
      simp only [hc]
      have hm : v % 128 = v := Nat.mod_eq_of_lt h
      rw [hm, if_neg, if_pos h]
      · rfl
      · intro hx
        rcases hx with ⟨h1, h2⟩ | ⟨h1, h2 | h2⟩
        · have := hp h2; omega
        · omega
        · omega
    · rw [numN_great (by omega)]
      have hc := u8_of (v % 128 + 128) (by omega)
      show rdGo i acc (UInt8.ofNat (v % 128 + 128) :: (numN (v / 128) ++ rest)) = _
      rw [rdGo]
      simp only [hc]
      have hm : (v % 128 + 128) % 128 = v % 128 := by omega
      have hi8 : i ≠ 8 := by
        rintro rfl
        have h1 : 128 * 128 ^ 8 ≤ v * 128 ^ 8 := Nat.mul_le_mul_right _ (by omega)
        have h2 : (128 : Nat) * 128 ^ 8 = 9223372036854775808 := by decide
        omega
      have hpow : v * 128 ^ i = v % 128 * 128 ^ i + v / 128 * 128 ^ (i + 1) := by
        rw [Nat.pow_succ, Nat.mul_comm (128 ^ i) 128, ← Nat.mul_assoc, ← Nat.add_mul]
        congr 1
        omega
      rw [hm, if_neg, if_neg (by omega), ih (v / 128) (by omega) (i + 1) _ rest (by omega) (fun _ => by omega) (by omega)]
      · simp only [List.length_cons]
        congr 1
        · omega
        · omega
      · intro hx
        rcases hx with ⟨h1, h2⟩ | ⟨h1, h2⟩
        · omega
        · exact hi8 h1
theorem rdB_num (v : Nat) (rest : Bs) (h : v ≤ 4611686018427387903) : rdB (numN v ++ rest) = .ok v (numN v).length := by
  unfold rdB
  rw [rdGo_num v 0 0 rest (by simpa using h) (by omega) (by omega)]
  simp
theorem numB_nat (v : Nat) (h : v ≤ 4611686018427387903) : numB (v : Int) = numN v := by
  unfold numB mayN maxNumber
  rw [if_pos (by simp; omega)]
  simp
theorem rdB_numI {n : Int} (rest : Bs) (h0 : 0 ≤ n) (h : n ≤ 4611686018427387903) : rdB (numB n ++ rest) = .ok n.toNat (numB n).length := by
  obtain ⟨v, rfl⟩ := Int.eq_ofNat_of_zero_le h0
  rw [numB_nat v (by omega), rdB_num v rest (by omega)]
  simp
theorem numN_pos (v : Nat) : 0 < (numN v).length := by
  rcases Nat.lt_or_ge v 128 with h | h
  · rw [numN_small h]; simp
  · rw [numN_great h]; simp
theorem numB_pos' {n : Int} (h0 : 0 ≤ n) (h : n ≤ 4611686018427387903) : 0 < (numB n).length := by
  obtain ⟨v, rfl⟩ := Int.eq_ofNat_of_zero_le h0
  rw [numB_nat v (by omega)]
  exact numN_pos v

/-! ### the header -/
theorem rdMany_num (l : List Int) : ∀ (pre rest b : Bs), b = pre ++ ((l.map numB).flatten ++ rest) → (∀ x ∈ l, 0 ≤ x ∧ x ≤ 4611686018427387903) → rdMany b l.length pre.length = .ok (l, pre.length + ((l.map numB).flatten).length) := by
  induction l with
  | nil => intro pre rest b hb hx; simp [rdMany]
  | cons x l ih =>
    intro pre rest b hb hx
    obtain ⟨h0, h1⟩ := hx x (by simp)
    have hd : b.drop pre.length = numB x ++ ((l.map numB).flatten ++ rest) := by
      rw [hb, List.drop_left]
      simp
    rw [List.length_cons, rdMany, hd, rdB_numI _ h0 h1]
    simp only
    have h2 := ih (pre ++ numB x) rest b (by rw [hb]; simp) (fun y hy => hx y (by simp [hy]))
    rw [List.length_append] at h2
    rw [h2]
    simp only [List.map_cons, List.flatten_cons, List.length_append]
    congr 2
    · congr 1
      omega
    · omega
theorem n3_b3 (n : Int) (h0 : 0 ≤ n) (h : n < 16777216) : ∃ x y z, b3 n = [x, y, z] ∧ n3 x y z = n := by
  refine ⟨_, _, _, rfl, ?_⟩
  unfold n3
  rw [u8_of _ (by omega), u8_of _ (by omega), u8_of _ (by omega)]
  omega
theorem seal_read_bytes (s : Seal) (rest : Bs) (h : s.right = true) : Seal.read (s.bytes ++ rest) = .ok s ∧ s.bytes.length = 6 := by
  have h' := h
  unfold Seal.right at h
  simp only [Bool.and_eq_true, decide_eq_true_eq] at h
  obtain ⟨x, y, z, e1, e2⟩ := n3_b3 s.re (by omega) (by omega)
  obtain ⟨x', y', z', e3, e4⟩ := n3_b3 s.im (by omega) (by omega)
  unfold Seal.bytes
  rw [if_pos h', e1, e3]
  refine ⟨?_, rfl⟩
  show Seal.read (x :: y :: z :: x' :: y' :: z' :: rest) = _
  rw [Seal.read]
  simp only [e2, e4]
  rw [if_pos h']

/-- The seven numbers behind a policy's kind. -/
def Pol.seven (p : Pol) : List Int := [p.cap] ++ (if p.kind = 1 then [p.num, p.den] else [p.width, p.count]) ++ [p.keys, p.slots, p.every, p.seg]
theorem ok_facts {p : Pol} (h : p.ok = true) : (p.kind = 1 ∧ p.width = 0 ∧ p.count = 0 ∨ p.kind = 2 ∧ p.num = 0 ∧ p.den = 0) ∧ (∀ x ∈ p.seven, 0 ≤ x ∧ x ≤ 4611686018427387903) ∧ p.fields.map (fun f => f.1) = p.kind :: p.seven ∧ p.seven.length = 7 ∧ Pol.of p.kind p.seven = p := by
  unfold Pol.ok at h
  rw [Bool.and_eq_true] at h
  obtain ⟨h1, h2⟩ := h
  simp only [Bool.or_eq_true, Bool.and_eq_true, decide_eq_true_eq] at h1
  have h1' : (p.kind = 1 ∧ p.width = 0 ∧ p.count = 0 ∨ p.kind = 2 ∧ p.num = 0 ∧ p.den = 0) := by
    rcases h1 with ⟨⟨a, b⟩, c⟩ | ⟨⟨a, b⟩, c⟩
    · exact .inl ⟨a, b, c⟩
    · exact .inr ⟨a, b, c⟩
  refine ⟨h1', ?_⟩
  obtain ⟨kind, cap, num, den, width, count, keys, slots, every, seg⟩ := p
  simp only at h1'
  rcases h1' with ⟨rfl, rfl, rfl⟩ | ⟨rfl, rfl, rfl⟩
  · simp only [Pol.fields, if_true, List.all_append, List.all_cons, List.all_nil, inB, Bool.and_true, Bool.and_eq_true, decide_eq_true_eq] at h2
    refine ⟨?_, by simp [Pol.fields, Pol.seven], by simp [Pol.seven], by simp [Pol.of, Pol.seven]⟩
    intro x hx
    simp only [Pol.seven, if_true, List.mem_append, List.mem_cons, List.not_mem_nil, or_false] at hx
    rcases hx with ((rfl | (rfl | rfl)) | (rfl | rfl | rfl | rfl)) <;> omega
  · simp only [Pol.fields, List.all_append, List.all_cons, List.all_nil, inB, Bool.and_true, Bool.and_eq_true, decide_eq_true_eq] at h2
    rw [if_neg (by omega)] at h2
    simp only [List.all_cons, List.all_nil, Bool.and_true, Bool.and_eq_true, decide_eq_true_eq] at h2
    refine ⟨?_, by simp [Pol.fields, Pol.seven], by simp [Pol.seven], by simp [Pol.of, Pol.seven]⟩
    intro x hx
    simp only [Pol.seven] at hx
    rw [if_neg (by omega)] at hx
    simp only [List.mem_append, List.mem_cons, List.not_mem_nil, or_false] at hx
    rcases hx with ((rfl | (rfl | rfl)) | (rfl | rfl | rfl | rfl)) <;> omega
theorem header_read {p : Pol} (rest : Bs) (h : p.ok = true) : Pol.read (p.header ++ rest) = .ok (p, p.header.length) := by
  obtain ⟨hk, hs, hf, hl, hof⟩ := ok_facts h
  have hbody : p.body = [82, 69, 69, 76] ++ (numB p.kind ++ (p.seven.map numB).flatten) := by
    unfold Pol.body
    congr 1
    rw [show (p.fields.map fun f => numB f.1) = (p.fields.map fun f => f.1).map numB by simp, hf]
    simp
  have hright : (Seal.start.adds p.body).right = true := Go.Proofs.YtcmndglhileeoaaGreat.adds_right rfl _
  obtain ⟨hsr, hsl⟩ := seal_read_bytes (Seal.start.adds p.body) rest hright
  have hh : p.header = p.body ++ (Seal.start.adds p.body).bytes := by unfold Pol.header; rw [if_pos h]
  obtain ⟨kn, hkn, hkk⟩ : ∃ kn : Nat, p.kind = (kn : Int) ∧ (kn = 1 ∨ kn = 2) := by
    rcases hk with ⟨h1, _⟩ | ⟨h1, _⟩
    · exact ⟨1, h1, .inl rfl⟩
    · exact ⟨2, h1, .inr rfl⟩
  have hkb : numB p.kind = numN kn := by rw [hkn, numB_nat kn (by omega)]
  have hfull : p.header ++ rest = [82, 69, 69, 76] ++ (numN kn ++ ((p.seven.map numB).flatten ++ ((Seal.start.adds p.body).bytes ++ rest))) := by
    rw [hh, hbody, hkb]; simp
  have hd4 : (p.header ++ rest).drop 4 = numN kn ++ ((p.seven.map numB).flatten ++ ((Seal.start.adds p.body).bytes ++ rest)) := by rw [hfull]; rfl
  have hpre : (4 + (numN kn).length) = ([82, 69, 69, 76] ++ numN kn : Bs).length := by simp; omega
  have hmany := rdMany_num p.seven ([82, 69, 69, 76] ++ numN kn) ((Seal.start.adds p.body).bytes ++ rest) (p.header ++ rest) (by rw [hfull]; simp) hs
  rw [hl, ← hpre] at hmany
  have hbl : 4 + (numN kn).length + ((p.seven.map numB).flatten).length = p.body.length := by rw [hbody, hkb]; simp; omega
  rw [hbl] at hmany
  rw [Pol.read, if_neg (by rw [hfull]; simp), hd4, rdB_num kn _ (by omega)]
  simp only
  rw [if_neg (by omega), hmany]
  simp only
  rw [← hkn, hof, if_neg (by rw [h]; simp)]
  have hdb : (p.header ++ rest).drop p.body.length = (Seal.start.adds p.body).bytes ++ rest := by rw [hh, List.append_assoc, List.drop_left]
  have htb : (p.header ++ rest).take p.body.length = p.body := by rw [hh, List.append_assoc, List.take_left]
  rw [hdb, hsr]
  simp only
  rw [htb, if_pos rfl, hh, List.length_append, hsl]

/-! ### a record -/
structure CInv (c : Coder) : Prop where
  c0 : 0 ≤ c.cost
  c1 : c.cost ≤ 1048576
  few : c.d.keys.length ≤ c.d.room
  room : c.d.room ≤ 64
theorem CInv.begin {p : Pol} (h : p.ok = true) : CInv (Coder.new p) := ⟨by simp [Coder.new], by simp [Coder.new], by simp [Coder.new, Dict.new], by
  have := (Go.Proofs.YtcmndglhileeoaaGreat.slots_ok h).2
  show p.slots.toNat ≤ 64
  omega⟩
theorem CInv.put {c : Coder} {r : Rec} (h : CInv c) (hr : r.right = 0) : CInv (c.put r).1 := by
  have h1 := (Go.Proofs.YtcmndglhileeoaaGreat.rec_right hr).2.2.2.1
  unfold costOk inB at h1
  simp only [Bool.and_eq_true, decide_eq_true_eq] at h1
  refine ⟨by show 0 ≤ r.cost; omega, h1.2, ?_, ?_⟩
  · show (c.d.use r.key).1.keys.length ≤ (c.d.use r.key).1.room
    unfold Dict.use
    split
    · exact h.few
    · split
      · show (c.d.keys ++ [r.key]).length ≤ c.d.room
        simp
        omega
      · show (c.d.keys.set _ r.key).length ≤ c.d.room
        rw [List.length_set]
        exact h.few
  · show (c.d.use r.key).1.room ≤ 64
    unfold Dict.use
    split
    · exact h.room
    · split
      · exact h.room
      · exact h.room
theorem zag_zig {n : Int} (h0 : -2305843009213693952 ≤ n) (h1 : n ≤ 2305843009213693951) : 0 ≤ (zig n).1 ∧ (zig n).1 ≤ 4611686018427387903 ∧ (zag ((zig n).1.toNat : Int)).1 = n := by
  unfold zig
  rw [if_neg (by omega)]
  by_cases h : n < 0
  · rw [if_pos h]
    refine ⟨by simp only; omega, by simp only; omega, ?_⟩
    simp only
    rw [Int.toNat_of_nonneg (by omega)]
    unfold zag mayN maxNumber
    rw [if_neg (by simp; omega), if_pos (by omega)]
    simp only
    omega
  · rw [if_neg h]
    refine ⟨by simp only; omega, by simp only; omega, ?_⟩
    simp only
    rw [Int.toNat_of_nonneg (by omega)]
    unfold zag mayN maxNumber
    rw [if_neg (by simp; omega), if_neg (by omega)]
    simp only
    omega
theorem find_some {d : Dict} {key : ByteArray} {s : Nat} (h : d.find key = some s) : s < d.keys.length ∧ d.keys.getD s ByteArray.empty = key := by
  haveI := ba_lawful
  unfold Dict.find at h
  split at h
  · rename_i hlt
    injection h with h
    subst h
    refine ⟨hlt, ?_⟩
    have e : d.keys.getD (d.keys.idxOf key) ByteArray.empty = d.keys[d.keys.idxOf key]'hlt := by simp [List.getD, hlt]
    rw [e]
    exact List.getElem_idxOf hlt
  · cases h
/-- A key that was written is read again. -/
theorem dict_get_use {d : Dict} {key : ByteArray} {b pre rest : Bs} (hk : keyOk key = true) (hn : d.keys.length ≤ 64)
    (hb : b = pre ++ ((if (d.use key).2.2 then numB (1 + ((d.use key).2.1 : Int)) else numB 0 ++ numB key.size ++ bytesOf key) ++ rest)) :
    d.get b pre.length = .ok ((d.use key).1, key, pre.length + (if (d.use key).2.2 then numB (1 + ((d.use key).2.1 : Int)) else numB 0 ++ numB key.size ++ bytesOf key).length) := by
  have hd : b.drop pre.length = (if (d.use key).2.2 then numB (1 + ((d.use key).2.1 : Int)) else numB 0 ++ numB key.size ++ bytesOf key) ++ rest := by rw [hb, List.drop_left]
  unfold keyOk at hk
  simp only [Bool.and_eq_true, decide_eq_true_eq] at hk
  cases hf : d.find key with
  | some s =>
    obtain ⟨hs1, hs2⟩ := find_some hf
    have hu : d.use key = (d.used s, s, true) := by unfold Dict.use; rw [hf]
    rw [hu] at hd ⊢
    simp only [if_true] at hd ⊢
    have e1 : (1 + (s : Int)) = ((1 + s : Nat) : Int) := by omega
    rw [e1, numB_nat _ (by omega)] at hd ⊢
    rw [Dict.get, hd, rdB_num _ _ (by omega)]
    simp only
    rw [if_pos (by omega)]
    have ht : d.touch (1 + s - 1) = some (d.used s, key) := by
      have e2 : 1 + s - 1 = s := by omega
      unfold Dict.touch
      rw [e2, if_pos hs1, hs2]
    rw [ht]
  | none =>
    have hu : (d.use key).2.2 = false := by
      unfold Dict.use
      rw [hf]
      simp only
      split <;> rfl
    rw [hu] at hd ⊢
    simp only [Bool.false_eq_true, if_false] at hd ⊢
    have e0 : numB 0 = numN 0 := numB_nat 0 (by omega)
    have hb2 : (bytesOf key).length = key.size := rfl
    rw [e0, numB_nat key.size (by omega)] at hd ⊢
    have hd0 : b.drop pre.length = numN 0 ++ (numN key.size ++ (bytesOf key ++ rest)) := by rw [hd]; simp
    have hd1 : b.drop (pre.length + (numN 0).length) = numN key.size ++ (bytesOf key ++ rest) := by rw [← List.drop_drop, hd0, List.drop_left]
    have hd2 : b.drop (pre.length + (numN 0).length + (numN key.size).length) = bytesOf key ++ rest := by rw [← List.drop_drop, hd1, List.drop_left]
    have hlen : pre.length + (numN 0).length + (numN key.size).length + key.size ≤ b.length := by
      have h1 := congrArg List.length hd2
      simp only [List.length_drop, List.length_append, hb2] at h1
      omega
    rw [Dict.get, hd0, rdB_num 0 _ (by omega)]
    simp only
    rw [if_neg (by omega), hd1, rdB_num key.size _ (by omega)]
    simp only
    rw [if_neg (by omega), if_neg (by omega), hd2]
    have htk : (bytesOf key ++ rest).take key.size = bytesOf key := by rw [← hb2, List.take_left]
    rw [htk]
    have hkey : (⟨(bytesOf key).toArray⟩ : ByteArray) = key := by cases key; simp [bytesOf]
    rw [hkey, hf]
    simp only [Option.isSome_none, Bool.false_eq_true, if_false, List.length_append, hb2]
    congr 3
    omega
/-- A record that was written is read again. -/
theorem coder_get_put {c : Coder} {r : Rec} {b pre rest : Bs} (hc : CInv c) (hr : r.right = 0) (ht : c.tick ≤ r.tick) (h0 : 0 ≤ c.tick) (hb : b = pre ++ ((c.put r).2 ++ rest)) :
    c.get b pre.length = .ok ((c.put r).1, r, pre.length + (c.put r).2.length) := by
  obtain ⟨q0, q1, q2, q3, q4, q5⟩ := Go.Proofs.YtcmndglhileeoaaGreat.rec_right hr
  have q3' := q3
  unfold costOk inB at q3
  simp only [Bool.and_eq_true, decide_eq_true_eq] at q3
  have hc0 := hc.c0
  have hc1 := hc.c1
  obtain ⟨z0, z1, z2⟩ := zag_zig (n := r.cost - c.cost) (by omega) (by omega)
  obtain ⟨K, hK⟩ : ∃ K, (if (c.d.use r.key).2.2 then numB (1 + ((c.d.use r.key).2.1 : Int)) else numB 0 ++ numB r.key.size ++ bytesOf r.key) = K := ⟨_, rfl⟩
  have hput : (c.put r).2 = numB (4 * (r.tick - c.tick) + r.verdict) ++ numB (zig (r.cost - c.cost)).1 ++ K := by
    rw [← hK]; rfl
  obtain ⟨n, hn⟩ : ∃ n : Nat, 4 * (r.tick - c.tick) + r.verdict = (n : Int) := ⟨(4 * (r.tick - c.tick) + r.verdict).toNat, by omega⟩
  obtain ⟨z, hz⟩ : ∃ z : Nat, (zig (r.cost - c.cost)).1 = (z : Int) := ⟨(zig (r.cost - c.cost)).1.toNat, by omega⟩
  rw [hn, hz, numB_nat n (by omega), numB_nat z (by omega)] at hput
  rw [hz] at z2
  simp only [Int.toNat_natCast] at z2
  rw [hput] at hb ⊢
  have hd0 : b.drop pre.length = numN n ++ (numN z ++ (K ++ rest)) := by rw [hb, List.drop_left]; simp
  have hd1 : b.drop (pre.length + (numN n).length) = numN z ++ (K ++ rest) := by rw [← List.drop_drop, hd0, List.drop_left]
  have hpre : pre.length + (numN n).length + (numN z).length = (pre ++ numN n ++ numN z).length := by simp; omega
  have hg := dict_get_use (d := c.d) (key := r.key) (b := b) (pre := pre ++ numN n ++ numN z) (rest := rest) q2 (by have := hc.few; have := hc.room; omega) (by rw [hK, hb]; simp)
  rw [hK, ← hpre] at hg
  rw [Coder.get, hd0, rdB_num n _ (by omega)]
  simp only
  have e4 : ((n % 4 : Nat) : Int) = r.verdict := by omega
  have e5 : c.tick + ((n / 4 : Nat) : Int) = r.tick := by omega
  rw [if_neg (by omega), e5, if_neg (by unfold tickOk inB; simp; omega), hd1, rdB_num z _ (by omega)]
  simp only
  have e6 : c.cost + (zag (z : Int)).1 = r.cost := by rw [z2]; omega
  rw [e6, if_neg (by rw [q3']; simp), hg]
  simp only [e4, List.length_append]
  congr 3
  omega
end Rv
