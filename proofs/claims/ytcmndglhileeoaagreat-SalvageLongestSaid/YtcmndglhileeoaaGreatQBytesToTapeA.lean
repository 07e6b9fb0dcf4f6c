/- A part of the proof: its texts in a row: Bytes, TapeA. Each text's own remark stands at its head. -/
import Derived.Test.YtcmndglhileeoaaGreatQKeysToKeys2
/- The walks of package ledger: Bytes and its closure. -/
set_option linter.unusedSimpArgs false
set_option linter.unusedVariables false
namespace Go.Proofs.YtcmndglhileeoaaGreat
open Go.RowKit
open Rv (HP Sat Same pt allOf sat_all RdIn row own findE SMap)

/-- A variable that holds bytes of its own. -/
def outP (g : Nat) (xs : List UInt8) : HP := fun h => ∃ B C, (pt g (.cells #[.slice B xs.length C] 22) * bytesP (.slice B xs.length C) xs) h
theorem outP_open {w : World} {R : HP} {g : Nat} {xs : List UInt8} (h : Sat w (outP g xs * R)) : ∃ B C, Sat w (pt g (.cells #[.slice B xs.length C] 22) * (bytesP (.slice B xs.length C) xs * R)) := by
  obtain ⟨a, b, ⟨B, C, ha⟩, hb, hd, h1, h2⟩ := h.parts
  exact ⟨B, C, (Rv.Sat.of_parts ha hb hd h1 h2).perm (Rv.star_assoc _ _ _)⟩
theorem outP_shut {w : World} {R : HP} {g : Nat} {xs : List UInt8} {B : Option Addr} {C : Nat} (h : Sat w (pt g (.cells #[.slice B xs.length C] 22) * (bytesP (.slice B xs.length C) xs * R))) : Sat w (outP g xs * R) := by
  rw [← Rv.star_assoc] at h
  exact h.imp (fun a ha => ⟨B, C, ha⟩)

set_option maxHeartbeats 1000000 in
set_option maxRecDepth 100000 in
theorem bput_any (w : World) (R : HP) (g : Nat) (xs : List UInt8) (n : Int) (ys : List UInt8) (hy : xs ++ Rv.numB n = ys) (h : Sat w (outP g xs * R)) (hl : xs.length ≤ 1099511627776) :
    Calls Tryz.prog 90 #[.int .i64 n, .pointer (some ⟨g, 0, none⟩)] w fun e w' => e = .returned (.tuple #[]) ∧ Sat w' (outP g ys * R) ∧ Same w w' := by
  obtain ⟨B, C, hs⟩ := outP_open h
  have H := Lib.hid hs
  have HY := Lib.hid hy
  clear h hs hy
  go_enter Tryz.func90, Tryz.ntmps90
  go_wp2_with fail
  refine (number_any n w).mono ?_
  rintro e w2 ⟨v, rfl, ho, hb⟩
  generalize (if Rv.mayN n = true then (0 : Int) else 1) = er
  have S2 : Hid (Sat w2 (bytesP (.slice B xs.length C) xs * (pt g (.cells #[.slice B xs.length C] 22) * (bytesP v (Rv.numB n) * R)))) := Lib.hid ((bytesP_new H.out ho hb).perm (by ac_rfl))
  have Z2 := Lib.hid (Rv.Same.below hb)
  obtain ⟨A1, c1, rfl, -, -, hr1⟩ := ho.shape
  have HR1 := Lib.hid hr1
  have HN1 := Lib.hid ho.nilcap
  have hl2 := Rv.numB_len n
  have d0 : w2.cell? ⟨g, 0, none⟩ = some (.slice B xs.length C) := (cells_of S2.out.right.heap 0).trans rfl
  clear ho hb hr1
  go_wp2_with (at_builtin; refine sapp rfl (.tmp 10) (.tmp 11) 22 rfl Tryz.underlying22 infoB (.slice B xs.length C) xs (Rv.numB n) A1 _ c1 (by rfl) (by rfl) rfl S2.out HR1.out HN1.out ys.length (by rw [← HY.out, List.length_append]) (by rw [← HY.out, List.length_append]; omega) ?_; intro B3 c3 w3 h3 z3; rw [HY.out] at h3; have S3 := Lib.hid h3; have Z3 := Lib.hid z3; have d0 : w3.cell? ⟨g, 0, none⟩ = some (.slice B xs.length C) := (cells_of S3.out.right.heap 0).trans rfl; have f0 : w3.frozen? ⟨g, 0, none⟩ = false := frozen_of S3.out.right.heap 0; clear h3 z3)
  refine bodyPost_end (v := .tuple #[]) (by simp [results, Tryz.results90, go_sem]) rfl ⟨rfl, ?_, (Z2.out.then Z3.out).then (Kept.setCell (Kept.refl _ _) _ _ (.inl trivial))⟩
  exact outP_shut ((S3.out.swap.setCell (i := 0) (.slice B3 ys.length c3)).perm (show _ = pt g (.cells #[.slice B3 ys.length c3] 22) * (bytesP (.slice B3 ys.length c3) ys * (bytesP (.slice A1 _ c1) _ * R)) by rfl)).drop3

/-! ### Bytes -/
theorem len_map {w : World} {bm : Nat} {es : Array MapEntry} {clock : Nat} (hb : w.heap[bm]? = some (.map es clock)) (n : Nat) (hn : es.size = n) (ty : TypeId) : (Builtin.len_ #[154] ty #[.map (some bm)]).run Tryz.prog w = .ok (.int .i64 (n : Int)) w := by
  subst hn
  have : Tryz.prog.underlying 154 = some (.map _ _) := Tryz.underlying154
  simp [Builtin.len_, run_underlying this, Go.MapKept.run_getObj_map hb, goInt]
def entB (e : ByteArray × Rv.Debt) : List UInt8 := Rv.numB e.1.size ++ Rv.bytesOf e.1 ++ (e.2.numbers.map Rv.numB).flatten
def outK (l : Rv.Ledger) (k : Nat) : List UInt8 := Rv.numB l.of.length ++ ((l.of.take k).map entB).flatten
theorem outK_succ {l : Rv.Ledger} {k : Nat} {e : ByteArray × Rv.Debt} (h : l.of[k]? = some e) : outK l (k + 1) = outK l k ++ entB e := by
  obtain ⟨hk, he⟩ := List.getElem?_eq_some_iff.1 h
  unfold outK
  rw [List.take_succ_eq_append_getElem hk, he]
  simp
theorem outK_all (l : Rv.Ledger) : outK l l.of.length = l.bytes := by
  unfold outK Rv.Ledger.bytes
  rw [List.take_of_length_le (Nat.le_refl _)]
  rfl
theorem entB_len {e : ByteArray × Rv.Debt} (h : e.1.size ≤ 64) (hn : e.2.numbers.length ≤ 32) : (entB e).length ≤ 400 := by
  unfold entB
  have h1 := Rv.numB_len e.1.size
  have h2 := Rv.flat_len e.2.numbers
  have h3 : (Rv.bytesOf e.1).length = e.1.size := rfl
  simp only [List.length_append]
  omega
theorem outK_len {l : Rv.Ledger} (hk : ∀ e ∈ l.of, e.1.size ≤ 64 ∧ e.2.numbers.length ≤ 32) (k : Nat) (hkl : k ≤ l.of.length) : (outK l k).length ≤ 9 + 400 * k := by
  induction k with
  | zero => unfold outK; simp; exact Rv.numB_len _
  | succ k ih =>
    obtain ⟨e, he⟩ := some_at (xs := l.of) (i := k) (by omega)
    rw [outK_succ he, List.length_append]
    have := entB_len (hk e (List.mem_of_getElem? he)).1 (hk e (List.mem_of_getElem? he)).2
    have := ih (by omega)
    omega

theorem led_small {Q : HP} {l : Rv.Ledger} {es : Array MapEntry} {clock : Nat} (h : LOk Q l es clock) : ∀ e ∈ l.of, e.1.size ≤ 64 ∧ e.2.numbers.length ≤ 32 := by
  intro e he
  refine ⟨(h.keys e he).2, ?_⟩
  have hr := h.rel e.1
  rw [Rv.get_of h.sorted (show (e.1, e.2) ∈ l.of from he)] at hr
  cases hf : findE es.toList e.1 with
  | none => rw [hf] at hr; exact hr.elim
  | some v =>
    rw [hf] at hr
    have hd : DebtIn Q l.p v e.2 := hr
    cases hx : e.2 with
    | level n => simp [Rv.Debt.numbers]
    | sums s =>
      rw [hx] at hd
      obtain ⟨h1, h2, _⟩ := hd
      have := width_ok h.ok h1
      have := h2.len
      show s.l.length ≤ 32
      omega
theorem nums_succ {ys : List UInt8} {l : List Int} {j : Nat} {m : Int} (h : l[j]? = some m) : ys ++ ((l.take j).map Rv.numB).flatten ++ Rv.numB m = ys ++ ((l.take (j + 1)).map Rv.numB).flatten := by
  obtain ⟨hj, he⟩ := List.getElem?_eq_some_iff.1 h
  rw [List.take_succ_eq_append_getElem hj, he]
  simp
theorem led_entry {Q : HP} {l : Rv.Ledger} {es : Array MapEntry} {clock : Nat} (h : LOk Q l es clock) {key : ByteArray} {d : Rv.Debt} (he : (key, d) ∈ l.of) : ∃ v, DebtIn Q l.p v d ∧ findE es.toList key = some v := by
  have hr := h.rel key
  rw [Rv.get_of h.sorted he] at hr
  cases hf : findE es.toList key with
  | none => rw [hf] at hr; exact hr.elim
  | some v => rw [hf] at hr; exact ⟨v, hr, rfl⟩
/-- What stands in the outer loop of Bytes. -/
def ByMid (Q R : HP) (w wr : World) (g bm g3 : Nat) (l : Rv.Ledger) (es : Array MapEntry) (clock : Nat) (B : Option Addr) (c : Nat) (xs : List UInt8) (N : HP) : Prop :=
  Sat wr (outP g3 xs * (N * (row 9 (.slice B l.of.length c) (l.of.map fun e => .string e.1) * (ledBox g l bm * (mapBox bm es clock * (Q * R)))))) ∧ Same w wr

set_option maxHeartbeats 4000000 in
set_option maxRecDepth 100000 in
theorem lbytes_led (w : World) (Q R : HP) (g bm : Nat) (l : Rv.Ledger) (es : Array MapEntry) (clock : Nat) (hl : LOk Q l es clock) (h : Sat w (ledBox g l bm * (mapBox bm es clock * (Q * R)))) (hn : l.of.length ≤ 100000) :
    Calls Tryz.prog 45 #[.pointer (some ⟨g, 0, none⟩)] w fun e w' => ∃ B C, e = .returned (.slice B l.bytes.length C) ∧ Sat w' (bytesP (.slice B l.bytes.length C) l.bytes * (ledBox g l bm * (mapBox bm es clock * (Q * R)))) ∧ Same w w' := by
  have HL := Lib.hid hl
  have H := Lib.hid h
  have S0 : Hid (Sat (w.alloc (.cells #[.slice none 0 0] 22)) (outP w.heap.size [] * (ledBox g l bm * (mapBox bm es clock * (Q * R))))) := Lib.hid (outP_shut (B := none) (C := 0) (((h.row_nil 5).alloc (.cells #[.slice none 0 0] 22))))
  have Z0 : Hid (Same w (w.alloc (.cells #[.slice none 0 0] 22))) := Lib.hid (Same.of (Kept.alloc (Kept.refl (fun _ => False) _) _))
  have hlen := es_size hl
  clear h hl
  go_enter Tryz.func45, Tryz.ntmps45
  go_upto_region 3 with (fail)
  obtain ⟨w1, hw1⟩ : ∃ w1, w1 = w.alloc (.cells #[.slice none 0 0] 22) := ⟨_, rfl⟩
  rw [← hw1] at S0 Z0 ⊢
  clear hw1
  generalize w.heap.size = g3 at *
  obtain ⟨_, _, _, _, _, _, _, _, _, _, -, d11⟩ := led_twelve S0.out.right
  have hb1 := len_map (Rv.Sat.heap (o := .map es clock) S0.out.right.right) l.of.length hlen
  go_wp2_with fail
  refine (bput_any w1 _ g3 [] l.of.length (outK l 0) (by unfold outK; simp) S0.out (by simp)).mono ?_
  rintro e w2 ⟨rfl, s2, z2⟩
  have S2 := Lib.hid s2
  have Z2 := Lib.hid (Z0.out.then z2)
  clear s2 z2 S0 Z0 d11 hb1
  go_wp2_with fail
  refine (lkeys_any w2 Q (outP g3 (outK l 0) * (Q * R)) g bm l es clock HL.out (S2.out.perm (by ac_rfl)) hn).mono ?_
  rintro e w3 ⟨B, c, rfl, s3, z3⟩
  have M3 : Hid (ByMid Q R w w3 g bm g3 l es clock B c (outK l 0) 1) := Lib.hid ⟨by rw [Rv.one_star]; exact s3.perm (by ac_rfl), Z2.out.then z3⟩
  clear s3 z3 S2 Z2
  go_wp2_with fail
  have hkey : Hid (∀ e ∈ l.of, e.1.size ≤ 64 ∧ e.2.numbers.length ≤ 32) := Lib.hid (led_small HL.out)
  go_loopw [20] (fun i wr => ∃ k : Nat, k ≤ l.of.length ∧ i = .int .i64 k ∧ ∃ N, ByMid Q R w wr g bm g3 l es clock B c (outK l k) N) (fun i _ => l.of.length - (intOf i).toNat)
  case atStart => exact ⟨0, by omega, rfl, 1, M3.out⟩
  case round =>
    obtain ⟨k, hk, rfl, N0, hm⟩ := hrel
    have Hm := Lib.hid hm
    clear hm M3
    by_cases hlt : k < l.of.length
    · obtain ⟨⟨key, d⟩, he⟩ := some_at hlt
      have He := Lib.hid he
      have hkl := (hkey.out _ (List.mem_of_getElem? he)).1
      have hol := outK_len hkey.out k hk
      obtain ⟨A1, c1, he1, -, -, hr1⟩ := (Rv.Sat.row_own Hm.out.1.right.right).shape
      injection he1 with he1 he2 he3
      subst he1; subst he3
      obtain ⟨ad, rfl, hc⟩ := hr1 k (.string key) (by simp [he])
      clear he hr1 he2
      simp only at hkl
      obtain ⟨ys1, hys1⟩ : ∃ ys, outK l k ++ Rv.numB key.size = ys := ⟨_, rfl⟩
      obtain ⟨ys2, hys2⟩ : ∃ ys, ys1 ++ Rv.bytesOf key = ys := ⟨_, rfl⟩
      have hb1 := Rv.numB_len key.size
      have hl1 : ys1.length ≤ 1000000000 := by rw [← hys1, List.length_append]; omega
      have hl2 : ys1.length + key.size = ys2.length := by rw [← hys2, List.length_append]; rfl
      have Hys1 := Lib.hid hys1.symm
      have Hys2 := Lib.hid hys2.symm
      clear hys1 hys2
      go_wp2_with fail
      refine (bput_any wr _ g3 (outK l k) key.size ys1 Hys1.out.symm Hm.out.1 (by omega)).mono ?_
      rintro e w4 ⟨rfl, s4, z4⟩
      obtain ⟨B4, C4, s4⟩ := outP_open s4.drop2
      have S4 := Lib.hid s4
      have Z4 := Lib.hid (Hm.out.2.then z4)
      have d28 : w4.cell? ⟨g3, 0, none⟩ = some (.slice B4 ys1.length C4) := (cells_of S4.out.heap 0).trans rfl
      clear s4 z4 Hm hc
      go_upto_region 9 with (at_builtin; refine sapp_str rfl (.tmp 28) (.tmp 29) 22 9 rfl Tryz.underlying22 Tryz.underlying9 infoB (.slice B4 ys1.length C4) ys1 key (by rfl) (by rfl) S4.out.swap ys2.length hl2 (by omega) ?_; intro B5 c5 w5 h5 z5; rw [← Hys2.out] at h5; have S5 := Lib.hid h5; have Z5 := Lib.hid (Z4.out.then z5); have d28' : w5.cell? ⟨g3, 0, none⟩ = some (.slice B4 ys1.length C4) := (cells_of S5.out.right.heap 0).trans rfl; have f28 : w5.frozen? ⟨g3, 0, none⟩ = false := frozen_of S5.out.right.heap 0; clear h5 z5)
      have S6 : Hid (Sat (w5.setCell ⟨g3, 0, none⟩ (.slice B5 ys2.length c5)) (outP g3 ys2 * (row 9 (.slice (some ad) l.of.length c) (l.of.map fun e => .string e.1) * (ledBox g l bm * (mapBox bm es clock * (Q * R)))))) := Lib.hid (outP_shut (B := B5) (C := c5) ((S5.out.swap.setCell (i := 0) (.slice B5 ys2.length c5))))
      have Z6 : Hid (Same w (w5.setCell ⟨g3, 0, none⟩ (.slice B5 ys2.length c5))) := Lib.hid (Z5.out.then (Kept.setCell (Kept.refl _ _) _ _ (.inl trivial)))
      clear d28 d28' f28 S4 Z4 S5 Z5
      generalize w5.setCell ⟨g3, 0, none⟩ (.slice B5 ys2.length c5) = w5' at *
      clear w5
      obtain ⟨w5, rfl⟩ : ∃ w5 : World, w5 = w5' := ⟨_, rfl⟩
      have S5 := S6
      have Z5 := Z6
      clear S6 Z6
      have hlook := Rv.run_look (P := Tryz.prog) (w := w5) (t := 154) (k := 9) (e := 175) Tryz.underlying154 Tryz.underlying9 (Rv.Sat.heap (o := .map es clock) S5.out.right.right.right) HL.out.fit key zero_debt false
      obtain ⟨v, hdr, hfe⟩ := led_entry HL.out (List.mem_of_getElem? He.out)
      rw [hfe] at hlook
      simp only [Option.getD_some, Bool.false_eq_true, if_false] at hlook
      obtain ⟨_, _, _, _, _, _, _, _, _, _, -, d11⟩ := led_twelve S5.out.right.right
      clear hfe
      cases hd : d with
      | level n =>
        rw [hd] at hdr
        obtain ⟨a1, a2, a3, a4⟩ := hdr
        rw [a4] at hlook
        have hm := fun v w => meth_level v w "reeve/ledger.numbers" _ (.inl rfl)
        go_wp2_with fail
        refine (lnum_any n w5).mono ?_
        rintro e w' ⟨rfl, rfl⟩
        have S6 : Hid (Sat (w5.alloc (.cells #[.int .i64 n] 3)) (outP g3 ys2 * (pt w5.heap.size (.cells #[.int .i64 n] 3) * (row 9 (.slice (some ad) l.of.length c) (l.of.map fun e => .string e.1) * (ledBox g l bm * (mapBox bm es clock * (Q * R))))))) := Lib.hid ((S5.out.alloc (.cells #[.int .i64 n] 3)).swap)
        have Z6 : Hid (Same w (w5.alloc (.cells #[.int .i64 n] 3))) := Lib.hid (Z5.out.then (Same.of (Kept.alloc (Kept.refl (fun _ => False) _) _)))
        have HRd : Hid (RdIn (pt w5.heap.size (.cells #[.int .i64 n] 3) * (row 9 (.slice (some ad) l.of.length c) (l.of.map fun e => .string e.1) * (ledBox g l bm * (mapBox bm es clock * (Q * R))))) (some ⟨w5.heap.size, 0, none⟩) ([n].map intI)) := Lib.hid (Rv.RdIn.left (fun w' hw' j u hu => ⟨_, rfl, by
          have hj : j = 0 := by have := (List.getElem?_eq_some_iff.1 hu).1; simp at this; exact this
          subst hj
          cases hu
          rw [add_zero_off, cells_of hw'.one.heap]
          rfl⟩))
        generalize (w5.alloc (.cells #[.int .i64 n] 3)) = w6 at *
        generalize w5.heap.size = gn at *
        have HE : Hid (outK l (k + 1) = ys2 ++ ([n].map Rv.numB).flatten) := Lib.hid (by rw [outK_succ He.out, hd, Hys2.out, Hys1.out]; unfold entB; simp [Rv.Debt.numbers])
        have hnl : [n].length ≤ 32 := by have := (hkey.out _ (List.mem_of_getElem? He.out)).2; rw [hd] at this; exact this
        clear hlook S5 Z5 d11 hm hd
        go_wp2_with fail
        go_loopw [39] (fun i wr2 => ∃ j : Nat, j ≤ [n].length ∧ i = .int .i64 j ∧ Sat wr2 (outP g3 (ys2 ++ (([n].take j).map Rv.numB).flatten) * ((pt gn (.cells #[.int .i64 n] 3)) * (row 9 (.slice (some ad) l.of.length c) (l.of.map fun e => .string e.1) * (ledBox g l bm * (mapBox bm es clock * (Q * R)))))) ∧ Same w wr2) (fun i _ => [n].length - (intOf i).toNat)
        case atStart => exact ⟨0, by omega, rfl, by simpa using S6.out, Z6.out⟩
        case round =>
          obtain ⟨j, hj, rfl, hs7, hz7⟩ := hrel
          have S7 := Lib.hid hs7
          have Z7 := Lib.hid hz7
          clear hs7 hz7 S6 Z6
          by_cases hjl : j < [n].length
          · have hj1 : j < 1 := hjl
            obtain ⟨m, hm⟩ := some_at hjl
            obtain ⟨ad2, had2, hc2⟩ := HRd.out _ S7.out.right j (intI m) (by rw [List.getElem?_map, hm]; rfl)
            cases had2
            rw [add_zero_off] at hc2
            have hc3 : _ = some (Value.int .i64 m) := hc2
            clear hc2
            have HY : Hid (ys2 ++ (([n].take j).map Rv.numB).flatten ++ Rv.numB m = ys2 ++ (([n].take (j + 1)).map Rv.numB).flatten) := Lib.hid (nums_succ hm)
            have hfl := Rv.flat_len ([n].take j)
            have htl : ([n].take j).length ≤ j := List.length_take_le _ _
            clear hm
            go_wp2_with fail
            refine (bput_any _ _ g3 _ m _ HY.out S7.out (by rw [List.length_append]; omega)).mono ?_
            rintro e w8 ⟨rfl, s8, z8⟩
            have S8 := Lib.hid s8
            have Z8 := Lib.hid (Z7.out.then z8)
            clear s8 z8 S7 Z7 hc3
            go_wp2_with fail
            go_roundw
            case rel => exact ⟨j + 1, by omega, by go_num, S8.out, Z8.out⟩
            case measure => simp [intOf]; omega
          · obtain rfl : j = [n].length := by omega
            go_wp2_with fail
            go_roundw
            case rel => exact ⟨k + 1, by omega, by go_num, (pt gn (.cells #[.int .i64 n] 3)), by rw [HE.out]; exact (by simpa only [List.take_length] using S7.out), Z7.out⟩
            case measure => simp [intOf]; omega
      | sums s =>
        rw [hd] at hdr
        obtain ⟨a1, a2, A2, c2, a4, a5, a6⟩ := hdr
        rw [a4] at hlook
        have HR5 := Lib.hid a5
        have hm := fun v w => meth_sums v w "reeve/ledger.numbers" _ (.inl rfl)
        go_wp2_with fail
        refine (snum_any s A2 c2 w5).mono ?_
        rintro e w6 ⟨rfl, b6⟩
        have S6 : Hid (Sat w6 (outP g3 ys2 * (1 * (row 9 (.slice (some ad) l.of.length c) (l.of.map fun e => .string e.1) * (ledBox g l bm * (mapBox bm es clock * (Q * R))))))) := Lib.hid (by rw [Rv.one_star]; exact S5.out.below b6)
        have Z6 := Lib.hid (Z5.out.then (Rv.Same.below b6))
        clear b6
        have HRd : Hid (RdIn (1 * (row 9 (.slice (some ad) l.of.length c) (l.of.map fun e => .string e.1) * (ledBox g l bm * (mapBox bm es clock * (Q * R))))) A2 (s.l.map intI)) := Lib.hid (by rw [Rv.one_star]; exact Rv.RdIn.right (Rv.RdIn.right (Rv.RdIn.right (Rv.RdIn.left HR5.out))))
        have HE : Hid (outK l (k + 1) = ys2 ++ (s.l.map Rv.numB).flatten) := Lib.hid (by rw [outK_succ He.out, hd, Hys2.out, Hys1.out]; unfold entB; simp [Rv.Debt.numbers])
        have hnl : s.l.length ≤ 32 := by have := (hkey.out _ (List.mem_of_getElem? He.out)).2; rw [hd] at this; exact this
        clear hlook S5 Z5 d11 hm hd
        go_wp2_with fail
        go_loopw [39] (fun i wr2 => ∃ j : Nat, j ≤ s.l.length ∧ i = .int .i64 j ∧ Sat wr2 (outP g3 (ys2 ++ ((s.l.take j).map Rv.numB).flatten) * ((1 : HP) * (row 9 (.slice (some ad) l.of.length c) (l.of.map fun e => .string e.1) * (ledBox g l bm * (mapBox bm es clock * (Q * R)))))) ∧ Same w wr2) (fun i _ => s.l.length - (intOf i).toNat)
        case atStart => exact ⟨0, by omega, rfl, by simpa using S6.out, Z6.out⟩
        case round =>
          obtain ⟨j, hj, rfl, hs7, hz7⟩ := hrel
          have S7 := Lib.hid hs7
          have Z7 := Lib.hid hz7
          clear hs7 hz7 S6 Z6
          by_cases hjl : j < s.l.length
          · obtain ⟨m, hm⟩ := some_at hjl
            obtain ⟨ad2, had2, hc2⟩ := HRd.out _ S7.out.right j (intI m) (by rw [List.getElem?_map, hm]; rfl)
            subst had2
            have HY : Hid (ys2 ++ ((s.l.take j).map Rv.numB).flatten ++ Rv.numB m = ys2 ++ ((s.l.take (j + 1)).map Rv.numB).flatten) := Lib.hid (nums_succ hm)
            have hfl := Rv.flat_len (s.l.take j)
            have htl : (s.l.take j).length ≤ j := List.length_take_le _ _
            clear hm
            go_wp2_with fail
            refine (bput_any _ _ g3 _ m _ HY.out S7.out (by rw [List.length_append]; omega)).mono ?_
            rintro e w8 ⟨rfl, s8, z8⟩
            have S8 := Lib.hid s8
            have Z8 := Lib.hid (Z7.out.then z8)
            clear s8 z8 S7 Z7 hc2
            go_wp2_with fail
            go_roundw
            case rel => exact ⟨j + 1, by omega, by go_num, S8.out, Z8.out⟩
            case measure => simp [intOf]; omega
          · obtain rfl : j = s.l.length := by omega
            go_wp2_with fail
            go_roundw
            case rel => exact ⟨k + 1, by omega, by go_num, 1, by rw [HE.out]; exact (by simpa only [List.take_length] using S7.out), Z7.out⟩
            case measure => simp [intOf]; omega
    · obtain rfl : k = l.of.length := by omega
      have h7 := Hm.out.1
      rw [outK_all] at h7
      obtain ⟨B7, C7, h7⟩ := outP_open h7
      have S7 := Lib.hid h7
      have d28 : wr.cell? ⟨g3, 0, none⟩ = some (.slice B7 l.bytes.length C7) := (cells_of S7.out.heap 0).trans rfl
      have Z7 := Lib.hid Hm.out.2
      clear h7 Hm hkey
      go_wp2_with fail
      refine bodyPost_ret (v := .slice B7 l.bytes.length C7) (by simp [results, Tryz.results45, go_sem]) rfl ⟨B7, C7, rfl, S7.out.right.drop2.drop2, Z7.out⟩
theorem ledbytes_any (w : World) (Q R : HP) (g : Nat) (l : Rv.Ledger) (h : Sat w (ledP Q g l * (Q * R))) (hn : l.of.length ≤ 100000) :
    Calls Tryz.prog 45 #[.pointer (some ⟨g, 0, none⟩)] w fun e w' => ∃ B C, e = .returned (.slice B l.bytes.length C) ∧ Sat w' (bytesP (.slice B l.bytes.length C) l.bytes * (ledP Q g l * (Q * R))) ∧ Same w w' := by
  obtain ⟨bm, es, clock, hl, hs⟩ := ledP_open h
  refine (lbytes_led w Q R g bm l es clock hl hs hn).mono ?_
  rintro e w' ⟨B, C, he, s1, z1⟩
  exact ⟨B, C, he, (ledP_shut hl (s1.swap.perm (show _ = ledBox g l bm * (mapBox bm es clock * (bytesP (.slice B l.bytes.length C) l.bytes * (Q * R))) by ac_rfl))).swap, z1⟩
end Go.Proofs.YtcmndglhileeoaaGreat

/- The walks of package tape: apply. -/
set_option linter.unusedSimpArgs false
set_option linter.unusedVariables false
namespace Go.Proofs.YtcmndglhileeoaaGreat
open Go.RowKit
open Rv (HP Sat Same pt allOf sat_all RdIn row own)

def recA (r : Rv.Rec) : Array Value := #[.int .i64 r.tick, .string r.key, .int .i64 r.cost, .int .i64 r.verdict]
theorem rec_right {r : Rv.Rec} (h : r.right = 0) : 0 ≤ r.tick ∧ r.tick ≤ 1099511627776 ∧ Rv.keyOk r.key = true ∧ Rv.costOk r.cost = true ∧ 0 ≤ r.verdict ∧ r.verdict ≤ 2 := by
  unfold Rv.Rec.right at h
  split at h
  · simp at h
  split at h
  · simp at h
  split at h
  · simp at h
  split at h
  · simp at h
  rename_i h1 h2 h3 h4
  simp only [Bool.not_eq_false, Rv.tickOk, Rv.verdictOk, Rv.inB, Bool.and_eq_true, decide_eq_true_eq] at h1 h2 h3 h4
  exact ⟨h1.1, h1.2, h2, h3, h4.1, h4.2⟩

set_option maxHeartbeats 1000000 in
set_option maxRecDepth 100000 in
theorem apply_any (w : World) (Q R : HP) (g : Nat) (l : Rv.Ledger) (r : Rv.Rec) (h : Sat w (ledP Q g l * (Q * R))) (hr : r.right = 0) (ht : l.tick ≤ r.tick) :
    Calls Tryz.prog 44 #[.pointer (some ⟨g, 0, none⟩), .agg #[.int .i64 r.tick, .string r.key, .int .i64 r.cost, .int .i64 r.verdict]] w (LedRes Q R w g (Rv.applyL l r) (.tuple #[])) := by
  obtain ⟨h0, h1, h2, h3, h4, h5⟩ := rec_right hr
  have S0 : Hid (Sat (w.alloc (.cells #[.int .i64 r.tick, .string r.key, .int .i64 r.cost, .int .i64 r.verdict] 44)) (ledP Q g l * (Q * (pt w.heap.size (.cells #[.int .i64 r.tick, .string r.key, .int .i64 r.cost, .int .i64 r.verdict] 44) * R)))) := Lib.hid ((h.alloc _).perm (by ac_rfl))
  have Z0 : Hid (Same w (w.alloc (.cells #[.int .i64 r.tick, .string r.key, .int .i64 r.cost, .int .i64 r.verdict] 44))) := Lib.hid (Same.of (Kept.alloc (Kept.refl (fun _ => False) _) _))
  have HK := Lib.hid h2
  have HC := Lib.hid h3
  clear h h2 h3
  go_enter Tryz.func44, Tryz.ntmps44
  go_wp2_with fail
  refine (lmove_any _ Q _ g l r.tick S0.out ht h1).mono ?_
  rintro e w1 ⟨rfl, Q1, x1, s1, z1⟩
  have S1 := Lib.hid s1
  have X1 := Lib.hid x1
  have Z1 := Lib.hid (Z0.out.then z1)
  have q := (s1.perm (show _ = pt w.heap.size (.cells #[.int .i64 r.tick, .string r.key, .int .i64 r.cost, .int .i64 r.verdict] 44) * (ledP Q1 g (l.move r.tick) * (Q1 * R)) by ac_rfl)).heap
  have d1 : w1.cell? ⟨w.heap.size, 1, none⟩ = some (.string r.key) := (cells_of q 1).trans rfl
  have d2 : w1.cell? ⟨w.heap.size, 2, none⟩ = some (.int .i64 r.cost) := (cells_of q 2).trans rfl
  have d3 : w1.cell? ⟨w.heap.size, 3, none⟩ = some (.int .i64 r.verdict) := (cells_of q 3).trans rfl
  clear x1 s1 z1 S0 Z0 q
  generalize w.heap.size = gr at *
  by_cases hv : r.verdict = 1
  · have ea : Rv.applyL l r = (l.move r.tick).charge r.key r.cost := by unfold Rv.applyL; simp only [if_pos hv]
    have EA := Lib.hid ea
    clear ea
    have e1 : (r.verdict == 1) = true := by rw [hv]; rfl
    go_wp2_with fail
    refine (charge_any w1 Q1 _ g _ r.key r.cost S1.out HK.out HC.out).mono ?_
    rintro e w2 ⟨rfl, Q2, x2, s2, z2⟩
    go_wp2_with fail
    refine bodyPost_end (v := .tuple #[]) (by simp [results, Tryz.results44, go_sem]) rfl ⟨rfl, Q2, X1.out.then x2, ?_, Z1.out.then z2⟩
    rw [EA.out]
    exact (s2.perm (show _ = pt gr (.cells #[.int .i64 r.tick, .string r.key, .int .i64 r.cost, .int .i64 r.verdict] 44) * (ledP Q2 g ((l.move r.tick).charge r.key r.cost) * (Q2 * R)) by ac_rfl)).right
  · have ea : Rv.applyL l r = l.move r.tick := by unfold Rv.applyL; simp only [if_neg hv]
    have EA := Lib.hid ea
    clear ea
    have e1 : (r.verdict == 1) = false := by simpa using hv
    go_wp2_with fail
    refine bodyPost_end (v := .tuple #[]) (by simp [results, Tryz.results44, go_sem]) rfl ⟨rfl, Q1, X1.out, ?_, Z1.out⟩
    rw [EA.out]
    exact (S1.out.perm (show _ = pt gr (.cells #[.int .i64 r.tick, .string r.key, .int .i64 r.cost, .int .i64 r.verdict] 44) * (ledP Q1 g (l.move r.tick) * (Q1 * R)) by ac_rfl)).right
end Go.Proofs.YtcmndglhileeoaaGreat
