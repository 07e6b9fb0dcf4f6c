/- Walks of package record: New, Coder.key. -/
import Derived.Test.YtcmndglhileeoaaGreatQSepRToSepB
import Derived.Test.YtcmndglhileeoaaGreatQRead2
set_option linter.unusedSimpArgs false
set_option linter.unusedVariables false
namespace Go.Proofs.YtcmndglhileeoaaGreat
open Go.RowKit
open Rv (HP Sat Same pt allOf sat_all RdIn row own)

set_option maxHeartbeats 1000000 in
set_option maxRecDepth 100000 in
theorem rnew_bad (p : Rv.Pol) (w : World) (h : p.ok = false) :
    Calls Tryz.prog 35 #[.agg (polCells p)] w fun e w' => e = .returned (.tuple #[.pointer none, .int .i64 40]) ∧ Below w.heap.size w w' := by
  have HB := Lib.hid (fun o => (Below.refl w.heap.size w).alloc (Nat.le_refl _) o)
  have HR := Lib.hid (right_40 h)
  clear h
  go_enter Tryz.func35, Tryz.ntmps35
  go_wp2_with ((with_reducible refine at_slot 7 ?_); refine wpList_load_row rfl 33 (.tmp 1) rfl w.heap.size (by rfl) 33 (polCells p) (0, 0) _ (heap_alloc_new w _) Tryz.underlying33 (by rfl) info_pol ?_)
  refine (pright_any p _).mono ?_
  rintro e w1 ⟨rfl, b1⟩
  rw [HR.out]
  have B1 := Lib.hid (below_then (HB.out _) (by simp) b1)
  clear b1
  go_wp2_with fail
  go_ret2
  exact ⟨rfl, B1.out⟩

theorem slots_ok {p : Rv.Pol} (h : p.ok = true) : 1 ≤ p.slots ∧ p.slots ≤ 64 := by
  have h1 : (p.fields.all fun f => Rv.inB f.1 f.2.1 f.2.2) = true := by
    unfold Rv.Pol.ok at h
    exact (Bool.and_eq_true_iff.1 h).2
  have h2 := (all_iff p (kind_ok h)).1 h1 5 (by omega) 7 1 64 (by unfold tabOf; split <;> rfl)
  exact h2

set_option maxHeartbeats 1000000 in
set_option maxRecDepth 100000 in
theorem rnew_ok (R : HP) (p : Rv.Pol) (w : World) (hR : Sat w R) (h : p.ok = true) :
    Calls Tryz.prog 35 #[.agg (polCells p)] w fun e w' => ∃ g, e = .returned (.tuple #[.pointer (some ⟨g, 0, none⟩), .int .i64 0]) ∧ Sat w' (coderP g (Rv.Coder.new p) * R) ∧ Same w w' := by
  have S0 := Lib.hid (hR.alloc (.cells (polCells p) 33))
  have Z0 : Hid (Same w (w.alloc (.cells (polCells p) 33))) := Lib.hid (Same.of (Kept.alloc (Kept.refl (fun _ => False) _) _))
  have Hok := Lib.hid h
  have HR := Lib.hid (right_0 h)
  clear h hR
  go_enter Tryz.func35, Tryz.ntmps35
  go_wp2_with ((with_reducible refine at_slot 7 ?_); refine wpList_load_row rfl 33 (.tmp 1) rfl w.heap.size (by rfl) 33 (polCells p) (0, 0) _ (heap_alloc_new w _) Tryz.underlying33 (by rfl) info_pol ?_)
  refine (pright_any p _).mono ?_
  rintro e w1 ⟨rfl, b1⟩
  rw [HR.out]
  have S1 := Lib.hid (S0.out.below b1)
  have Z1 := Lib.hid (Z0.out.then (Rv.Same.below b1))
  have c7 : w1.cell? ⟨w.heap.size, 7, none⟩ = some (.int .i64 p.slots) := by rw [cells_of S1.out.heap]; rfl
  clear b1 S0 Z0
  go_wp2_with fail
  obtain ⟨q0, q1⟩ := slots_ok Hok.out
  have hs : p.slots = ((p.slots.toNat : Nat) : Int) := by omega
  rw [hs]
  refine (snew_dict w1 _ p.slots.toNat S1.out (by omega) (by omega)).mono ?_
  rintro e w2 ⟨gd, rfl, s2, z2⟩
  have S2 := Lib.hid (s2.alloc (.cells #[.pointer (some ⟨gd, 0, none⟩), .int .i64 0, .int .i64 0] 108))
  have Z2 := Lib.hid ((Z1.out.then z2).then (Same.of (Kept.alloc (Kept.refl (fun _ => False) _) (.cells #[.pointer (some ⟨gd, 0, none⟩), .int .i64 0, .int .i64 0] 108))))
  clear s2 z2 S1 Z1 c7 hs
  go_wp2_with fail
  go_ret2
  exact ⟨_, rfl, (coderP_shut (c := Rv.Coder.new p) ⟨by show (0 : Int) ≤ 0; omega, by show (0 : Int) ≤ _; omega, by show (0 : Int) ≤ 0; omega, by show (0 : Int) ≤ _; omega⟩ S2.out.drop3), Z2.out⟩

/-- What Coder.key tells. -/
def KeyRes (R : HP) (w : World) (g gd : Nat) (c : Rv.Coder) (r : Except Rv.Fault (Rv.Dict × ByteArray × Nat)) (e : Ending) (w' : World) : Prop := match r with
  | .error f => e = .returned (.tuple #[.string ⟨#[]⟩, .int .i64 0, .int .i64 f.at_, .int .i64 f.code]) ∧ w = w'
  | .ok (d, key, to) => e = .returned (.tuple #[.string key, .int .i64 (to : Int), .int .i64 0, .int .i64 0]) ∧ Sat w' (pt g (.cells #[.pointer (some ⟨gd, 0, none⟩), .int .i64 c.tick, .int .i64 c.cost] 108 (0, 0)) * (dictP gd d * R)) ∧ Same w w'

theorem RdB.dropAt {w : World} {ad : Addr} {xs : List UInt8} (h : RdB w (some ad) xs) (i : Nat) : RdB w (some (ad.add i)) (xs.drop i) := fun j c hj => by
  rw [List.getElem?_drop] at hj
  obtain ⟨ad', e, hc⟩ := h _ _ hj
  cases e
  exact ⟨_, rfl, by rw [add_add]; exact hc⟩
theorem dget_bad {d : Rv.Dict} {xs : Rv.Bs} {at_ : Nat} {e : Int} (h : Rv.rdB (xs.drop at_) = .bad e) : d.get xs at_ = .error ⟨e, at_⟩ := by unfold Rv.Dict.get; rw [h]
theorem dget_pos {d : Rv.Dict} {xs : Rv.Bs} {at_ n len : Nat} (h : Rv.rdB (xs.drop at_) = .ok n len) (hn : 0 < n) : d.get xs at_ = match d.touch (n - 1) with
      | none => .error ⟨64, at_⟩
      | some (d', key) => .ok (d', key, at_ + len) := by unfold Rv.Dict.get; rw [h]; simp only; rw [if_pos hn]; rfl
theorem dget_zero {d : Rv.Dict} {xs : Rv.Bs} {at_ len at2 : Nat} (h : Rv.rdB (xs.drop at_) = .ok 0 len) (h2 : at2 = at_ + len) : d.get xs at_ = match Rv.rdB (xs.drop at2) with
      | .bad e => .error ⟨e, at2⟩
      | .ok k len2 =>
        if k < 1 ∨ 64 < k then .error ⟨61, at2⟩
        else if xs.length < at2 + len2 + k then .error ⟨10, (at2 + len2 : Nat)⟩
        else
          let key : ByteArray := ⟨((xs.drop (at2 + len2)).take k).toArray⟩
          if (d.find key).isSome then .error ⟨64, (at2 + len2 : Nat)⟩
          else .ok ((d.use key).1, key, at2 + len2 + k) := by
  subst h2; unfold Rv.Dict.get; rw [h]; simp only; rw [if_neg (by omega)]; rfl

set_option maxHeartbeats 4000000 in
set_option maxRecDepth 100000 in
theorem key_any (w : World) (R : HP) (g gd : Nat) (c : Rv.Coder) (A : Option Addr) (xs : List UInt8) (cp at_ : Nat) (h : Sat w (pt g (.cells #[.pointer (some ⟨gd, 0, none⟩), .int .i64 c.tick, .int .i64 c.cost] 108 (0, 0)) * (dictP gd c.d * R)))
    (hR : RdB w A xs) (hm : xs.length ≤ 140737488355328) (hcp : xs.length ≤ cp) (ha : at_ ≤ xs.length) :
    Calls Tryz.prog 95 #[.pointer (some ⟨g, 0, none⟩), .slice A xs.length cp, .int .i64 (at_ : Int)] w (KeyRes R w g gd c (c.d.get xs at_)) := by
  have H := Lib.hid h
  have HR := Lib.hid hR
  have d0 : w.cell? ⟨g, 0, none⟩ = some (.pointer (some ⟨gd, 0, none⟩)) := by rw [cells_of h.heap]; rfl
  clear h hR
  go_enter Tryz.func95, Tryz.ntmps95
  go_wp2_with fail
  refine (read_any A xs cp at_ w HR.out (by omega) ha).mono ?_
  rintro e w' ⟨rfl, rfl⟩
  cases hb : Rv.rdB (xs.drop at_) with
  | bad e =>
    have he2 : (e != 0) = true := by rw [bne, beq_eq_false_iff_ne.2 (by have := rdB_bad hb; omega)]; rfl
    have HX := Lib.hid (dget_bad (d := c.d) hb)
    clear hb
    unfold readRes
    go_wp2_with fail
    rw [HX.out]
    exact bodyPost_ret (v := .tuple #[.string ⟨#[]⟩, .int .i64 0, .int .i64 at_, .int .i64 e]) (by simp [results, Tryz.results95, go_sem]) rfl ⟨rfl, rfl⟩
  | ok n len =>
    have hto := Rv.rdB_ok hb
    obtain ⟨at2, hat2⟩ : ∃ at2, at2 = at_ + len := ⟨_, rfl⟩
    have Hat2 := Lib.hid hat2
    have hle2 : at2 ≤ xs.length := by omega
    rw [show readRes at_ (.ok n len) = .returned (.tuple #[.int .i64 (n : Int), .int .i64 (at2 : Int), .int .i64 0]) from by rw [hat2]; rfl]
    clear hat2 hto
    by_cases hn : 0 < n
    · have HX := Lib.hid (dget_pos (d := c.d) hb hn)
      rw [← Hat2.out] at HX
      have hn2 : (n : Int) - 1 = ((n - 1 : Nat) : Int) := by omega
      have hn3 : n ≤ 4611686018427387903 := (Rv.rdB_form hb).2.1
      have hw : IntKind.i64.wrap ((n : Int) - 1) = ((n - 1 : Nat) : Int) := by rw [IntWalk.i64_in _ (by omega), hn2]
      clear hb hn2
      cases hk : c.d.keys[n - 1]? with
      | none =>
        have HX2 : Hid (c.d.get xs at_ = .error ⟨64, at_⟩) := Lib.hid (by
          rw [HX.out]; unfold Rv.Dict.touch; rw [if_neg (by rw [List.getElem?_eq_none_iff] at hk; omega)])
        have Hl := Lib.hid (List.getElem?_eq_none_iff.1 hk)
        clear HX hk
        go_wp2_with fail
        refine (stouch_no w _ gd c.d (n - 1) H.out.swap Hl.out).mono ?_
        rintro e w' ⟨rfl, rfl⟩
        go_wp2_with fail
        rw [HX2.out]
        exact bodyPost_ret (v := .tuple #[.string ⟨#[]⟩, .int .i64 0, .int .i64 at_, .int .i64 64]) (by simp [results, Tryz.results95, go_sem]) rfl ⟨rfl, rfl⟩
      | some key =>
        have HX2 : Hid (c.d.get xs at_ = .ok (c.d.used (n - 1), key, at2)) := Lib.hid (by
          rw [HX.out]; unfold Rv.Dict.touch; rw [if_pos (List.getElem?_eq_some_iff.1 hk).1]; simp only [List.getD, hk]; rfl)
        have Hk := Lib.hid hk
        clear HX hk
        go_wp2_with fail
        refine (stouch_yes w _ gd c.d (n - 1) key H.out.swap Hk.out).mono ?_
        rintro e w2 ⟨rfl, s2, z2⟩
        have S2 := Lib.hid s2.swap
        have Z2 := Lib.hid z2
        clear s2 z2
        go_wp2_with fail
        rw [HX2.out]
        exact bodyPost_ret (v := .tuple #[.string key, .int .i64 at2, .int .i64 0, .int .i64 0]) (by simp [results, Tryz.results95, go_sem]) rfl ⟨rfl, S2.out, Z2.out⟩
    · obtain rfl : n = 0 := by omega
      have HX := Lib.hid (dget_zero (d := c.d) hb Hat2.out)
      clear hb hn
      go_wp2_with fail
      refine (read_any A xs cp at2 w HR.out (by omega) hle2).mono ?_
      rintro e w' ⟨rfl, rfl⟩
      cases hb : Rv.rdB (xs.drop at2) with
      | bad e =>
        have he2 : (e != 0) = true := by rw [bne, beq_eq_false_iff_ne.2 (by have := rdB_bad hb; omega)]; rfl
        rw [hb] at HX
        clear hb
        unfold readRes
        go_wp2_with fail
        rw [HX.out]
        exact bodyPost_ret (v := .tuple #[.string ⟨#[]⟩, .int .i64 0, .int .i64 at2, .int .i64 e]) (by simp [results, Tryz.results95, go_sem]) rfl ⟨rfl, rfl⟩
      | ok k len2 =>
        have hto := Rv.rdB_ok hb
        have hk62 : k ≤ 4611686018427387903 := (Rv.rdB_form hb).2.1
        obtain ⟨at3, hat3⟩ : ∃ at3, at3 = at2 + len2 := ⟨_, rfl⟩
        have Hat3 := Lib.hid hat3
        have hle3 : at3 ≤ xs.length := by omega
        rw [show readRes at2 (.ok k len2) = .returned (.tuple #[.int .i64 (k : Int), .int .i64 (at3 : Int), .int .i64 0]) from by rw [hat3]; rfl]
        rw [hb] at HX
        replace HX := Lib.hid HX.out
        simp only [← hat3] at HX
        clear hat3 hto hb
        go_wp2_with fail
        by_cases hmk : k < 1 ∨ 64 < k
        · have HX2 : Hid (c.d.get xs at_ = .error ⟨61, at2⟩) := Lib.hid (by rw [HX.out]; exact if_pos hmk)
          refine (mayKey_any (k : Int) false (by unfold Rv.inB; rcases hmk with h | h <;> simp <;> omega) w).mono ?_
          rintro e w' ⟨rfl, rfl⟩
          clear hmk HX
          go_wp2_with fail
          rw [HX2.out]
          exact bodyPost_ret (v := .tuple #[.string ⟨#[]⟩, .int .i64 0, .int .i64 at2, .int .i64 61]) (by simp [results, Tryz.results95, go_sem]) rfl ⟨rfl, rfl⟩
        · refine (mayKey_any (k : Int) true (by unfold Rv.inB; simp; omega) w).mono ?_
          rintro e w' ⟨rfl, rfl⟩
          have hw3 : IntKind.i64.wrap ((xs.length : Int) - (at3 : Int)) = (xs.length : Int) - (at3 : Int) := IntWalk.i64_in _ (by omega)
          by_cases hsh : xs.length < at3 + k
          · have HX2 : Hid (c.d.get xs at_ = .error ⟨10, (at3 : Nat)⟩) := Lib.hid (by rw [HX.out, if_neg hmk, if_pos hsh])
            have e3 : decide ((xs.length : Int) - (at3 : Int) < (k : Int)) = true := by simp; omega
            clear hmk HX hsh
            go_wp2_with fail
            rw [HX2.out]
            exact bodyPost_ret (v := .tuple #[.string ⟨#[]⟩, .int .i64 0, .int .i64 at3, .int .i64 10]) (by simp [results, Tryz.results95, go_sem]) rfl ⟨rfl, rfl⟩
          · have e3 : decide ((xs.length : Int) - (at3 : Int) < (k : Int)) = false := by simp; omega
            obtain ⟨key, hkey⟩ : ∃ key : ByteArray, key = ⟨((xs.drop at3).take k).toArray⟩ := ⟨_, rfl⟩
            have hks : key.size = k := by rw [hkey]; show ((xs.drop at3).take k).toArray.size = k; simp; omega
            obtain ⟨u, hu⟩ := some_at (xs := xs) (i := 0) (by omega)
            obtain ⟨ad, rfl, _⟩ := HR.out 0 u hu
            have hcv := conv_str w (ad.add at3) (cp - at3) ((xs.drop at3).take k) ((HR.out.dropAt at3).take k)
            rw [show ((xs.drop at3).take k).length = k by simp; omega, ← hkey] at hcv
            have HX1 : Hid (c.d.get xs at_ = if (c.d.find key).isSome then .error ⟨64, (at3 : Nat)⟩ else .ok ((c.d.use key).1, key, at3 + k)) := Lib.hid (by rw [HX.out, if_neg hmk, if_neg hsh, hkey])
            have hk1 : 1 ≤ key.size := by omega
            have hk2 : key.size ≤ 64 := by omega
            have hs0 : (0 : Int) ≤ (at3 : Int) := by omega
            have hs1 : (at3 : Int) + (k : Int) ≤ (cp : Int) := by omega
            have hs2 : (at3 : Int) ≤ (at3 : Int) + (k : Int) := by omega
            have hs3 : ((at3 : Int) + (k : Int)).toNat = at3 + k := by omega
            have hs4 : at3 + k - at3 = k := by omega
            have hs5 : ¬ cp = at3 := by omega
            have hw5 : IntKind.i64.wrap ((at3 : Int) + (k : Int)) = (at3 : Int) + (k : Int) := IntWalk.i64_in _ (by omega)
            clear hmk HX hsh hu hks hkey
            go_wp2_with fail
            refine (slook w _ gd c.d key H.out.swap).mono ?_
            rintro e w' ⟨rfl, rfl⟩
            have HK := Lib.hid hk1
            have HK2 := Lib.hid hk2
            clear hcv hs0 hs1 hs2 hs3 hs4 hs5 hk1 hk2
            cases hf : c.d.find key with
            | some s =>
              have HX2 : Hid (c.d.get xs at_ = .error ⟨64, (at3 : Nat)⟩) := Lib.hid (by rw [HX1.out, hf]; rfl)
              have hl : decide ((0 : Int) ≤ lookRes (some s)) = true := by simp [lookRes]
              clear hf HX1
              go_wp2_with fail
              rw [HX2.out]
              exact bodyPost_ret (v := .tuple #[.string ⟨#[]⟩, .int .i64 0, .int .i64 at3, .int .i64 64]) (by simp [results, Tryz.results95, go_sem]) rfl ⟨rfl, rfl⟩
            | none =>
              have HX2 : Hid (c.d.get xs at_ = .ok ((c.d.use key).1, key, at3 + k)) := Lib.hid (by rw [HX1.out, hf]; rfl)
              have hl : decide ((0 : Int) ≤ lookRes none) = false := by simp [lookRes]
              clear hf HX1
              go_wp2_with fail
              refine (suse w _ gd c.d key H.out.swap HK.out HK2.out).mono ?_
              rintro e w2 ⟨rfl, s2, z2⟩
              have S2 := Lib.hid s2.swap
              have Z2 := Lib.hid z2
              clear s2 z2
              go_wp2_with fail
              rw [HX2.out]
              exact bodyPost_ret (v := .tuple #[.string key, .int .i64 ((at3 + k : Nat) : Int), .int .i64 0, .int .i64 0]) (by simp [results, Tryz.results95, go_sem]) rfl ⟨rfl, S2.out, Z2.out⟩
end Go.Proofs.YtcmndglhileeoaaGreat
