/- Walks of package record: Coder.Get. -/
import Derived.Test.YtcmndglhileeoaaGreatQGet
import Derived.WalkMore
import Derived.ScopeJumps
set_option linter.unusedSimpArgs false
set_option linter.unusedVariables false
namespace Go.Proofs.YtcmndglhileeoaaGreat
open Go.RowKit
open Rv (HP Sat Same pt allOf sat_all RdIn row own)

/-- A scope whose one label is jumped to from ahead alone: at a jump the walk goes on behind the label. -/
theorem wp_scope_fwd {P : Program} {a : Act} {w : World} {Q : Exit → Act → World → Prop} {c rest : Code} (l : Nat) (hf : findLabel c l = some rest)
    (first : c.wp P (Exit.jump l (fun a w => rest.wp P (Exit.jump l (fun _ _ => False) Q) a w) Q) a w) : (Code.scope c).wp P Q a w :=
  wp_scope_jumps l _ (fun _ _ => 0) hf first (fun a w h => wp_mono h (fun e a w q => by
    cases e with
    | goto l' => exact q.2.elim
    | _ => exact q))
theorem jump_goto {l : Nat} {J : Act → World → Prop} {Q : Exit → Act → World → Prop} {a : Act} {w : World} (h : J a w) : Exit.jump l J Q (.goto l) a w := ⟨rfl, h⟩
theorem jump_ret {l : Nat} {J : Act → World → Prop} {Q : Exit → Act → World → Prop} {a : Act} {w : World} (h : Q .ret a w) : Exit.jump l J Q .ret a w := h
abbrev recCells (r : Rv.Rec) : Array Value := #[.int .i64 r.tick, .string r.key, .int .i64 r.cost, .int .i64 r.verdict]
abbrev recZero : Array Value := #[.int .i64 0, .string ⟨#[]⟩, .int .i64 0, .int .i64 0]
theorem info_rec : (Tryz.prog.info? 44).map (·.size) = some 4 := by kernel_rfl

/-- What Coder.Get tells. -/
def GetRes (R : HP) (w : World) (g : Nat) (r : Except Rv.Fault (Rv.Coder × Rv.Rec × Nat)) (e : Ending) (w' : World) : Prop := match r with
  | .error f => e = .returned (.tuple #[.agg recZero, .int .i64 0, .agg (fltCells f)]) ∧ Sat w' R ∧ Same w w'
  | .ok (c, x, to) => e = .returned (.tuple #[.agg (recCells x), .int .i64 (to : Int), .agg (fltCells ⟨0, 0⟩)]) ∧ Sat w' (coderP g c * R) ∧ Same w w'

theorem lit3 {w : World} {R : HP} (h : Sat w R) (o1 o2 o3 : Obj) : Sat (((w.alloc o1).alloc o2).alloc o3) R ∧ Same w (((w.alloc o1).alloc o2).alloc o3) :=
  ⟨(((h.alloc o1).alloc o2).alloc o3).right.right.right, Same.of (((Kept.refl (fun _ => False) w).alloc o1).alloc o2 |>.alloc o3)⟩
theorem lit3s {w : World} {R : HP} (h : Sat w R) (o1 o2 o3 : Obj) : Sat (((w.alloc o1).alloc o2).alloc o3) (pt (w.heap.size + 1 + 1) o3 * (pt (w.heap.size + 1) o2 * (pt w.heap.size o1 * R))) := by
  have h1 := ((h.alloc o1).alloc o2).alloc o3
  simp only [World.size_alloc] at h1
  exact h1
theorem two_rows {w : World} {Q : HP} {b6 b8 : Nat} {c6 c8 n6 n8 : Array Value} {t6 t8 : TypeId} (S : Sat w (pt b6 (.cells c6 t6) * (pt b8 (.cells c8 t8) * Q))) :
    Sat ((w.setRow b6 n6).setRow b8 n8) (pt b6 (.cells n6 t6) * (pt b8 (.cells n8 t8) * Q)) ∧ Same w ((w.setRow b6 n6).setRow b8 n8) ∧ (w.setRow b6 n6).heap[b8]? = some (.cells c8 t8) := by
  have h1 : Sat (w.setRow b6 n6) (pt b6 (.cells n6 t6) * (pt b8 (.cells c8 t8) * Q)) := S.put (setRow_heap _ _ _ _ _ _ S.heap) (fun k hk => setRow_other _ _ _ _ hk)
  refine ⟨(h1.swap.put (setRow_heap _ _ _ _ _ _ h1.swap.heap) (fun k hk => setRow_other _ _ _ _ hk)).swap, ⟨rfl, rfl, rfl, by simp, fun _ _ h => absurd trivial h⟩, h1.swap.heap⟩
theorem dget_code {d : Rv.Dict} {xs : Rv.Bs} {at_ : Nat} {f : Rv.Fault} (h : d.get xs at_ = .error f) : f.code ≠ 0 := by
  cases hb : Rv.rdB (xs.drop at_) with
  | bad e =>
    rw [dget_bad hb] at h
    cases h
    have := rdB_bad hb
    show e ≠ 0
    omega
  | ok n len =>
    by_cases hn : 0 < n
    · rw [dget_pos hb hn] at h
      split at h <;> cases h
      show (64 : Int) ≠ 0
      omega
    · obtain rfl : n = 0 := by omega
      rw [dget_zero hb rfl] at h
      split at h
      · rename_i e hb2
        cases h
        have := rdB_bad hb2
        show e ≠ 0
        omega
      · split at h
        · cases h; show (61 : Int) ≠ 0; omega
        · split at h
          · cases h; show (10 : Int) ≠ 0; omega
          · simp only at h
            split at h
            · cases h; show (64 : Int) ≠ 0; omega
            · cases h
theorem one_rec (r : Rv.Rec) : (recCells r).all (·.oneCell') = true := by simp [Value.oneCell']
theorem one_rec0 : recZero.all (·.oneCell') = true := by simp [Value.oneCell']
theorem cget_bad {c : Rv.Coder} {xs : Rv.Bs} {at_ : Nat} {e : Int} (h : Rv.rdB (xs.drop at_) = .bad e) : c.get xs at_ = .error ⟨e, at_⟩ := by unfold Rv.Coder.get; rw [h]
theorem cget_ok {c : Rv.Coder} {xs : Rv.Bs} {at_ n len at2 q r : Nat} (h : Rv.rdB (xs.drop at_) = .ok n len) (h2 : at2 = at_ + len) (hq : q = n / 4) (hr : r = n % 4) : c.get xs at_ =
    if r = 3 then .error ⟨63, at_⟩
    else if Rv.tickOk (c.tick + q) = false then .error ⟨60, at_⟩
    else match Rv.rdB (xs.drop at2) with
      | .bad e => .error ⟨e, at2⟩
      | .ok z len2 =>
        let cost := c.cost + (Rv.zag z).1
        if Rv.costOk cost = false then .error ⟨62, at2⟩
        else match c.d.get xs (at2 + len2) with
          | .error f => .error f
          | .ok (d', key, to) => .ok (⟨d', c.tick + q, cost⟩, ⟨c.tick + q, key, cost, r⟩, to) := by
  subst h2; subst hq; subst hr; unfold Rv.Coder.get; rw [h]; rfl

set_option maxHeartbeats 4000000 in
set_option maxRecDepth 100000 in
theorem get_any (w : World) (R : HP) (g : Nat) (c : Rv.Coder) (A : Option Addr) (xs : List UInt8) (cp at_ : Nat) (h : Sat w (coderP g c * R))
    (hR : RdIn R A (u8s xs)) (hm : xs.length ≤ 140737488355328) (hcp : xs.length ≤ cp) (ha : at_ ≤ xs.length) :
    Calls Tryz.prog 49 #[.pointer (some ⟨g, 0, none⟩), .slice A xs.length cp, .int .i64 (at_ : Int)] w (GetRes R w g (c.get xs at_)) := by
  obtain ⟨ok, gd, h⟩ := coderP_open h
  obtain ⟨t0, t1, c0, c1⟩ := ok
  have HR := Lib.hid (hR w h.right.right).toB
  have e1 : decide ((at_ : Int) < 0) = false := by simp
  have e2 : decide ((xs.length : Int) < (at_ : Int)) = false := by simp; omega
  have d1 : w.cell? ⟨g, 1, none⟩ = some (.int .i64 c.tick) := by rw [cells_of h.heap]; rfl
  have d2 : w.cell? ⟨g, 2, none⟩ = some (.int .i64 c.cost) := by rw [cells_of h.heap]; rfl
  have hlt : g < w.heap.size := h.lt
  have l1 : g < w.heap.size + 1 := by omega
  have l2 : g < w.heap.size + 1 + 1 := by omega
  have l3 : g ≤ w.heap.size := by omega
  have l4 : g ≤ w.heap.size + 1 := by omega
  have H := Lib.hid h
  have HR2 := Lib.hid hR
  clear h hR
  go_enter Tryz.func49, Tryz.ntmps49
  go_wp2_with fail
  refine wp_scope_fwd 0 (by rfl) ?_
  go_wp2_with fail
  refine (read_any A xs cp at_ _ (((HR.out.alloc _).alloc _).alloc _) (by omega) ha).mono ?_
  rintro e w' ⟨rfl, rfl⟩
  cases hb : Rv.rdB (xs.drop at_) with
  | bad e =>
    have he2 : (e != 0) = true := by rw [bne, beq_eq_false_iff_ne.2 (by have := rdB_bad hb; omega)]; rfl
    have HX := Lib.hid (cget_bad (c := c) hb)
    clear hb
    unfold readRes
    go_wp2_with fail
    go_step3
    go_wp2_with fail
    refine jump_goto ?_
    go_wp2_with fail
    refine jump_ret ?_
    rw [HX.out]
    exact bodyPost_ret (v := .tuple #[.agg recZero, .int .i64 0, .agg (fltCells ⟨e, at_⟩)]) (by simp [Go.results, Tryz.results49, go_sem]) rfl ⟨rfl, lit3 H.out.right.right _ _ _⟩
  | ok n len =>
    have hto := Rv.rdB_ok hb
    have hn62 : n ≤ 4611686018427387903 := (Rv.rdB_form hb).2.1
    obtain ⟨at2, hat2⟩ : ∃ at2, at2 = at_ + len := ⟨_, rfl⟩
    obtain ⟨q, hq⟩ : ∃ q, q = n / 4 := ⟨_, rfl⟩
    obtain ⟨r, hr⟩ : ∃ r, r = n % 4 := ⟨_, rfl⟩
    have HX := Lib.hid (cget_ok (c := c) hb hat2 hq hr)
    have hle2 : at2 ≤ xs.length := by omega
    have hr4 : r < 4 := by omega
    have hq62 : q ≤ 1152921504606846976 := by omega
    have f1 : (n : Int) / 4 = (q : Int) := by omega
    have f2 : (n : Int) % 4 = (r : Int) := by omega
    have f3 : IntKind.i64.wrap (c.tick + (q : Int)) = c.tick + (q : Int) := IntWalk.i64_in _ (by omega)
    rw [show readRes at_ (.ok n len) = .returned (.tuple #[.int .i64 (n : Int), .int .i64 (at2 : Int), .int .i64 0]) from by rw [hat2]; rfl]
    clear hat2 hto hb hq hr
    go_wp2_with fail
    by_cases hr3 : r = 3
    · have HX2 : Hid (c.get xs at_ = .error ⟨63, at_⟩) := Lib.hid (by rw [HX.out]; exact if_pos hr3)
      refine (mayVerdict_any (r : Int) false (by unfold Rv.inB; simp; omega) _).mono ?_
      rintro e w' ⟨rfl, rfl⟩
      clear hr3 HX f1 f2 f3
      go_wp2_with fail
      go_step3
      go_wp2_with fail
      refine jump_goto ?_
      go_wp2_with fail
      refine jump_ret ?_
      rw [HX2.out]
      exact bodyPost_ret (v := .tuple #[.agg recZero, .int .i64 0, .agg (fltCells ⟨63, at_⟩)]) (by simp [Go.results, Tryz.results49, go_sem]) rfl ⟨rfl, lit3 H.out.right.right _ _ _⟩
    · refine (mayVerdict_any (r : Int) true (by unfold Rv.inB; simp; omega) _).mono ?_
      rintro e w' ⟨rfl, rfl⟩
      clear f1 f2 f3
      go_wp2_with fail
      cases htk : Rv.tickOk (c.tick + (q : Int)) with
      | false =>
        have HX2 : Hid (c.get xs at_ = .error ⟨60, at_⟩) := Lib.hid (by rw [HX.out, if_neg hr3]; exact if_pos htk)
        refine (mayTick_any (c.tick + (q : Int)) false htk _).mono ?_
        rintro e w' ⟨rfl, rfl⟩
        clear hr3 HX htk
        go_wp2_with fail
        go_step3
        go_wp2_with fail
        refine jump_goto ?_
        go_wp2_with fail
        refine jump_ret ?_
        rw [HX2.out]
        exact bodyPost_ret (v := .tuple #[.agg recZero, .int .i64 0, .agg (fltCells ⟨60, at_⟩)]) (by simp [Go.results, Tryz.results49, go_sem]) rfl ⟨rfl, lit3 H.out.right.right _ _ _⟩
      | true =>
        refine (mayTick_any (c.tick + (q : Int)) true htk _).mono ?_
        rintro e w' ⟨rfl, rfl⟩
        have Htk := Lib.hid htk
        rw [htk] at HX
        replace HX := Lib.hid ((HX.out.trans (if_neg hr3)).trans (if_neg (by simp)))
        clear hr3 htk
        go_wp2_with fail
        refine (read_any A xs cp at2 _ (((HR.out.alloc _).alloc _).alloc _) (by omega) hle2).mono ?_
        rintro e w' ⟨rfl, rfl⟩
        cases hb : Rv.rdB (xs.drop at2) with
        | bad e =>
          have he2 : (e != 0) = true := by rw [bne, beq_eq_false_iff_ne.2 (by have := rdB_bad hb; omega)]; rfl
          rw [hb] at HX
          clear hb
          unfold readRes
          go_wp2_with fail
          go_step3
          go_wp2_with fail
          refine jump_goto ?_
          go_wp2_with fail
          refine jump_ret ?_
          rw [HX.out]
          exact bodyPost_ret (v := .tuple #[.agg recZero, .int .i64 0, .agg (fltCells ⟨e, at2⟩)]) (by simp [Go.results, Tryz.results49, go_sem]) rfl ⟨rfl, lit3 H.out.right.right _ _ _⟩
        | ok z len2 =>
          have hto := Rv.rdB_ok hb
          have hz62 : z ≤ 4611686018427387903 := (Rv.rdB_form hb).2.1
          obtain ⟨at3, hat3⟩ : ∃ at3, at3 = at2 + len2 := ⟨_, rfl⟩
          have hle3 : at3 ≤ xs.length := by omega
          rw [show readRes at2 (.ok z len2) = .returned (.tuple #[.int .i64 (z : Int), .int .i64 (at3 : Int), .int .i64 0]) from by rw [hat3]; rfl]
          rw [hb] at HX
          replace HX := Lib.hid HX.out
          simp only [← hat3] at HX
          clear hat3 hto hb
          obtain ⟨zg, hzg⟩ : ∃ y, y = (Rv.zag (z : Int)).1 := ⟨_, rfl⟩
          have hzb : -2305843009213693952 ≤ zg ∧ zg ≤ 2305843009213693952 := by
            rw [hzg]; unfold Rv.zag; rw [mayN_yes (by omega) (by omega)]; simp only [Bool.true_eq_false, if_false]; split <;> simp only <;> omega
          have f4 : IntKind.i64.wrap (c.cost + zg) = c.cost + zg := IntWalk.i64_in _ (by omega)
          have HZ := Lib.hid hzg
          simp only [← hzg] at HX
          clear hzg
          go_wp2_with fail
          refine (zag_any z _ (by omega)).mono ?_
          rw [← HZ.out]
          rintro e w' ⟨rfl, rfl⟩
          go_wp2_with fail
          cases hck : Rv.costOk (c.cost + zg) with
          | false =>
            have HX2 : Hid (c.get xs at_ = .error ⟨62, at2⟩) := Lib.hid (by rw [HX.out]; exact if_pos hck)
            refine (mayCost_any (c.cost + zg) false hck _).mono ?_
            rintro e w' ⟨rfl, rfl⟩
            clear HX hck
            go_wp2_with fail
            go_step3
            go_wp2_with fail
            refine jump_goto ?_
            go_wp2_with fail
            refine jump_ret ?_
            rw [HX2.out]
            exact bodyPost_ret (v := .tuple #[.agg recZero, .int .i64 0, .agg (fltCells ⟨62, at2⟩)]) (by simp [Go.results, Tryz.results49, go_sem]) rfl ⟨rfl, lit3 H.out.right.right _ _ _⟩
          | true =>
            have Hck := Lib.hid hck
            refine (mayCost_any (c.cost + zg) true hck _).mono ?_
            rintro e w' ⟨rfl, rfl⟩
            rw [hck] at HX
            replace HX := Lib.hid (HX.out.trans (if_neg (by simp)))
            clear hck
            go_upto_region 21 with (fail)
            obtain ⟨w3, hw3⟩ : ∃ w3, w3 = ((w.alloc (.cells recZero 44)).alloc (.cells (fltCells ⟨0, 0⟩) 27)).alloc (.cells #[.int .i64 (c.tick + (q : Int)), .string ⟨#[]⟩, .int .i64 (c.cost + zg), .int .i64 (r : Int)] 44) := ⟨_, rfl⟩
            change Code.wp _ _ _ _ (((w.alloc (.cells recZero 44)).alloc (.cells (fltCells ⟨0, 0⟩) 27)).alloc (.cells #[.int .i64 (c.tick + (q : Int)), .string ⟨#[]⟩, .int .i64 (c.cost + zg), .int .i64 (r : Int)] 44))
            rw [← hw3]
            have S3 : Hid (Sat w3 (pt g (.cells #[.pointer (some ⟨gd, 0, none⟩), .int .i64 c.tick, .int .i64 c.cost] 108 (0, 0)) * (dictP gd c.d * (pt (w.heap.size + 1 + 1) (.cells #[.int .i64 (c.tick + (q : Int)), .string ⟨#[]⟩, .int .i64 (c.cost + zg), .int .i64 (r : Int)] 44) * (pt (w.heap.size + 1) (.cells (fltCells ⟨0, 0⟩) 27) * (pt w.heap.size (.cells recZero 44) * R)))))) := Lib.hid (by
              rw [hw3]; exact (lit3s H.out (.cells recZero 44) (.cells (fltCells ⟨0, 0⟩) 27) (.cells #[.int .i64 (c.tick + (q : Int)), .string ⟨#[]⟩, .int .i64 (c.cost + zg), .int .i64 (r : Int)] 44)).perm (by ac_rfl))
            have Z3 : Hid (Same w w3) := Lib.hid (by rw [hw3]; exact (lit3 H.out _ _ _).2)
            have HR3 : Hid (RdB w3 A xs) := Lib.hid (by rw [hw3]; exact ((HR.out.alloc _).alloc _).alloc _)
            clear hw3 H d1 d2 l1 l2 l3 l4
            generalize w.heap.size + 1 + 1 = b9 at *
            generalize w.heap.size + 1 = b8 at *
            generalize w.heap.size = b6 at *
            go_wp2_with fail
            refine (key_any w3 _ g gd c A xs cp at3 S3.out HR3.out hm hcp hle3).mono ?_
            cases hkr : c.d.get xs at3 with
            | error f =>
              rintro e w' ⟨rfl, rfl⟩
              have hfc := dget_code hkr
              have he2 : (f.code != 0) = true := by rw [bne, beq_eq_false_iff_ne.2 hfc]; rfl
              rw [hkr] at HX
              replace HX : Hid (c.get xs at_ = .error f) := Lib.hid HX.out
              have q9 := S3.out.third.heap
              have d1 : w3.cell? ⟨b9, 1, none⟩ = some (.string ⟨#[]⟩) := by rw [cells_of q9]; rfl
              have df : w3.frozen? ⟨b9, 1, none⟩ = false := frozen_of q9 1
              clear hkr hfc q9
              go_upto_region 22 with (fail)
              have S4 : Hid (Sat (w3.setCell ⟨b9, 1, none⟩ (.string ⟨#[]⟩)) (pt b6 (.cells recZero 44) * (pt b8 (.cells (fltCells ⟨0, 0⟩) 27) * R))) := Lib.hid (by
                have h := S3.out.third.setCell (i := 1) (.string ⟨#[]⟩)
                have h2 := h.right.right.right
                exact h2.swap)
              have Z4 : Hid (Same w (w3.setCell ⟨b9, 1, none⟩ (.string ⟨#[]⟩))) := Lib.hid (Z3.out.then (Kept.setCell (Kept.refl _ _) _ _ (.inl trivial)))
              clear d1 df S3 Z3 HR3
              generalize w3.setCell ⟨b9, 1, none⟩ (.string ⟨#[]⟩) = w4 at *
              obtain ⟨T1, T2, T3⟩ := two_rows (n6 := recZero) (n8 := fltCells f) S4.out
              have T1 := Lib.hid T1
              have T2 := Lib.hid T2
              have T3 := Lib.hid T3
              go_wp2_with fail
              go_step3
              go_wp2_with fail
              refine jump_goto ?_
              go_wp2_with (first
                | ((with_reducible refine at_store 44 6 101 ?_); refine wpList_store_row rfl 44 (.tmp 6) (.tmp 101) rfl b6 recZero (by rfl) (by rfl) 44 recZero S4.out.heap info_rec (by rfl) one_rec0 ?_)
                | ((with_reducible refine at_store 27 8 104 ?_); refine wpList_store_row rfl 27 (.tmp 8) (.tmp 104) rfl b8 (fltCells f) (by rfl) (by rfl) 27 (fltCells ⟨0, 0⟩) T3.out info_flt (by rfl) (one_flt _) ?_))
              refine jump_ret ?_
              rw [HX.out]
              exact bodyPost_ret (results_ctc Tryz.results49 _ _ b6 b8 44 27 recZero (fltCells f) (0, 0) (0, 0) _ _ (.int .i64 0) (by rfl) (by rfl) (by rfl) T1.out.heap T1.out.right.heap Tryz.underlying44 (by rfl) info_rec Tryz.underlying27 (by rfl) info_flt) rfl
                ⟨rfl, T1.out.right.right, Z4.out.then T2.out⟩
            | ok kr =>
              obtain ⟨d', key, to⟩ := kr
              rintro e w4 ⟨rfl, s4, z4⟩
              rw [hkr] at HX
              replace HX := Lib.hid HX.out
              simp only at HX
              have q9 := s4.third.heap
              have d1 : w4.cell? ⟨b9, 1, none⟩ = some (.string ⟨#[]⟩) := by rw [cells_of q9]; rfl
              have df : w4.frozen? ⟨b9, 1, none⟩ = false := frozen_of q9 1
              have S4 := Lib.hid s4
              have Z4 := Lib.hid (Z3.out.then z4)
              clear hkr q9 s4 z4 S3 Z3 HR3
              go_upto_region 23 with (fail)
              have S5 : Hid (Sat (w4.setCell ⟨b9, 1, none⟩ (.string key)) (pt b9 (.cells #[.int .i64 (c.tick + (q : Int)), .string key, .int .i64 (c.cost + zg), .int .i64 (r : Int)] 44) * (pt g (.cells #[.pointer (some ⟨gd, 0, none⟩), .int .i64 c.tick, .int .i64 c.cost] 108 (0, 0)) * (dictP gd d' * (pt b8 (.cells (fltCells ⟨0, 0⟩) 27) * (pt b6 (.cells recZero 44) * R)))))) := Lib.hid (S4.out.third.setCell (i := 1) (.string key))
              have Z5 : Hid (Same w (w4.setCell ⟨b9, 1, none⟩ (.string key))) := Lib.hid (Z4.out.then (Kept.setCell (Kept.refl _ _) _ _ (.inl trivial)))
              clear d1 df S4 Z4
              generalize w4.setCell ⟨b9, 1, none⟩ (.string key) = w5 at *
              clear w4
              have d4 : w5.cell? ⟨b9, 0, none⟩ = some (.int .i64 (c.tick + (q : Int))) := (cells_of S5.out.heap 0).trans rfl
              have d6 : w5.cell? ⟨b9, 2, none⟩ = some (.int .i64 (c.cost + zg)) := (cells_of S5.out.heap 2).trans rfl
              have g1 : w5.cell? ⟨g, 1, none⟩ = some (.int .i64 c.tick) := (cells_of S5.out.right.heap 1).trans rfl
              have g2 : w5.cell? ⟨g, 2, none⟩ = some (.int .i64 c.cost) := (cells_of S5.out.right.heap 2).trans rfl
              have gf : ∀ i, w5.frozen? ⟨g, i, none⟩ = false := fun i => frozen_of S5.out.right.heap i
              have hne : ¬ b9 = g := S5.out.ne
              have e1 : (w5.setCell ⟨g, 1, none⟩ (.int .i64 (c.tick + (q : Int)))).drew.cell? ⟨b9, 0, none⟩ = some (.int .i64 (c.tick + (q : Int))) := (World.cell?_of_block (w := w5) (set_off 1 _ hne)).trans d4
              have e2 : (w5.setCell ⟨g, 1, none⟩ (.int .i64 (c.tick + (q : Int)))).drew.cell? ⟨b9, 2, none⟩ = some (.int .i64 (c.cost + zg)) := (World.cell?_of_block (w := w5) (set_off 1 _ hne)).trans d6
              have e3 : ((w5.setCell ⟨g, 1, none⟩ (.int .i64 (c.tick + (q : Int)))).setCell ⟨g, 2, none⟩ (.int .i64 (c.cost + zg))).drew.cell? ⟨b9, 0, none⟩ = some (.int .i64 (c.tick + (q : Int))) := (World.cell?_of_block (w := w5.setCell ⟨g, 1, none⟩ (.int .i64 (c.tick + (q : Int)))) (set_off 2 _ hne)).trans e1
              have e4 : ((w5.setCell ⟨g, 1, none⟩ (.int .i64 (c.tick + (q : Int)))).setCell ⟨g, 2, none⟩ (.int .i64 (c.cost + zg))).drew.cell? ⟨b9, 2, none⟩ = some (.int .i64 (c.cost + zg)) := (World.cell?_of_block (w := w5.setCell ⟨g, 1, none⟩ (.int .i64 (c.tick + (q : Int)))) (set_off 2 _ hne)).trans e2
              go_region_held3 (fun w' => w'.cell? ⟨b9, 0, none⟩ = some (.int .i64 (c.tick + (q : Int))) ∧ w'.cell? ⟨b9, 2, none⟩ = some (.int .i64 (c.cost + zg)))
                (first | exact ⟨d4, d6⟩ | exact ⟨e1, e2⟩ | exact ⟨e3, e4⟩ | go_keep)
                (first | fail)
              have S6 : Hid (Sat ((w5.setCell ⟨g, 1, none⟩ (.int .i64 (c.tick + (q : Int)))).setCell ⟨g, 2, none⟩ (.int .i64 (c.cost + zg))).drew (pt b9 (.cells #[.int .i64 (c.tick + (q : Int)), .string key, .int .i64 (c.cost + zg), .int .i64 (r : Int)] 44) * (pt g (.cells #[.pointer (some ⟨gd, 0, none⟩), .int .i64 (c.tick + (q : Int)), .int .i64 (c.cost + zg)] 108 (0, 0)) * (dictP gd d' * (pt b8 (.cells (fltCells ⟨0, 0⟩) 27) * (pt b6 (.cells recZero 44) * R)))))) := Lib.hid (by
                have h := (S5.out.swap.setCell (i := 1) (.int .i64 (c.tick + (q : Int)))).setCell (i := 2) (.int .i64 (c.cost + zg))
                exact h.swap.drew)
              have Z6 : Hid (Same w ((w5.setCell ⟨g, 1, none⟩ (.int .i64 (c.tick + (q : Int)))).setCell ⟨g, 2, none⟩ (.int .i64 (c.cost + zg))).drew) := Lib.hid (Z5.out.then ((Kept.setCell (Kept.setCell (Kept.refl (fun _ => True) w5) _ _ (.inl trivial)) _ _ (.inl trivial)).drew))
              clear S5 Z5 d4 d6 g1 g2 gf hne e1 e2 e3 e4
              generalize ((w5.setCell ⟨g, 1, none⟩ (.int .i64 (c.tick + (q : Int)))).setCell ⟨g, 2, none⟩ (.int .i64 (c.cost + zg))).drew = w6 at *
              obtain ⟨x, hx⟩ : ∃ x : Rv.Rec, x = ⟨c.tick + (q : Int), key, c.cost + zg, (r : Int)⟩ := ⟨_, rfl⟩
              have Hc := Lib.hid (coderP_shut (g := g) (gd := gd) (w := w6) (R := pt b9 (.cells (recCells x) 44) * (pt b8 (.cells (fltCells ⟨0, 0⟩) 27) * (pt b6 (.cells recZero 44) * R))) (c := ⟨d', c.tick + (q : Int), c.cost + zg⟩) (by
                have h1 := Htk.out
                have h2 := Hck.out
                simp [Rv.tickOk, Rv.costOk, Rv.inB] at h1 h2
                exact ⟨h1.1, h1.2, by show 0 ≤ c.cost + zg; omega, h2.2⟩) (by rw [hx]; exact S6.out.perm (by ac_rfl)))
              have HX3 : Hid (c.get xs at_ = .ok (⟨d', c.tick + (q : Int), c.cost + zg⟩, x, to)) := Lib.hid (by rw [HX.out, hx])
              generalize (⟨d', c.tick + (q : Int), c.cost + zg⟩ : Rv.Coder) = c2 at *
              clear S6 HX hx Hck Htk
              have S7 : Hid (Sat w6 (pt b6 (.cells recZero 44) * (pt b8 (.cells (fltCells ⟨0, 0⟩) 27) * (pt b9 (.cells (recCells x) 44) * (coderP g c2 * R))))) := Lib.hid (Hc.out.perm (by ac_rfl))
              clear Hc
              obtain ⟨T1, T2, T3⟩ := two_rows (n6 := recCells x) (n8 := fltCells ⟨0, 0⟩) S7.out
              have T1 := Lib.hid T1
              have T2 := Lib.hid T2
              have T3 := Lib.hid T3
              have q9 := Lib.hid S7.out.right.right.heap
              go_wp2_with (first
                | ((with_reducible refine at_slot 98 ?_); refine wpList_load_row rfl 44 (.tmp 9) rfl b9 (by rfl) 44 (recCells x) (0, 0) _ q9.out Tryz.underlying44 (by rfl) info_rec ?_)
                | ((with_reducible refine at_store 44 6 98 ?_); refine wpList_store_row rfl 44 (.tmp 6) (.tmp 98) rfl b6 (recCells x) (by rfl) (by rfl) 44 recZero S7.out.heap info_rec (by rfl) (one_rec x) ?_)
                | ((with_reducible refine at_store 27 8 100 ?_); refine wpList_store_row rfl 27 (.tmp 8) (.tmp 100) rfl b8 (fltCells ⟨0, 0⟩) (by rfl) (by rfl) 27 (fltCells ⟨0, 0⟩) T3.out info_flt (by rfl) (one_flt _) ?_))
              refine jump_ret ?_
              rw [HX3.out]
              exact bodyPost_ret (results_ctc Tryz.results49 _ _ b6 b8 44 27 (recCells x) (fltCells ⟨0, 0⟩) (0, 0) (0, 0) _ _ (.int .i64 (to : Int)) (by rfl) (by rfl) (by rfl) T1.out.heap T1.out.right.heap Tryz.underlying44 (by rfl) info_rec Tryz.underlying27 (by rfl) info_flt) rfl
                ⟨rfl, T1.out.right.right.right, Z6.out.then T2.out⟩
end Go.Proofs.YtcmndglhileeoaaGreat
