/- A part of the proof (RowMore): its texts in a row: Window3, Window4, LedgerA, LedgerB, Owed, LedgerC, LedgerD, LedgerE. Each text's own remark stands at its head. -/
import Derived.Test.YtcmndglhileeoaaGreatMo4
/- The walks of package window: Move. -/
set_option linter.unusedSimpArgs false
set_option linter.unusedVariables false
namespace Go.Proofs.YtcmndglhileeoaaGreat
open Go.RowKit
open Rv (HP Sat Same pt allOf sat_all RdIn row own)

/-- copy to the head of a row of one's own, as one step of a region that draws. -/
theorem step_copy_sat {P : Program} {ops : Array Oper} {o : Oper} {a : Act} {w : World} {K : Act → World → Prop} {Q : Exit → Act → World → Prop} {E : Prop} {R : HP} (hgd : o.guard = none) (d s : Operand) (dT sT : TypeId)
    (ho : o.op = .call { callee := .builtin .copy, args := #[d, s], argTypes := #[dT, sT] }) (elem : TypeId) (hu : P.underlying dT = some (.slice elem)) (hsz : (P.info? elem).map (·.size) = some 1)
    (B : Option Addr) (sp : Option Addr) (dLen dCap sLen sCap : Nat) (hd : a.eval d = .slice B dLen dCap) (hs : a.eval s = .slice sp sLen sCap)
    (vs cs : List Value) (HS : Sat w (row elem (.slice B dLen dCap) vs * R)) (hvs : vs.length = dLen) (h0 : 0 < dLen) (hcs : cs.length = sLen) (hle : sLen ≤ dLen) (hpos : 0 < sLen) (HR : Rv.RdIn R sp cs) (h1 : ∀ v ∈ cs, v.oneCell' = true)
    (h : ∀ w', Hid (Sat w' (row elem (.slice B dLen dCap) (cs ++ vs.drop cs.length) * R)) → Hid (Same w w') → K (a.put o.dst (goInt cs.length)) w') :
    if Region.wanted o (yielded ops a.tmps) = true then Oper.wp P o a w K Q else E := by
  have ho1 := Rv.Sat.row_own HS
  obtain ⟨g, cur, rfl, -, hlt, hg, -, hc1, hc2, hsz2, ht⟩ := ho1.row (by omega)
  obtain ⟨u, hu0⟩ := some_at (xs := cs) (i := 0) (by omega)
  have hrd := HR w HS.right
  obtain ⟨ad, rfl, -⟩ := hrd 0 u hu0
  refine step_copy_kept hgd d s dT sT ho elem hu hsz (some ⟨g, 0, none⟩) (some ad) dLen dCap sLen sCap hd hs g 0 cur elem hg cs (by rw [hcs]; exact (Nat.min_eq_left hle).symm)
    (fun _ => ⟨rfl, ad, rfl, fun j v hv => by obtain ⟨ad', e, hc⟩ := hrd j v hv; cases e; exact hc⟩) (by rw [hsz2]; omega) h1 ?_
  intro w' h2 h3
  have hk : Kept (fun k => (Value.slice (some ⟨g, 0, none⟩) dLen dCap).ownBlock = some k) w w' := Kept.of_grown h3.out (fun k hk _ => by cases hk; rfl)
  refine h w' (Lib.hid (HS.row_turn hk ?_ (fun k hk => .inl hk))) (Lib.hid (Rv.Same.of hk))
  have hcl : cur.toList.length = dCap := by rw [Array.length_toList, hsz2]
  have hlen : (cs ++ vs.drop cs.length).length = dLen := by rw [List.length_append, List.length_drop]; omega
  have e : (splice cur.toList 0 cs).take dLen = cs ++ vs.drop cs.length := by
    unfold splice
    simp only [List.take_zero, List.nil_append, Nat.zero_add]
    rw [List.take_append, List.take_of_length_le (by omega), ← ht, List.drop_take, hvs]
  have := OwnV.of_row (w := w') (e := elem) (vs := cs ++ vs.drop cs.length) (c := dCap) (Nat.zero_le g) h2.out (by omega) hc2 (by rw [List.size_toArray, length_splice _ _ _ (by omega), hcl]) (by rw [hlen]; exact e)
  rw [hlen] at this
  exact this

theorem sat_setRow {w : World} {g : Nat} {cs n : Array Value} {t : TypeId} {m : Nat × Nat} {R : HP} (h : Sat w (pt g (.cells cs t m) * R)) : Sat (w.setRow g n) (pt g (.cells n t m) * R) := h.put (setRow_heap _ _ _ _ _ _ h.heap) (fun k hk => setRow_other _ _ _ _ hk)
theorem same_setRow (w : World) (g : Nat) (n : Array Value) : Same w (w.setRow g n) := ⟨rfl, rfl, rfl, by simp, fun _ _ h => absurd trivial h⟩

theorem _root_.Rv.RdIn.drop {R : HP} {ad : Addr} {vs : List Value} (h : RdIn R (some ad) vs) (k : Nat) : RdIn R (some (ad.add k)) (vs.drop k) := fun w hw j u hu => by
  rw [List.getElem?_drop] at hu
  obtain ⟨ad', e, hc⟩ := h w hw _ u hu
  cases e
  exact ⟨_, rfl, by rw [add_add]; exact hc⟩
theorem move_stay {p : Rv.Pol} {s : Rv.Sums} {tick : Int} (hs : SOk p s) (h : Rv.gridOf p tick ≤ s.grid) : Rv.moveW p s tick = s := by
  unfold Rv.moveW; rw [hs.counts]; exact if_pos h
theorem move_far {p : Rv.Pol} {s : Rv.Sums} {tick : Int} (hs : SOk p s) (h : s.grid < Rv.gridOf p tick) (h2 : p.count ≤ Rv.gridOf p tick - s.grid) : Rv.moveW p s tick = Rv.freshW p tick := by
  unfold Rv.moveW; rw [hs.counts]; simp only; rw [if_neg (by omega), if_neg (by omega)]
theorem move_near {p : Rv.Pol} {s : Rv.Sums} {tick : Int} (hs : SOk p s) (h : s.grid < Rv.gridOf p tick) {k : Nat} (hk : Rv.gridOf p tick - s.grid = (k : Int)) (h2 : (k : Int) < p.count) : Rv.moveW p s tick = ⟨Rv.gridOf p tick, s.l.drop k ++ List.replicate k 0⟩ := by
  unfold Rv.moveW; rw [hs.counts]; simp only; rw [if_neg (by omega), hk, if_pos h2]; simp
theorem fresh_list {p : Rv.Pol} {s : Rv.Sums} {tick : Int} (hs : SOk p s) : Rv.freshW p tick = ⟨Rv.gridOf p tick, List.replicate s.l.length 0⟩ := by
  unfold Rv.freshW; rw [← hs.len]; rfl

def MoveRes (R : HP) (w : World) (s : Rv.Sums) (e : Ending) (w' : World) : Prop := ∃ B c', e = .returned (sumsV s B c') ∧ Sat w' (intsP (.slice B s.l.length c') s.l * R) ∧ Same w w'

set_option maxHeartbeats 4000000 in
set_option maxRecDepth 100000 in
theorem wmove_any (R : HP) (p : Rv.Pol) (s : Rv.Sums) (tick : Int) (A : Option Addr) (c : Nat) (w : World) (hR : Sat w R) (hr : RdIn R A (s.l.map intI)) (hnil : A = none → c = 0) (hs : SOk p s) (h : p.ok = true) (hk : p.kind = 2) :
    Calls Tryz.prog 215 #[.agg (polCells p), sumsV s A c, .int .i64 tick] w (MoveRes R w (Rv.moveW p s tick)) := by
  have Hok := Lib.hid h
  have Hk := Lib.hid hk
  have Hs := Lib.hid hs
  have Hr := Lib.hid hr
  have Hnil := Lib.hid hnil
  have hlen := Lib.hid hs.len
  obtain ⟨-, -, q1, q2⟩ := width_ok h hk
  have S0 := Lib.hid (((hR.alloc (.cells (polCells p) 33)).alloc (.cells #[.int .i64 s.grid, .slice A s.l.length c] 224)).alloc (.cells #[.int .i64 0, .slice none 0 0] 224))
  have Z0 : Hid (Same w (((w.alloc (.cells (polCells p) 33)).alloc (.cells #[.int .i64 s.grid, .slice A s.l.length c] 224)).alloc (.cells #[.int .i64 0, .slice none 0 0] 224))) := Lib.hid (Same.of ((((Kept.refl (fun _ => False) w).alloc _).alloc _).alloc _))
  clear h hk hR hs hr hnil
  go_enter Tryz.func215, Tryz.ntmps215
  go_upto_region 1 with (fail)
  obtain ⟨w0, hw0⟩ : ∃ w0, w0 = ((w.alloc (.cells (polCells p) 33)).alloc (.cells #[.int .i64 s.grid, .slice A s.l.length c] 224)).alloc (.cells #[.int .i64 0, .slice none 0 0] 224) := ⟨_, rfl⟩
  change Code.wp _ _ _ _ (((w.alloc (.cells (polCells p) 33)).alloc (.cells #[.int .i64 s.grid, .slice A s.l.length c] 224)).alloc (.cells #[.int .i64 0, .slice none 0 0] 224))
  rw [← hw0] at S0 Z0 ⊢
  simp only [World.size_alloc] at S0
  clear hw0
  generalize w.heap.size + 1 + 1 = g6 at *
  generalize w.heap.size + 1 = g4 at *
  generalize w.heap.size = g3 at *
  have q3 := Lib.hid S0.out.right.right.heap
  go_wp2_with ((with_reducible refine at_slot 10 ?_); refine wpList_load_row rfl 33 (.tmp 3) rfl g3 (by rfl) 33 (polCells p) (0, 0) _ q3.out Tryz.underlying33 (by rfl) info_pol ?_)
  refine (wmeans_yes p _ Hok.out Hk.out).mono ?_
  rintro e w1 ⟨rfl, b1⟩
  have S1 := Lib.hid (S0.out.below b1)
  have Z1 := Lib.hid (Z0.out.then (Rv.Same.below b1))
  clear b1 S0 Z0 q3
  have q3 := Lib.hid S1.out.right.right.heap
  have q4 := Lib.hid S1.out.right.heap
  go_wp2_with (first | ((with_reducible refine at_slot 14 ?_); refine wpList_load_row rfl 33 (.tmp 3) rfl g3 (by rfl) 33 (polCells p) (0, 0) _ q3.out Tryz.underlying33 (by rfl) info_pol ?_) | ((with_reducible refine at_slot 15 ?_); refine wpList_load_row rfl 224 (.tmp 4) rfl g4 (by rfl) 224 #[.int .i64 s.grid, .slice A s.l.length c] (0, 0) _ q4.out Tryz.underlying224 (by rfl) info_sums ?_))
  refine (counts_any _ p s A c w1 S1.out (Rv.RdIn.right (Rv.RdIn.right (Rv.RdIn.right Hr.out))) Hnil.out Hs.out Hok.out Hk.out).mono ?_
  rintro e w2 ⟨B, C, rfl, s2, z2⟩
  have S2 := Lib.hid s2
  have Z2 := Lib.hid (Z1.out.then z2)
  clear s2 z2 S1 Z1 q3 q4
  have q4 := Lib.hid S2.out.right.right.heap
  go_upto_region 4 with ((with_reducible refine at_store 224 4 16 ?_); refine wpList_store_row rfl 224 (.tmp 4) (.tmp 16) rfl g4 #[.int .i64 s.grid, .slice B s.l.length C] (by rfl) (by rfl) 224 #[.int .i64 s.grid, .slice A s.l.length c] q4.out info_sums (by rfl) (by simp [Value.oneCell']) ?_)
  have S3 : Hid (Sat (w2.setRow g4 #[.int .i64 s.grid, .slice B s.l.length C]) (pt g4 (.cells #[.int .i64 s.grid, .slice B s.l.length C] 224) * (intsP (.slice B s.l.length C) s.l * (pt g6 (.cells #[.int .i64 0, .slice none 0 0] 224) * (pt g3 (.cells (polCells p) 33) * R))))) := Lib.hid (sat_setRow (S2.out.perm (show _ = pt g4 (.cells #[.int .i64 s.grid, .slice A s.l.length c] 224) * (intsP (.slice B s.l.length C) s.l * (pt g6 (.cells #[.int .i64 0, .slice none 0 0] 224) * (pt g3 (.cells (polCells p) 33) * R))) by ac_rfl)))
  have Z3 : Hid (Same w (w2.setRow g4 #[.int .i64 s.grid, .slice B s.l.length C])) := Lib.hid (Z2.out.then (same_setRow _ _ _))
  clear S2 Z2 q4
  generalize w2.setRow g4 #[.int .i64 s.grid, .slice B s.l.length C] = w3 at *
  have q3 := Lib.hid S3.out.right.right.right.heap
  go_wp2_with ((with_reducible refine at_slot 17 ?_); refine wpList_load_row rfl 33 (.tmp 3) rfl g3 (by rfl) 33 (polCells p) (0, 0) _ q3.out Tryz.underlying33 (by rfl) info_pol ?_)
  refine (grid_any p tick w3 Hok.out Hk.out).mono ?_
  rintro e w4 ⟨rfl, b4⟩
  have S4 := Lib.hid (S3.out.below b4)
  have Z4 := Lib.hid (Z3.out.then (Rv.Same.below b4))
  clear b4 S3 Z3 q3
  obtain ⟨to, hto⟩ : ∃ to, Rv.gridOf p tick = to := ⟨_, rfl⟩
  rw [hto]
  have Hto := Lib.hid hto
  clear hto
  have d0 : w4.cell? ⟨g4, 0, none⟩ = some (.int .i64 s.grid) := (sums_cells S4.out.heap).1
  by_cases hle : to ≤ s.grid
  · have HX : Hid (Rv.moveW p s tick = s) := Lib.hid (move_stay Hs.out (by rw [Hto.out]; exact hle))
    have e1 : decide (to ≤ s.grid) = true := by simpa using hle
    have q4 := Lib.hid S4.out.heap
    have q6 := Lib.hid S4.out.right.right.heap
    have S5 := Lib.hid (sat_setRow (n := #[.int .i64 s.grid, .slice B s.l.length C]) (S4.out.perm (show _ = pt g6 (.cells #[.int .i64 0, .slice none 0 0] 224) * (intsP (.slice B s.l.length C) s.l * (pt g4 (.cells #[.int .i64 s.grid, .slice B s.l.length C] 224) * (pt g3 (.cells (polCells p) 33) * R))) by ac_rfl)))
    clear hle
    go_wp2_with (first | ((with_reducible refine at_slot 24 ?_); refine wpList_load_row rfl 224 (.tmp 4) rfl g4 (by rfl) 224 #[.int .i64 s.grid, .slice B s.l.length C] (0, 0) _ q4.out Tryz.underlying224 (by rfl) info_sums ?_) | ((with_reducible refine at_store 224 6 24 ?_); refine wpList_store_row rfl 224 (.tmp 6) (.tmp 24) rfl g6 #[.int .i64 s.grid, .slice B s.l.length C] (by rfl) (by rfl) 224 #[.int .i64 0, .slice none 0 0] q6.out info_sums (by rfl) (by simp [Value.oneCell']) ?_))
    rw [HX.out]
    exact bodyPost_ret (results_cell_row Tryz.results215 _ _ g6 224 _ (0, 0) _ (by rfl) S5.out.heap Tryz.underlying224 (by rfl) info_sums) rfl ⟨B, C, rfl, S5.out.right.drop2.drop2, Z4.out.then (same_setRow _ _ _)⟩
  · have e1 : decide (to ≤ s.grid) = false := by simpa using hle
    have q3 := Lib.hid S4.out.right.right.right.heap
    go_wp2_with ((with_reducible refine at_slot 25 ?_); refine wpList_load_row rfl 33 (.tmp 3) rfl g3 (by rfl) 33 (polCells p) (0, 0) _ q3.out Tryz.underlying33 (by rfl) info_pol ?_)
    refine (fresh_any _ p tick w4 S4.out Hok.out Hk.out).mono ?_
    rw [fresh_list Hs.out, Hto.out]
    rintro e w5 ⟨B', C', rfl, s5, z5⟩
    simp only [sumsV, List.length_replicate] at s5 ⊢
    have S6 := Lib.hid (s5.alloc (.cells #[.int .i64 to, .slice B' s.l.length C'] 224))
    have Z6 := Lib.hid ((Z4.out.then z5).then (Same.of (Kept.alloc (Kept.refl (fun _ => False) _) (.cells #[.int .i64 to, .slice B' s.l.length C'] 224))))
    clear s5 z5 S4 Z4 q3 d0
    have hw1 : IntKind.i64.wrap (to - s.grid) = to - s.grid := IntWalk.i64_in _ (by
      have := Hs.out.g0
      have h1 := clipN_bd 1099511627776 tick (by omega)
      have h2 := width_ok Hok.out Hk.out
      have h3 : to ≤ Rv.clipN 1099511627776 tick := by rw [← Hto.out]; unfold Rv.gridOf; exact Int.ediv_le_self _ h1.1
      omega)
    go_upto_region 8 with (fail)
    generalize w5.alloc (.cells #[.int .i64 to, .slice B' s.l.length C'] 224) = w6 at *
    generalize w5.heap.size = g8 at *
    clear w5
    have d0 : w6.cell? ⟨g4, 0, none⟩ = some (.int .i64 s.grid) := (sums_cells S6.out.right.right.heap).1
    have d5 : w6.cell? ⟨g3, 5, none⟩ = some (.int .i64 p.count) := (cells_of S6.out.right.right.right.right.right.heap 5).trans rfl
    by_cases hfar : p.count ≤ to - s.grid
    · have HX : Hid (Rv.moveW p s tick = ⟨to, List.replicate s.l.length 0⟩) := Lib.hid (by rw [move_far Hs.out (by rw [Hto.out]; omega) (by rw [Hto.out]; exact hfar), fresh_list Hs.out, Hto.out])
      have e2 : decide (to - s.grid < p.count) = false := by simp; omega
      have q8 := Lib.hid S6.out.heap
      have q6 := Lib.hid S6.out.right.right.right.right.heap
      have S7 := Lib.hid (sat_setRow (n := #[.int .i64 to, .slice B' s.l.length C']) (S6.out.perm (show _ = pt g6 (.cells #[.int .i64 0, .slice none 0 0] 224) * (intsP (.slice B' s.l.length C') (List.replicate s.l.length 0) * (pt g8 (.cells #[.int .i64 to, .slice B' s.l.length C'] 224) * (pt g4 (.cells #[.int .i64 s.grid, .slice B s.l.length C] 224) * (intsP (.slice B s.l.length C) s.l * (pt g3 (.cells (polCells p) 33) * R))))) by ac_rfl)))
      clear hfar hle
      go_wp2_with (first | ((with_reducible refine at_slot 43 ?_); refine wpList_load_row rfl 224 (.tmp 8) rfl g8 (by rfl) 224 #[.int .i64 to, .slice B' s.l.length C'] (0, 0) _ q8.out Tryz.underlying224 (by rfl) info_sums ?_) | ((with_reducible refine at_store 224 6 43 ?_); refine wpList_store_row rfl 224 (.tmp 6) (.tmp 43) rfl g6 #[.int .i64 to, .slice B' s.l.length C'] (by rfl) (by rfl) 224 #[.int .i64 0, .slice none 0 0] q6.out info_sums (by rfl) (by simp [Value.oneCell']) ?_))
      rw [HX.out]
      exact bodyPost_ret (results_cell_row Tryz.results215 _ _ g6 224 _ (0, 0) _ (by rfl) S7.out.heap Tryz.underlying224 (by rfl) info_sums) rfl ⟨B', C', by simp, by simpa using S7.out.right.drop2.drop2.drop2.drop2, Z6.out.then (same_setRow _ _ _)⟩
    · have e2 : decide (to - s.grid < p.count) = true := by simp; omega
      obtain ⟨k, hk⟩ : ∃ k : Nat, to - s.grid = (k : Int) := ⟨(to - s.grid).toNat, by omega⟩
      have HX : Hid (Rv.moveW p s tick = ⟨to, s.l.drop k ++ List.replicate k 0⟩) := Lib.hid (by rw [move_near Hs.out (by rw [Hto.out]; omega) (by rw [Hto.out]; exact hk) (by omega), Hto.out])
      go_upto_region 10 with (fail)
      have hsh := (Rv.Sat.row_own (S6.out.right.right.right.left.one)).shape
      obtain ⟨A1, C1, he1, hc1, -, hr1⟩ := hsh
      injection he1 with he1 he2 he3
      subst he1; subst he3
      obtain ⟨u, hu⟩ := some_at (xs := s.l.map intI) (i := 0) (by have := hlen.out; simp; omega)
      obtain ⟨ad, rfl, -⟩ := hr1 0 u hu
      have hkn : k < s.l.length := by have := hlen.out; omega
      have hkc : s.l.length ≤ C := by simpa using hc1
      have d1 : w6.cell? ⟨g8, 1, none⟩ = some (.slice B' s.l.length C') := (sums_cells S6.out.heap).2.1
      have d2 : w6.cell? ⟨g4, 1, none⟩ = some (.slice (some ad) s.l.length C) := (sums_cells S6.out.right.right.heap).2.1
      have hs1 : ¬ C = k := by omega
      have hs0 : (0 : Int) ≤ (k : Int) := by omega
      have hs2 : (k : Int) ≤ (s.l.length : Int) := by omega
      have S7 : Hid (Sat w6.drew (intsP (.slice B' s.l.length C') (List.replicate s.l.length 0) * (pt g8 (.cells #[.int .i64 to, .slice B' s.l.length C'] 224) * (pt g4 (.cells #[.int .i64 s.grid, .slice (some ad) s.l.length C] 224) * (intsP (.slice (some ad) s.l.length C) s.l * (pt g6 (.cells #[.int .i64 0, .slice none 0 0] 224) * (pt g3 (.cells (polCells p) 33) * R))))))) := Lib.hid (S6.out.drew.perm (by ac_rfl))
      have HRd : Hid (RdIn (pt g8 (.cells #[.int .i64 to, .slice B' s.l.length C'] 224) * (pt g4 (.cells #[.int .i64 s.grid, .slice (some ad) s.l.length C] 224) * (intsP (.slice (some ad) s.l.length C) s.l * (pt g6 (.cells #[.int .i64 0, .slice none 0 0] 224) * (pt g3 (.cells (polCells p) 33) * R))))) (some (ad.add k)) ((s.l.drop k).map intI)) := Lib.hid (by
        rw [List.map_drop]
        exact (Rv.RdIn.right (Rv.RdIn.right (Rv.RdIn.left Rv.RdIn.row))).drop k)
      have hone : ∀ v ∈ (s.l.drop k).map intI, v.oneCell' = true := fun v hv => by obtain ⟨y, _, rfl⟩ := List.mem_map.1 hv; rfl
      have Hone := Lib.hid hone
      have hpos : 0 < s.l.length - k := by omega
      have hposn : 0 < s.l.length := by omega
      have hle2 : s.l.length - k ≤ s.l.length := by omega
      have hinfo : (Tryz.prog.info? 3).map (·.size) = some 1 := by kernel_rfl
      have HI := Lib.hid hinfo
      clear hr1 hu he2 hc1 hone hinfo S6 d0 d5 e2 hk hle hfar
      go_region_law (refine step_copy_sat rfl (.tmp 37) (.tmp 41) 39 39 rfl 3 Tryz.underlying39 HI.out B' (some (ad.add k)) s.l.length C' (s.l.length - k) (C - k) (by rfl) (by rfl) ((List.replicate s.l.length 0).map intI) ((s.l.drop k).map intI) S7.out (by simp) hposn (by simp) hle2 hpos HRd.out Hone.out ?_; intro w7 s7 z7)
      all_goals
        have e : (s.l.drop k).map intI ++ ((List.replicate s.l.length 0).map intI).drop ((s.l.drop k).map intI).length = (s.l.drop k ++ List.replicate k 0).map intI := by
          rw [← List.map_drop, ← List.map_append, List.length_map, List.length_drop, List.drop_replicate, show s.l.length - (s.l.length - k) = k by omega]
        rw [e] at s7
        have hl : (s.l.drop k ++ List.replicate k 0).length = s.l.length := by simp; omega
        have q8 := Lib.hid s7.out.right.heap
        have q6 := Lib.hid s7.out.right.right.right.right.heap
        have S8 := Lib.hid (sat_setRow (n := #[.int .i64 to, .slice B' s.l.length C']) (s7.out.perm (show _ = pt g6 (.cells #[.int .i64 0, .slice none 0 0] 224) * (intsP (.slice B' s.l.length C') (s.l.drop k ++ List.replicate k 0) * (pt g8 (.cells #[.int .i64 to, .slice B' s.l.length C'] 224) * (pt g4 (.cells #[.int .i64 s.grid, .slice (some ad) s.l.length C] 224) * (intsP (.slice (some ad) s.l.length C) s.l * (pt g3 (.cells (polCells p) 33) * R))))) by unfold intsP; ac_rfl)))
        have Z8 := Lib.hid ((Z6.out.drew.then z7.out).then (same_setRow w7 g6 #[.int .i64 to, .slice B' s.l.length C']))
        have Hl := Lib.hid hl
        clear e hl s7 z7 S7 HRd Hone hposn hpos hle2 hs0 hs1 hs2 d1 d2
        go_wp2_with (first | ((with_reducible refine at_slot 43 ?_); refine wpList_load_row rfl 224 (.tmp 8) rfl g8 (by rfl) 224 #[.int .i64 to, .slice B' s.l.length C'] (0, 0) _ q8.out Tryz.underlying224 (by rfl) info_sums ?_) | ((with_reducible refine at_store 224 6 43 ?_); refine wpList_store_row rfl 224 (.tmp 6) (.tmp 43) rfl g6 #[.int .i64 to, .slice B' s.l.length C'] (by rfl) (by rfl) 224 #[.int .i64 0, .slice none 0 0] q6.out info_sums (by rfl) (by simp [Value.oneCell']) ?_))
        rw [HX.out]
        exact bodyPost_ret (results_cell_row Tryz.results215 _ _ g6 224 _ (0, 0) _ (by rfl) S8.out.heap Tryz.underlying224 (by rfl) info_sums) rfl
          ⟨B', C', by simp only [sumsV]; rw [Hl.out], by show Sat _ (intsP (.slice B' (s.l.drop k ++ List.replicate k 0).length C') _ * R); rw [Hl.out]; exact S8.out.right.drop2.drop2.drop2.drop2, Z8.out⟩
end Go.Proofs.YtcmndglhileeoaaGreat

/- The walks of package window: Take. -/
set_option linter.unusedSimpArgs false
set_option linter.unusedVariables false
namespace Go.Proofs.YtcmndglhileeoaaGreat
open Go.RowKit
open Rv (HP Sat Same pt allOf sat_all RdIn row own)

/-- A store into a row of one's own. -/
theorem sat_row_set {w : World} {R : HP} {e : TypeId} {g n c : Nat} {vs : List Value} (h : Sat w (row e (.slice (some ⟨g, 0, none⟩) n c) vs * R)) (i : Nat) (hi : i < vs.length) (u : Value) : Sat (w.setCell ⟨g, i, none⟩ u) (row e (.slice (some ⟨g, 0, none⟩) n c) (vs.set i u) * R) :=
  h.row_turn (Kept.setCell (Kept.refl _ _) _ _ (.inl rfl)) ((Rv.Sat.row_own h).set i hi u) (fun k hk => .inl hk)
theorem row_cell {w : World} {R : HP} {e : TypeId} {g n c : Nat} {vs : List Value} (h : Sat w (row e (.slice (some ⟨g, 0, none⟩) n c) vs * R)) (i : Nat) (u : Value) (hu : vs[i]? = some u) : w.cell? ⟨g, i, none⟩ = some u ∧ w.frozen? ⟨g, i, none⟩ = false := by
  have ho := Rv.Sat.row_own h
  obtain ⟨A, c', he, -, -, hr⟩ := ho.shape
  injection he with h1 h2 h3
  subst h1
  obtain ⟨ad, e', hc⟩ := hr i u hu
  cases e'
  rw [add_zero_off] at hc
  obtain ⟨g', cur, e2, -, -, hg, -⟩ := ho.row (by have := (List.getElem?_eq_some_iff.1 hu).1; omega)
  cases e2
  exact ⟨hc, frozen_of hg i⟩

set_option maxHeartbeats 4000000 in
set_option maxRecDepth 100000 in
theorem wtake_any (R : HP) (p : Rv.Pol) (s : Rv.Sums) (cost : Int) (A : Option Addr) (c : Nat) (w : World) (hR : Sat w R) (hr : RdIn R A (s.l.map intI)) (hnil : A = none → c = 0) (hs : SOk p s) (h : p.ok = true) (hk : p.kind = 2) (hc : Rv.costOk cost = true) :
    Calls Tryz.prog 216 #[.agg (polCells p), sumsV s A c, .int .i64 cost] w (MoveRes R w (Rv.takeW p s cost)) := by
  have hcb : 1 ≤ cost ∧ cost ≤ 1048576 := by simpa [Rv.costOk, Rv.inB] using hc
  have Hc := Lib.hid hc
  have Hok := Lib.hid h
  have Hk := Lib.hid hk
  have Hs := Lib.hid hs
  have Hr := Lib.hid hr
  have Hnil := Lib.hid hnil
  have hlen := Lib.hid hs.len
  obtain ⟨-, -, q1, q2⟩ := width_ok h hk
  obtain ⟨k, hkk⟩ : ∃ k : Nat, k + 1 = s.l.length := ⟨s.l.length - 1, by have := hs.len; omega⟩
  obtain ⟨x, hx⟩ := some_at (xs := s.l) (i := k) (by omega)
  have hxb := hs.all x (List.mem_of_getElem? hx)
  have HX : Hid (Rv.takeW p s cost = ⟨s.grid, s.l.set k (min (x + cost) 1099511627776)⟩) := Lib.hid (by
    unfold Rv.takeW
    rw [hs.counts]
    have e : (p.count - 1).toNat = k := by have := hs.len; omega
    simp only [e, List.getD, hx, Option.getD_some])
  have Hx := Lib.hid hx
  have S0 := Lib.hid (((hR.alloc (.cells (polCells p) 33)).alloc (.cells #[.int .i64 s.grid, .slice A s.l.length c] 224)).alloc (.cells #[.int .i64 0, .slice none 0 0] 224))
  have Z0 : Hid (Same w (((w.alloc (.cells (polCells p) 33)).alloc (.cells #[.int .i64 s.grid, .slice A s.l.length c] 224)).alloc (.cells #[.int .i64 0, .slice none 0 0] 224))) := Lib.hid (Same.of ((((Kept.refl (fun _ => False) w).alloc _).alloc _).alloc _))
  clear h hk hR hs hr hnil hx hc
  go_enter Tryz.func216, Tryz.ntmps216
  go_upto_region 1 with (fail)
  obtain ⟨w0, hw0⟩ : ∃ w0, w0 = ((w.alloc (.cells (polCells p) 33)).alloc (.cells #[.int .i64 s.grid, .slice A s.l.length c] 224)).alloc (.cells #[.int .i64 0, .slice none 0 0] 224) := ⟨_, rfl⟩
  change Code.wp _ _ _ _ (((w.alloc (.cells (polCells p) 33)).alloc (.cells #[.int .i64 s.grid, .slice A s.l.length c] 224)).alloc (.cells #[.int .i64 0, .slice none 0 0] 224))
  rw [← hw0] at S0 Z0 ⊢
  simp only [World.size_alloc] at S0
  clear hw0
  generalize w.heap.size + 1 + 1 = g6 at *
  generalize w.heap.size + 1 = g4 at *
  generalize w.heap.size = g3 at *
  have q3 := Lib.hid S0.out.right.right.heap
  go_wp2_with ((with_reducible refine at_slot 8 ?_); refine wpList_load_row rfl 33 (.tmp 3) rfl g3 (by rfl) 33 (polCells p) (0, 0) _ q3.out Tryz.underlying33 (by rfl) info_pol ?_)
  refine (wmeans_yes p _ Hok.out Hk.out).mono ?_
  rintro e w1 ⟨rfl, b1⟩
  have S1 := Lib.hid (S0.out.below b1)
  have Z1 := Lib.hid (Z0.out.then (Rv.Same.below b1))
  clear b1 S0 Z0 q3
  have q3 := Lib.hid S1.out.right.right.heap
  have q4 := Lib.hid S1.out.right.heap
  go_wp2_with (first | ((with_reducible refine at_slot 12 ?_); refine wpList_load_row rfl 33 (.tmp 3) rfl g3 (by rfl) 33 (polCells p) (0, 0) _ q3.out Tryz.underlying33 (by rfl) info_pol ?_) | ((with_reducible refine at_slot 13 ?_); refine wpList_load_row rfl 224 (.tmp 4) rfl g4 (by rfl) 224 #[.int .i64 s.grid, .slice A s.l.length c] (0, 0) _ q4.out Tryz.underlying224 (by rfl) info_sums ?_))
  refine (counts_any _ p s A c w1 S1.out (Rv.RdIn.right (Rv.RdIn.right (Rv.RdIn.right Hr.out))) Hnil.out Hs.out Hok.out Hk.out).mono ?_
  rintro e w2 ⟨B, C, rfl, s2, z2⟩
  have S2 := Lib.hid s2
  have Z2 := Lib.hid (Z1.out.then z2)
  clear s2 z2 S1 Z1 q3 q4
  obtain ⟨gb, cur, rfl, -⟩ := (Rv.Sat.row_own S2.out).row (by simp; omega)
  have q4 := Lib.hid S2.out.right.right.heap
  go_upto_region 4 with ((with_reducible refine at_store 224 4 14 ?_); refine wpList_store_row rfl 224 (.tmp 4) (.tmp 14) rfl g4 #[.int .i64 s.grid, .slice (some ⟨gb, 0, none⟩) s.l.length C] (by rfl) (by rfl) 224 #[.int .i64 s.grid, .slice A s.l.length c] q4.out info_sums (by rfl) (by simp [Value.oneCell']) ?_)
  have S3 : Hid (Sat (w2.setRow g4 #[.int .i64 s.grid, .slice (some ⟨gb, 0, none⟩) s.l.length C]) (pt g4 (.cells #[.int .i64 s.grid, .slice (some ⟨gb, 0, none⟩) s.l.length C] 224) * (intsP (.slice (some ⟨gb, 0, none⟩) s.l.length C) s.l * (pt g6 (.cells #[.int .i64 0, .slice none 0 0] 224) * (pt g3 (.cells (polCells p) 33) * R))))) := Lib.hid (sat_setRow (S2.out.perm (show _ = pt g4 (.cells #[.int .i64 s.grid, .slice A s.l.length c] 224) * (intsP (.slice (some ⟨gb, 0, none⟩) s.l.length C) s.l * (pt g6 (.cells #[.int .i64 0, .slice none 0 0] 224) * (pt g3 (.cells (polCells p) 33) * R))) by ac_rfl)))
  have Z3 : Hid (Same w (w2.setRow g4 #[.int .i64 s.grid, .slice (some ⟨gb, 0, none⟩) s.l.length C])) := Lib.hid (Z2.out.then (same_setRow _ _ _))
  clear S2 Z2 q4
  generalize w2.setRow g4 #[.int .i64 s.grid, .slice (some ⟨gb, 0, none⟩) s.l.length C] = w3 at *
  go_wp2_with fail
  refine (wmay_yes cost Hc.out w3).mono ?_
  rintro e w' ⟨rfl, rfl⟩
  have d1 : w3.cell? ⟨g4, 1, none⟩ = some (.slice (some ⟨gb, 0, none⟩) s.l.length C) := (sums_cells S3.out.heap).2.1
  have d5 : w3.cell? ⟨g3, 5, none⟩ = some (.int .i64 p.count) := (cells_of S3.out.right.right.right.heap 5).trans rfl
  have hw1 : IntKind.i64.wrap (p.count - 1) = (k : Int) := by rw [IntWalk.i64_in _ (by omega)]; have := hlen.out; omega
  have hw2 : IntKind.i64.wrap (x + cost) = x + cost := IntWalk.i64_in _ (by omega)
  obtain ⟨d2, f2⟩ := row_cell S3.out.right.left.one k (intI x) (by simp [Hx.out])
  have hkl : (k : Int) < (s.l.length : Int) := by omega
  have hcm : p.count - 1 = (k : Int) := by have := hlen.out; omega
  go_upto_region 6 with (fail)
  have k6 := Lib.hid (show True from trivial)
  by_cases hm : x + cost ≤ 1099511627776
  · have HY : Hid (Rv.takeW p s cost = ⟨s.grid, s.l.set k (x + cost)⟩) := Lib.hid (by rw [HX.out]; congr 2; omega)
    have hm2 : ¬ 1099511627776 < x + cost := by omega
    go_upto_region 7 with (fail)
    have S5 : Hid (Sat (w3.setCell ⟨gb, k, none⟩ (intI (x + cost))) (intsP (.slice (some ⟨gb, 0, none⟩) s.l.length C) (s.l.set k (x + cost)) * (pt g4 (.cells #[.int .i64 s.grid, .slice (some ⟨gb, 0, none⟩) s.l.length C] 224) * (pt g6 (.cells #[.int .i64 0, .slice none 0 0] 224) * (pt g3 (.cells (polCells p) 33) * R))))) := Lib.hid (by
      have := sat_row_set S3.out.swap k (by simp; omega) (intI (x + cost))
      unfold intsP
      rw [List.map_set]
      exact this)
    have Z5 : Hid (Same w (w3.setCell ⟨gb, k, none⟩ (intI (x + cost)))) := Lib.hid (Z3.out.then (Kept.setCell (Kept.refl _ _) _ _ (.inl trivial)))
    clear S3 Z3 d1 d5 d2 f2
    generalize (w3.setCell ⟨gb, k, none⟩ (intI (x + cost))) = w5 at *
    have q4 := Lib.hid S5.out.right.heap
    have q6 := Lib.hid S5.out.right.right.heap
    have S6 := Lib.hid (sat_setRow (n := #[.int .i64 s.grid, .slice (some ⟨gb, 0, none⟩) s.l.length C]) S5.out.swap.third)
    have Z6 := Lib.hid (Z5.out.then (same_setRow w5 g6 #[.int .i64 s.grid, .slice (some ⟨gb, 0, none⟩) s.l.length C]))
    go_wp2_with (first | ((with_reducible refine at_slot 31 ?_); refine wpList_load_row rfl 224 (.tmp 4) rfl g4 (by rfl) 224 #[.int .i64 s.grid, .slice (some ⟨gb, 0, none⟩) s.l.length C] (0, 0) _ q4.out Tryz.underlying224 (by rfl) info_sums ?_) | ((with_reducible refine at_store 224 6 31 ?_); refine wpList_store_row rfl 224 (.tmp 6) (.tmp 31) rfl g6 #[.int .i64 s.grid, .slice (some ⟨gb, 0, none⟩) s.l.length C] (by rfl) (by rfl) 224 #[.int .i64 0, .slice none 0 0] q6.out info_sums (by rfl) (by simp [Value.oneCell']) ?_))
    rw [HY.out]
    exact bodyPost_ret (results_cell_row Tryz.results216 _ _ g6 224 _ (0, 0) _ (by rfl) S6.out.heap Tryz.underlying224 (by rfl) info_sums) rfl
      ⟨some ⟨gb, 0, none⟩, C, by simp only [sumsV, List.length_set], by simp only [List.length_set]; exact S6.out.right.right.drop2, Z6.out⟩

  · have HY : Hid (Rv.takeW p s cost = ⟨s.grid, s.l.set k 1099511627776⟩) := Lib.hid (by rw [HX.out]; congr 2; omega)
    have hm2 : 1099511627776 < x + cost := by omega
    go_upto_region 7 with (fail)
    have S5 : Hid (Sat (w3.setCell ⟨gb, k, none⟩ (intI (1099511627776))) (intsP (.slice (some ⟨gb, 0, none⟩) s.l.length C) (s.l.set k (1099511627776)) * (pt g4 (.cells #[.int .i64 s.grid, .slice (some ⟨gb, 0, none⟩) s.l.length C] 224) * (pt g6 (.cells #[.int .i64 0, .slice none 0 0] 224) * (pt g3 (.cells (polCells p) 33) * R))))) := Lib.hid (by
      have := sat_row_set S3.out.swap k (by simp; omega) (intI (1099511627776))
      unfold intsP
      rw [List.map_set]
      exact this)
    have Z5 : Hid (Same w (w3.setCell ⟨gb, k, none⟩ (intI (1099511627776)))) := Lib.hid (Z3.out.then (Kept.setCell (Kept.refl _ _) _ _ (.inl trivial)))
    clear S3 Z3 d1 d5 d2 f2
    generalize (w3.setCell ⟨gb, k, none⟩ (intI (1099511627776))) = w5 at *
    have q4 := Lib.hid S5.out.right.heap
    have q6 := Lib.hid S5.out.right.right.heap
    have S6 := Lib.hid (sat_setRow (n := #[.int .i64 s.grid, .slice (some ⟨gb, 0, none⟩) s.l.length C]) S5.out.swap.third)
    have Z6 := Lib.hid (Z5.out.then (same_setRow w5 g6 #[.int .i64 s.grid, .slice (some ⟨gb, 0, none⟩) s.l.length C]))
    go_wp2_with (first | ((with_reducible refine at_slot 31 ?_); refine wpList_load_row rfl 224 (.tmp 4) rfl g4 (by rfl) 224 #[.int .i64 s.grid, .slice (some ⟨gb, 0, none⟩) s.l.length C] (0, 0) _ q4.out Tryz.underlying224 (by rfl) info_sums ?_) | ((with_reducible refine at_store 224 6 31 ?_); refine wpList_store_row rfl 224 (.tmp 6) (.tmp 31) rfl g6 #[.int .i64 s.grid, .slice (some ⟨gb, 0, none⟩) s.l.length C] (by rfl) (by rfl) 224 #[.int .i64 0, .slice none 0 0] q6.out info_sums (by rfl) (by simp [Value.oneCell']) ?_))
    rw [HY.out]
    exact bodyPost_ret (results_cell_row Tryz.results216 _ _ g6 224 _ (0, 0) _ (by rfl) S6.out.heap Tryz.underlying224 (by rfl) info_sums) rfl
      ⟨some ⟨gb, 0, none⟩, C, by simp only [sumsV, List.length_set], by simp only [List.length_set]; exact S6.out.right.right.drop2, Z6.out⟩

end Go.Proofs.YtcmndglhileeoaaGreat

/- The walks of package ledger: what a key owes: later, take, numbers of both kinds. -/
set_option linter.unusedSimpArgs false
set_option linter.unusedVariables false
namespace Go.Proofs.YtcmndglhileeoaaGreat
open Go.RowKit
open Rv (HP Sat Same pt allOf sat_all RdIn row own)

abbrev levelV (n : Int) : Value := .iface 244 (.int .i64 n)
abbrev owedV (s : Rv.Sums) (A : Option Addr) (c : Nat) : Value := .iface 246 (sumsV s A c)

set_option maxHeartbeats 1000000 in
set_option maxRecDepth 100000 in
theorem llater_any (p : Rv.Pol) (n from_ to : Int) (w : World) (h : p.ok = true) (hk : p.kind = 1) (h0 : 0 ≤ from_) (h1 : from_ ≤ 1099511627776) (h2 : 0 ≤ to) (h3 : to ≤ 1099511627776) :
    Calls Tryz.prog 201 #[.int .i64 n, .agg (polCells p), .int .i64 from_, .int .i64 to] w fun e w' => e = .returned (levelV (Rv.decay p n (to - from_))) ∧ Below w.heap.size w w' := by
  have HB := Lib.hid (fun o => (Below.refl w.heap.size w).alloc (Nat.le_refl _) o)
  have Hok := Lib.hid h
  have Hk := Lib.hid hk
  have hw1 : IntKind.i64.wrap (to - from_) = to - from_ := IntWalk.i64_in _ (by omega)
  clear h hk
  go_enter Tryz.func201, Tryz.ntmps201
  go_wp2_with ((with_reducible refine at_slot 9 ?_); refine wpList_load_row rfl 33 (.tmp 5) rfl w.heap.size (by rfl) 33 (polCells p) (0, 0) _ (heap_alloc_new w _) Tryz.underlying33 (by rfl) info_pol ?_)
  refine (decay_any p n (to - from_) _ Hok.out Hk.out).mono ?_
  rintro e w1 ⟨rfl, b1⟩
  have B1 := Lib.hid (below_then (HB.out _) (by simp) b1)
  clear b1
  go_wp2_with fail
  go_ret
  exact ⟨rfl, B1.out⟩

set_option maxHeartbeats 1000000 in
set_option maxRecDepth 100000 in
theorem ltake_any (p : Rv.Pol) (n cost : Int) (w : World) (h : p.ok = true) (hk : p.kind = 1) (hc : Rv.costOk cost = true) :
    Calls Tryz.prog 204 #[.int .i64 n, .agg (polCells p), .int .i64 cost] w fun e w' => e = .returned (levelV (Rv.takeB p n cost)) ∧ Below w.heap.size w w' := by
  have HB := Lib.hid (fun o => (Below.refl w.heap.size w).alloc (Nat.le_refl _) o)
  have Hok := Lib.hid h
  have Hk := Lib.hid hk
  have Hc := Lib.hid hc
  clear h hk hc
  go_enter Tryz.func204, Tryz.ntmps204
  go_wp2_with ((with_reducible refine at_slot 7 ?_); refine wpList_load_row rfl 33 (.tmp 4) rfl w.heap.size (by rfl) 33 (polCells p) (0, 0) _ (heap_alloc_new w _) Tryz.underlying33 (by rfl) info_pol ?_)
  refine (btake_any p n cost _ Hok.out Hk.out Hc.out).mono ?_
  rintro e w1 ⟨rfl, b1⟩
  have B1 := Lib.hid (below_then (HB.out _) (by simp) b1)
  clear b1
  go_wp2_with fail
  go_ret
  exact ⟨rfl, B1.out⟩

theorem lnum_any (n : Int) (w : World) :
    Calls Tryz.prog 203 #[.int .i64 n] w fun e w' => e = .returned (.slice (some ⟨w.heap.size, 0, none⟩) 1 1) ∧ w' = w.alloc (.cells #[.int .i64 n] 3) := by
  go_enter Tryz.func203, Tryz.ntmps203
  go_wp2_with fail
  go_ret
  exact ⟨rfl, rfl⟩
theorem snum_any (s : Rv.Sums) (A : Option Addr) (c : Nat) (w : World) :
    Calls Tryz.prog 213 #[sumsV s A c] w fun e w' => e = .returned (.slice A s.l.length c) ∧ Below w.heap.size w w' := by
  go_enter Tryz.func213, Tryz.ntmps213
  go_wp2_with fail
  go_ret
  exact ⟨rfl, (Below.refl _ _).alloc (Nat.le_refl _) _⟩

theorem info_osums : (Tryz.prog.info? 246).map (·.size) = some 2 := by kernel_rfl
set_option maxHeartbeats 1000000 in
set_option maxRecDepth 100000 in
theorem slater_any (R : HP) (p : Rv.Pol) (s : Rv.Sums) (from_ to : Int) (A : Option Addr) (c : Nat) (w : World) (hR : Sat w R) (hr : RdIn R A (s.l.map intI)) (hnil : A = none → c = 0) (hs : SOk p s) (h : p.ok = true) (hk : p.kind = 2) :
    Calls Tryz.prog 211 #[sumsV s A c, .agg (polCells p), .int .i64 from_, .int .i64 to] w fun e w' => ∃ B c', e = .returned (owedV (Rv.moveW p s to) B c') ∧ Sat w' (intsP (.slice B (Rv.moveW p s to).l.length c') (Rv.moveW p s to).l * R) ∧ Same w w' := by
  have Hok := Lib.hid h
  have Hk := Lib.hid hk
  have Hs := Lib.hid hs
  have Hr := Lib.hid hr
  have Hnil := Lib.hid hnil
  have S0 := Lib.hid ((hR.alloc (.cells #[.int .i64 s.grid, .slice A s.l.length c] 246)).alloc (.cells (polCells p) 33))
  have Z0 : Hid (Same w ((w.alloc (.cells #[.int .i64 s.grid, .slice A s.l.length c] 246)).alloc (.cells (polCells p) 33))) := Lib.hid (Same.of (((Kept.refl (fun _ => False) w).alloc _).alloc _))
  clear h hk hR hs hr hnil
  go_enter Tryz.func211, Tryz.ntmps211
  go_upto_region 1 with (fail)
  obtain ⟨w0, hw0⟩ : ∃ w0, w0 = (w.alloc (.cells #[.int .i64 s.grid, .slice A s.l.length c] 246)).alloc (.cells (polCells p) 33) := ⟨_, rfl⟩
  change Code.wp _ _ _ _ ((w.alloc (.cells #[.int .i64 s.grid, .slice A s.l.length c] 246)).alloc (.cells (polCells p) 33))
  rw [← hw0] at S0 Z0 ⊢
  simp only [World.size_alloc] at S0
  clear hw0
  have q1 := Lib.hid S0.out.heap
  have q0 := Lib.hid S0.out.right.heap
  go_wp2_with (first
    | ((with_reducible refine at_slot 9 ?_); refine wpList_load_row rfl 33 (.tmp 5) rfl (w.heap.size + 1) (by rfl) 33 (polCells p) (0, 0) _ q1.out Tryz.underlying33 (by rfl) info_pol ?_)
    | ((with_reducible refine at_slot 11 ?_); refine wpList_load_row rfl 224 (.tmp 10) rfl w.heap.size (by rfl) 246 #[.int .i64 s.grid, .slice A s.l.length c] (0, 0) _ q0.out Tryz.underlying224 (by rfl) info_sums ?_))
  refine (wmove_any _ p s to A c w0 S0.out (Rv.RdIn.right (Rv.RdIn.right Hr.out)) Hnil.out Hs.out Hok.out Hk.out).mono ?_
  rintro e w1 ⟨B, C, rfl, s1, z1⟩
  have S1 := Lib.hid s1
  have Z1 := Lib.hid (Z0.out.then z1)
  clear s1 z1 S0 Z0 q0 q1
  go_wp2_with fail
  go_ret
  exact ⟨B, C, rfl, S1.out.drop2.drop2, Z1.out⟩

set_option maxHeartbeats 1000000 in
set_option maxRecDepth 100000 in
theorem stake_any (R : HP) (p : Rv.Pol) (s : Rv.Sums) (cost : Int) (A : Option Addr) (c : Nat) (w : World) (hR : Sat w R) (hr : RdIn R A (s.l.map intI)) (hnil : A = none → c = 0) (hs : SOk p s) (h : p.ok = true) (hk : p.kind = 2) (hc : Rv.costOk cost = true) :
    Calls Tryz.prog 214 #[sumsV s A c, .agg (polCells p), .int .i64 cost] w fun e w' => ∃ B c', e = .returned (owedV (Rv.takeW p s cost) B c') ∧ Sat w' (intsP (.slice B (Rv.takeW p s cost).l.length c') (Rv.takeW p s cost).l * R) ∧ Same w w' := by
  have Hok := Lib.hid h
  have Hk := Lib.hid hk
  have Hs := Lib.hid hs
  have Hr := Lib.hid hr
  have Hnil := Lib.hid hnil
  have Hc := Lib.hid hc
  have S0 := Lib.hid ((hR.alloc (.cells #[.int .i64 s.grid, .slice A s.l.length c] 246)).alloc (.cells (polCells p) 33))
  have Z0 : Hid (Same w ((w.alloc (.cells #[.int .i64 s.grid, .slice A s.l.length c] 246)).alloc (.cells (polCells p) 33))) := Lib.hid (Same.of (((Kept.refl (fun _ => False) w).alloc _).alloc _))
  clear h hk hR hs hr hnil hc
  go_enter Tryz.func214, Tryz.ntmps214
  go_upto_region 1 with (fail)
  obtain ⟨w0, hw0⟩ : ∃ w0, w0 = (w.alloc (.cells #[.int .i64 s.grid, .slice A s.l.length c] 246)).alloc (.cells (polCells p) 33) := ⟨_, rfl⟩
  change Code.wp _ _ _ _ ((w.alloc (.cells #[.int .i64 s.grid, .slice A s.l.length c] 246)).alloc (.cells (polCells p) 33))
  rw [← hw0] at S0 Z0 ⊢
  simp only [World.size_alloc] at S0
  clear hw0
  have q1 := Lib.hid S0.out.heap
  have q0 := Lib.hid S0.out.right.heap
  go_wp2_with (first
    | ((with_reducible refine at_slot 7 ?_); refine wpList_load_row rfl 33 (.tmp 4) rfl (w.heap.size + 1) (by rfl) 33 (polCells p) (0, 0) _ q1.out Tryz.underlying33 (by rfl) info_pol ?_)
    | ((with_reducible refine at_slot 9 ?_); refine wpList_load_row rfl 224 (.tmp 8) rfl w.heap.size (by rfl) 246 #[.int .i64 s.grid, .slice A s.l.length c] (0, 0) _ q0.out Tryz.underlying224 (by rfl) info_sums ?_))
  refine (wtake_any _ p s cost A c w0 S0.out (Rv.RdIn.right (Rv.RdIn.right Hr.out)) Hnil.out Hs.out Hok.out Hk.out Hc.out).mono ?_
  rintro e w1 ⟨B, C, rfl, s1, z1⟩
  have S1 := Lib.hid s1
  have Z1 := Lib.hid (Z0.out.then z1)
  clear s1 z1 S0 Z0 q0 q1
  go_wp2_with fail
  go_ret
  exact ⟨B, C, rfl, S1.out.drop2.drop2, Z1.out⟩
end Go.Proofs.YtcmndglhileeoaaGreat

/- The walks of package ledger: owes, is, none, debt. -/
set_option linter.unusedSimpArgs false
set_option linter.unusedVariables false
namespace Go.Proofs.YtcmndglhileeoaaGreat
open Go.RowKit
open Rv (HP Sat Same pt allOf sat_all RdIn row own)

/-- A value that is a debt; what it reads stands in Q. -/
def DebtIn (Q : HP) (p : Rv.Pol) (v : Value) : Rv.Debt → Prop
  | .level n => p.kind = 1 ∧ 0 ≤ n ∧ n ≤ 4611686018427387903 ∧ v = levelV n
  | .sums s => p.kind = 2 ∧ SOk p s ∧ ∃ A c, v = owedV s A c ∧ RdIn Q A (s.l.map intI) ∧ (A = none → c = 0)
def Ext (Q Q' : HP) : Prop := ∀ A vs, RdIn Q A vs → RdIn Q' A vs
theorem Ext.refl (Q : HP) : Ext Q Q := fun _ _ h => h
theorem Ext.then {Q Q' Q'' : HP} (h : Ext Q Q') (k : Ext Q' Q'') : Ext Q Q'' := fun A vs x => k A vs (h A vs x)
theorem Ext.more (P Q : HP) : Ext Q (P * Q) := fun _ _ h => Rv.RdIn.right h
theorem DebtIn.ext {Q Q' : HP} {p : Rv.Pol} {v : Value} {d : Rv.Debt} (h : DebtIn Q p v d) (e : Ext Q Q') : DebtIn Q' p v d := by
  cases d with
  | level n => exact h
  | sums s =>
    obtain ⟨h1, h2, A, c, h3, h4, h5⟩ := h
    exact ⟨h1, h2, A, c, h3, e A _ h4, h5⟩

theorem meth_level (n : Int) (w : World) (m : String) (K : Nat) (h : (m, K) = ("reeve/ledger.numbers", 203) ∨ (m, K) = ("reeve/ledger.later", 201) ∨ (m, K) = ("reeve/ledger.take", 204)) :
    (method 387 244 (.int .i64 n) m).run Tryz.prog w = .ok (K, .int .i64 n) w := by
  rcases h with h | h | h <;> (cases h; kernel_rfl)
theorem meth_sums (v : Value) (w : World) (m : String) (K : Nat) (h : (m, K) = ("reeve/ledger.numbers", 213) ∨ (m, K) = ("reeve/ledger.later", 211) ∨ (m, K) = ("reeve/ledger.take", 214)) :
    (method 387 246 v m).run Tryz.prog w = .ok (K, v) w := by
  rcases h with h | h | h <;> (cases h; kernel_rfl)

set_option maxHeartbeats 1000000 in
set_option maxRecDepth 100000 in
theorem owes_level (n : Int) (w : World) (b : Bool) (hb : (Rv.Debt.level n).owes = b) :
    Calls Tryz.prog 118 #[levelV n] w fun e w' => e = .returned (.bool b) ∧ Below w.heap.size w w' := by
  have hm := fun w => meth_level n w "reeve/ledger.numbers" _ (.inl rfl)
  have Hb := Lib.hid hb
  clear hb
  go_enter Tryz.func118, Tryz.ntmps118
  go_wp2_with fail
  refine (lnum_any n w).mono ?_
  rintro e w1 ⟨rfl, rfl⟩
  go_wp2_with fail
  refine (contains_nz (some ⟨w.heap.size, 0, none⟩) [n] 1 _ (fun j u hu => ⟨_, rfl, ?_⟩) (by simp) b Hb.out).mono ?_
  · rw [add_zero_off, cells_of (heap_alloc_new w _)]
    have : j = 0 := by have := (List.getElem?_eq_some_iff.1 hu).1; simp at this; exact this
    subst this
    cases hu
    rfl
  · rintro e w2 ⟨rfl, rfl⟩
    go_wp2_with fail
    go_ret
    exact ⟨rfl, (Below.refl _ _).alloc (Nat.le_refl _) _⟩
set_option maxHeartbeats 1000000 in
set_option maxRecDepth 100000 in
theorem owes_sums (s : Rv.Sums) (A : Option Addr) (c : Nat) (w : World) (hr : RdV w A (s.l.map intI)) (hl : s.l.length ≤ 64) (b : Bool) (hb : (Rv.Debt.sums s).owes = b) :
    Calls Tryz.prog 118 #[owedV s A c] w fun e w' => e = .returned (.bool b) ∧ Below w.heap.size w w' := by
  have hm := fun v w => meth_sums v w "reeve/ledger.numbers" _ (.inl rfl)
  have Hr := Lib.hid hr
  have Hb := Lib.hid hb
  clear hb hr
  go_enter Tryz.func118, Tryz.ntmps118
  go_wp2_with fail
  refine (snum_any s A c w).mono ?_
  rintro e w1 ⟨rfl, b1⟩
  have B1 := Lib.hid b1
  clear b1
  go_wp2_with fail
  refine (contains_nz A s.l c w1 (Hr.out.below B1.out) (by omega) b Hb.out).mono ?_
  rintro e w2 ⟨rfl, rfl⟩
  go_wp2_with fail
  go_ret
  exact ⟨rfl, B1.out⟩
theorem owes_any {R : HP} {p : Rv.Pol} {v : Value} {d : Rv.Debt} (Q : HP) (w : World) (h : DebtIn Q p v d) (hs : Sat w (Q * R)) (hok : p.ok = true) (b : Bool) (hb : d.owes = b) :
    Calls Tryz.prog 118 #[v] w fun e w' => e = .returned (.bool b) ∧ Below w.heap.size w w' := by
  cases d with
  | level n => obtain ⟨_, _, _, rfl⟩ := h; exact owes_level n w b hb
  | sums s =>
    obtain ⟨h1, h2, A, c, rfl, h4, h5⟩ := h
    exact owes_sums s A c w (h4 w hs.left) (by have := width_ok hok h1; have := h2.len; omega) b hb

theorem is_any (key : ByteArray) (b : Bool) (hb : Rv.keyOk key = b) (w : World) : Calls Tryz.prog 119 #[.string key] w fun e w' => e = .returned (.bool b) ∧ w = w' := by
  subst hb
  unfold Rv.keyOk
  by_cases h0 : 1 ≤ key.size
  · have d0 : decide (1 ≤ key.size) = true := by simpa using h0
    by_cases h1 : key.size ≤ 64
    · have d1 : decide (key.size ≤ 64) = true := by simpa using h1
      rw [d0, d1]
      have d2 : decide ((key.size : Int) ≤ 64) = true := by simp; omega
      go_enter Tryz.func119, Tryz.ntmps119
      go_wp2
      go_ret
      exact ⟨rfl, rfl⟩
    · have d1 : decide (key.size ≤ 64) = false := by simpa using h1
      rw [d0, d1]
      have d2 : decide ((key.size : Int) ≤ 64) = false := by simp; omega
      go_enter Tryz.func119, Tryz.ntmps119
      go_wp2
      go_ret
      exact ⟨rfl, rfl⟩
  · have d0 : decide (1 ≤ key.size) = false := by simpa using h0
    rw [d0]
    go_enter Tryz.func119, Tryz.ntmps119
    go_wp2
    go_ret
    exact ⟨rfl, rfl⟩
end Go.Proofs.YtcmndglhileeoaaGreat

/- The plain law of what is owed, by key: get?, put, in order. No Go. -/
namespace Rv

theorem keyLt_iff (a b : ByteArray) : keyLt a b = true ↔ a.data.toList < b.data.toList := by simp [keyLt]
theorem keyLt_irrefl (a : ByteArray) : keyLt a a = false := by simp [keyLt, List.lt_irrefl]
theorem keyLt_trans {a b c : ByteArray} (h : keyLt a b = true) (k : keyLt b c = true) : keyLt a c = true := by
  rw [keyLt_iff] at *
  exact List.lt_trans h k
theorem key_ext {a b : ByteArray} (h : a.data.toList = b.data.toList) : a = b := by
  cases a; cases b
  simp only at h
  congr 1
  exact Array.toList_inj.1 h
theorem keyLt_total {a b : ByteArray} (h : a ≠ b) (k : keyLt a b = false) : keyLt b a = true := by
  rw [keyLt_iff]
  have k' : ¬ a.data.toList < b.data.toList := by simpa [keyLt] using k
  have h1 : b.data.toList ≤ a.data.toList := List.not_lt.1 k'
  rcases List.le_iff_lt_or_eq.1 h1 with h2 | h2
  · exact h2
  · exact absurd (key_ext h2.symm) h

def Sorted (l : Owed) : Prop := l.Pairwise fun a b => keyLt a.1 b.1 = true

theorem get_put (l : Owed) (key : ByteArray) (d : Debt) (k : ByteArray) : (l.put key d).get? k = if k = key then some d else l.get? k := by
  induction l with
  | nil =>
    simp only [Owed.put, Owed.get?]
    by_cases h : key = k
    · rw [if_pos h, if_pos h.symm]
    · rw [if_neg h, if_neg (fun e => h e.symm)]
  | cons e r ih =>
    obtain ⟨k0, d0⟩ := e
    unfold Owed.put
    by_cases h1 : k0 = key
    · rw [if_pos h1]
      subst h1
      simp only [Owed.get?]
      by_cases h : k0 = k
      · rw [if_pos h, if_pos h.symm]
      · rw [if_neg h, if_neg (fun e => h e.symm), if_neg h]
    · rw [if_neg h1]
      by_cases h2 : keyLt key k0 = true
      · rw [if_pos h2]
        simp only [Owed.get?]
        by_cases h : key = k
        · rw [if_pos h, if_pos h.symm]
        · rw [if_neg h]
          rw [if_neg (fun e : k = key => h e.symm)]
      · rw [if_neg h2]
        simp only [Owed.get?]
        by_cases h : k0 = k
        · rw [if_pos h, if_pos h, if_neg (fun e => h1 (h.trans e))]
        · rw [if_neg h, if_neg h]; exact ih
theorem mem_put {l : Owed} {key : ByteArray} {d : Debt} {x : ByteArray × Debt} (h : x ∈ l.put key d) : x = (key, d) ∨ x ∈ l := by
  induction l with
  | nil => simp only [Owed.put, List.mem_singleton] at h; exact .inl h
  | cons e r ih =>
    obtain ⟨k0, d0⟩ := e
    unfold Owed.put at h
    split at h
    · rcases List.mem_cons.1 h with h | h
      · exact .inl h
      · exact .inr (List.mem_cons_of_mem _ h)
    · split at h
      · rcases List.mem_cons.1 h with h | h
        · exact .inl h
        · exact .inr h
      · rcases List.mem_cons.1 h with h | h
        · exact .inr (h ▸ List.mem_cons_self)
        · rcases ih h with h | h
          · exact .inl h
          · exact .inr (List.mem_cons_of_mem _ h)
theorem sorted_put {l : Owed} (h : Sorted l) (key : ByteArray) (d : Debt) : Sorted (l.put key d) := by
  induction l with
  | nil => exact List.pairwise_singleton _ _
  | cons e r ih =>
    obtain ⟨k0, d0⟩ := e
    obtain ⟨h1, h2⟩ := List.pairwise_cons.1 h
    unfold Owed.put
    by_cases hk : k0 = key
    · rw [if_pos hk]
      subst hk
      exact List.pairwise_cons.2 ⟨fun x hx => h1 x hx, h2⟩
    · rw [if_neg hk]
      by_cases hlt : keyLt key k0 = true
      · rw [if_pos hlt]
        refine List.pairwise_cons.2 ⟨fun x hx => ?_, h⟩
        rcases List.mem_cons.1 hx with rfl | hx
        · exact hlt
        · exact keyLt_trans hlt (h1 x hx)
      · rw [if_neg hlt]
        refine List.pairwise_cons.2 ⟨fun x hx => ?_, ih h2⟩
        rcases mem_put hx with rfl | hx
        · exact keyLt_total (fun e => hk e.symm) (by simpa using hlt)
        · exact h1 x hx
theorem put_length (l : Owed) (key : ByteArray) (d : Debt) : (l.put key d).length ≤ l.length + 1 := by
  induction l with
  | nil => simp [Owed.put]
  | cons e r ih =>
    obtain ⟨k0, d0⟩ := e
    unfold Owed.put
    split
    · simp
    · split
      · simp
      · simp; omega

theorem get_mem {l : Owed} {k : ByteArray} {d : Debt} (h : l.get? k = some d) : (k, d) ∈ l := by
  induction l with
  | nil => simp [Owed.get?] at h
  | cons e r ih =>
    obtain ⟨k0, d0⟩ := e
    unfold Owed.get? at h
    by_cases hk : k0 = k
    · rw [if_pos hk] at h; cases h; subst hk; exact List.mem_cons_self
    · rw [if_neg hk] at h; exact List.mem_cons_of_mem _ (ih h)
theorem get_of {l : Owed} (hs : Sorted l) {k : ByteArray} {d : Debt} (h : (k, d) ∈ l) : l.get? k = some d := by
  induction l with
  | nil => cases h
  | cons e r ih =>
    obtain ⟨k0, d0⟩ := e
    obtain ⟨h1, h2⟩ := List.pairwise_cons.1 hs
    unfold Owed.get?
    rcases List.mem_cons.1 h with h | h
    · cases h; rw [if_pos rfl]
    · have : k0 ≠ k := fun e => by
        have := h1 _ h
        simp only at this
        rw [e, keyLt_irrefl] at this
        cases this
      rw [if_neg this]; exact ih h2 h
theorem get_none {l : Owed} {k : ByteArray} : l.get? k = none ↔ ∀ d, (k, d) ∉ l := by
  induction l with
  | nil => simp [Owed.get?]
  | cons e r ih =>
    obtain ⟨k0, d0⟩ := e
    unfold Owed.get?
    by_cases hk : k0 = k
    · rw [if_pos hk]
      subst hk
      simp only [reduceCtorEq, false_iff]
      intro h
      exact h d0 List.mem_cons_self
    · rw [if_neg hk, ih]
      constructor
      · intro h d hm
        rcases List.mem_cons.1 hm with hm | hm
        · cases hm; exact hk rfl
        · exact h d hm
      · intro h d hm
        exact h d (List.mem_cons_of_mem _ hm)
/-- What a move of all does to one. -/
theorem get_move {l : Owed} (hs : Sorted l) (f : Debt → Debt) (k : ByteArray) :
    Owed.get? ((l.map fun e => (e.1, f e.2)).filter fun e => e.2.owes) k = match l.get? k with
      | none => none
      | some d => if (f d).owes then some (f d) else none := by
  induction l with
  | nil => rfl
  | cons e r ih =>
    obtain ⟨k0, d0⟩ := e
    obtain ⟨h1, h2⟩ := List.pairwise_cons.1 hs
    have ih := ih h2
    simp only [List.map_cons, List.filter_cons]
    by_cases hk : k0 = k
    · subst hk
      have hn : Owed.get? r k0 = none := get_none.2 (fun d hm => by
        have := h1 _ hm
        simp only at this
        rw [keyLt_irrefl] at this
        cases this)
      rw [hn] at ih
      simp only at ih
      rw [show Owed.get? ((k0, d0) :: r) k0 = some d0 by unfold Owed.get?; rw [if_pos rfl]]
      simp only
      by_cases ho : (f d0).owes = true
      · rw [if_pos ho, if_pos ho]; unfold Owed.get?; rw [if_pos rfl]
      · rw [if_neg ho, if_neg ho]; exact ih
    · rw [show Owed.get? ((k0, d0) :: r) k = Owed.get? r k by rw [Owed.get?]; rw [if_neg hk]]
      rw [← ih]
      split
      · rw [Owed.get?, if_neg hk]
      · rfl
theorem sorted_move {l : Owed} (hs : Sorted l) (f : Debt → Debt) : Sorted ((l.map fun e => (e.1, f e.2)).filter fun e => e.2.owes) := by
  refine List.Pairwise.sublist List.filter_sublist ?_
  rw [List.pairwise_map]
  exact hs
end Rv

/- What a ledger is, as a part of memory; the walks of none and debt. -/
set_option linter.unusedSimpArgs false
set_option linter.unusedVariables false
namespace Go.Proofs.YtcmndglhileeoaaGreat
open Go.RowKit
open Rv (HP Sat Same pt allOf sat_all RdIn row own)

/-! ### windows stay as they should be -/
theorem grid_le (p : Rv.Pol) (t : Int) (hw : 1 ≤ p.width) : 0 ≤ Rv.gridOf p t ∧ Rv.gridOf p t ≤ Rv.gridOf p 1099511627776 := by
  unfold Rv.gridOf
  have h1 := clipN_bd 1099511627776 t (by omega)
  have h2 : Rv.clipN 1099511627776 1099511627776 = 1099511627776 := by unfold Rv.clipN; omega
  rw [h2]
  exact ⟨Int.ediv_nonneg h1.1 (by omega), Int.ediv_le_ediv (by omega) h1.2⟩
theorem SOk.fresh {p : Rv.Pol} (h : p.ok = true) (hk : p.kind = 2) (t : Int) : SOk p (Rv.freshW p t) := by
  obtain ⟨q1, q2, q3, q4⟩ := width_ok h hk
  obtain ⟨g0, g1⟩ := grid_le p t q1
  refine ⟨g0, g1, ?_, fun n hn => ?_⟩
  · unfold Rv.freshW; simp; omega
  · unfold Rv.freshW at hn
    have := List.eq_of_mem_replicate hn
    omega
theorem SOk.move {p : Rv.Pol} {s : Rv.Sums} (hs : SOk p s) (h : p.ok = true) (hk : p.kind = 2) (t : Int) : SOk p (Rv.moveW p s t) := by
  obtain ⟨q1, q2, q3, q4⟩ := width_ok h hk
  obtain ⟨g0, g1⟩ := grid_le p t q1
  by_cases h1 : Rv.gridOf p t ≤ s.grid
  · rw [move_stay hs h1]; exact hs
  · by_cases h2 : p.count ≤ Rv.gridOf p t - s.grid
    · rw [move_far hs (by omega) h2]; exact SOk.fresh h hk t
    · obtain ⟨k, hk'⟩ : ∃ k : Nat, Rv.gridOf p t - s.grid = (k : Int) := ⟨(Rv.gridOf p t - s.grid).toNat, by omega⟩
      rw [move_near hs (by omega) hk' (by omega)]
      refine ⟨g0, g1, ?_, fun n hn => ?_⟩
      · have := hs.len; simp; omega
      · rcases List.mem_append.1 hn with hn | hn
        · exact hs.all n (List.mem_of_mem_drop hn)
        · have := List.eq_of_mem_replicate hn; omega
theorem SOk.take {p : Rv.Pol} {s : Rv.Sums} (hs : SOk p s) (h : p.ok = true) (hk : p.kind = 2) {cost : Int} (hc : Rv.costOk cost = true) : SOk p (Rv.takeW p s cost) := by
  obtain ⟨q1, q2, q3, q4⟩ := width_ok h hk
  have hcb : 1 ≤ cost ∧ cost ≤ 1048576 := by simpa [Rv.costOk, Rv.inB] using hc
  unfold Rv.takeW
  rw [hs.counts]
  refine ⟨hs.g0, hs.g1, by simpa using hs.len, fun n hn => ?_⟩
  rcases List.mem_or_eq_of_mem_set hn with hn | hn
  · exact hs.all n hn
  · have hl := hs.len
    obtain ⟨x, hx⟩ := some_at (xs := s.l) (i := (p.count - 1).toNat) (by omega)
    have hb := hs.all x (List.mem_of_getElem? hx)
    simp only [List.getD, hx, Option.getD_some] at hn
    omega

/-! ### the ledger -/
def EntRel (Q : HP) (p : Rv.Pol) : Option Rv.Debt → Option Value → Prop
  | none, none => True
  | some d, some v => DebtIn Q p v d
  | _, _ => False
theorem EntRel.ext {Q Q' : HP} {p : Rv.Pol} {d : Option Rv.Debt} {v : Option Value} (h : EntRel Q p d v) (e : Ext Q Q') : EntRel Q' p d v := by
  cases d <;> cases v <;> first | exact h | exact DebtIn.ext h e
abbrev ledCells (p : Rv.Pol) (tick : Int) (bm : Nat) : Array Value := #[.int .i64 p.kind, .int .i64 p.cap, .int .i64 p.num, .int .i64 p.den, .int .i64 p.width, .int .i64 p.count, .int .i64 p.keys, .int .i64 p.slots, .int .i64 p.every, .int .i64 p.seg, .int .i64 tick, .map (some bm)]
structure LOk (Q : HP) (l : Rv.Ledger) (es : Array MapEntry) (clock : Nat) : Prop where
  ok : l.p.ok = true
  t0 : 0 ≤ l.tick
  t1 : l.tick ≤ 1099511627776
  fit : Rv.SMap es clock
  rel : ∀ k, EntRel Q l.p (l.of.get? k) (Rv.findE es.toList k)
  sorted : Rv.Sorted l.of
  keys : ∀ e ∈ l.of, 1 ≤ e.1.size ∧ e.1.size ≤ 64
def ledBox (g : Nat) (l : Rv.Ledger) (bm : Nat) : HP := pt g (.cells (ledCells l.p l.tick bm) 156)
def mapBox (bm : Nat) (es : Array MapEntry) (clock : Nat) : HP := pt bm (.map es clock)
def ledP (Q : HP) (g : Nat) (l : Rv.Ledger) : HP := fun h => ∃ bm es clock, LOk Q l es clock ∧ (ledBox g l bm * mapBox bm es clock) h
theorem ledP_open {w : World} {Q R : HP} {g : Nat} {l : Rv.Ledger} (h : Sat w (ledP Q g l * R)) : ∃ bm es clock, LOk Q l es clock ∧ Sat w (ledBox g l bm * (mapBox bm es clock * R)) := by
  obtain ⟨a, b, ⟨bm, es, clock, hl, ha⟩, hb, hd, h1, h2⟩ := h.parts
  exact ⟨bm, es, clock, hl, (Rv.Sat.of_parts ha hb hd h1 h2).perm (Rv.star_assoc _ _ _)⟩
theorem ledP_shut {w : World} {Q R : HP} {g bm : Nat} {l : Rv.Ledger} {es : Array MapEntry} {clock : Nat} (hl : LOk Q l es clock) (h : Sat w (ledBox g l bm * (mapBox bm es clock * R))) : Sat w (ledP Q g l * R) := by
  rw [← Rv.star_assoc] at h
  exact h.imp (fun a ha => ⟨bm, es, clock, hl, ha⟩)
theorem LOk.ext {Q Q' : HP} {l : Rv.Ledger} {es : Array MapEntry} {clock : Nat} (h : LOk Q l es clock) (e : Ext Q Q') : LOk Q' l es clock := ⟨h.ok, h.t0, h.t1, h.fit, fun k => (h.rel k).ext e, h.sorted, h.keys⟩
theorem ledP_ext {w : World} {Q Q' R : HP} {g : Nat} {l : Rv.Ledger} (h : Sat w (ledP Q g l * R)) (e : Ext Q Q') : Sat w (ledP Q' g l * R) := by
  obtain ⟨bm, es, clock, hl, hs⟩ := ledP_open h
  exact ledP_shut (hl.ext e) hs

/-- What none and debt tell. -/
def DebtRes (Q : HP) (L : HP) (R : HP) (p : Rv.Pol) (w : World) (d : Rv.Debt) (e : Ending) (w' : World) : Prop :=
  ∃ v Q', e = .returned v ∧ DebtIn Q' p v d ∧ Ext Q Q' ∧ Sat w' (L * (Q' * R)) ∧ Same w w'
theorem led_cells {w : World} {g bm : Nat} {l : Rv.Ledger} {R : HP} (h : Sat w (ledBox g l bm * R)) : w.heap[g]? = some (.cells (ledCells l.p l.tick bm) 156 (0, 0)) := Rv.Sat.heap h

set_option maxHeartbeats 2000000 in
set_option maxRecDepth 100000 in
theorem none_level (w : World) (Q L R : HP) (g bm : Nat) (l : Rv.Ledger) (h : Sat w (ledBox g l bm * R)) (hk : l.p.kind = 1) :
    Calls Tryz.prog 142 #[.pointer (some ⟨g, 0, none⟩)] w fun e w' => e = .returned (levelV 0) ∧ w = w' := by
  have d0 : w.cell? ⟨g, 0, none⟩ = some (.int .i64 1) := by rw [cells_of (led_cells h)]; show some (Value.int .i64 l.p.kind) = _; rw [hk]
  clear h hk
  go_enter Tryz.func142, Tryz.ntmps142
  go_wp2
  go_ret
  exact ⟨rfl, rfl⟩
theorem led_eleven {w : World} {g bm : Nat} {l : Rv.Ledger} {R : HP} (h : Sat w (ledBox g l bm * R)) : w.cell? ⟨g, 0, none⟩ = some (.int .i64 l.p.kind) ∧ w.cell? ⟨g, 1, none⟩ = some (.int .i64 l.p.cap) ∧ w.cell? ⟨g, 2, none⟩ = some (.int .i64 l.p.num) ∧ w.cell? ⟨g, 3, none⟩ = some (.int .i64 l.p.den) ∧ w.cell? ⟨g, 4, none⟩ = some (.int .i64 l.p.width) ∧ w.cell? ⟨g, 5, none⟩ = some (.int .i64 l.p.count) ∧ w.cell? ⟨g, 6, none⟩ = some (.int .i64 l.p.keys) ∧ w.cell? ⟨g, 7, none⟩ = some (.int .i64 l.p.slots) ∧ w.cell? ⟨g, 8, none⟩ = some (.int .i64 l.p.every) ∧ w.cell? ⟨g, 9, none⟩ = some (.int .i64 l.p.seg) ∧ w.cell? ⟨g, 10, none⟩ = some (.int .i64 l.tick) := by
  have q := led_cells h
  refine ⟨?_, ?_, ?_, ?_, ?_, ?_, ?_, ?_, ?_, ?_, ?_⟩ <;> (rw [cells_of q]; rfl)
theorem led_twelve {w : World} {g bm : Nat} {l : Rv.Ledger} {R : HP} (h : Sat w (ledBox g l bm * R)) : w.cell? ⟨g, 0, none⟩ = some (.int .i64 l.p.kind) ∧ w.cell? ⟨g, 1, none⟩ = some (.int .i64 l.p.cap) ∧ w.cell? ⟨g, 2, none⟩ = some (.int .i64 l.p.num) ∧ w.cell? ⟨g, 3, none⟩ = some (.int .i64 l.p.den) ∧ w.cell? ⟨g, 4, none⟩ = some (.int .i64 l.p.width) ∧ w.cell? ⟨g, 5, none⟩ = some (.int .i64 l.p.count) ∧ w.cell? ⟨g, 6, none⟩ = some (.int .i64 l.p.keys) ∧ w.cell? ⟨g, 7, none⟩ = some (.int .i64 l.p.slots) ∧ w.cell? ⟨g, 8, none⟩ = some (.int .i64 l.p.every) ∧ w.cell? ⟨g, 9, none⟩ = some (.int .i64 l.p.seg) ∧ w.cell? ⟨g, 10, none⟩ = some (.int .i64 l.tick) ∧ w.cell? ⟨g, 11, none⟩ = some (.map (some bm)) := by
  have q := led_cells h
  refine ⟨?_, ?_, ?_, ?_, ?_, ?_, ?_, ?_, ?_, ?_, ?_, ?_⟩ <;> (rw [cells_of q]; rfl)

set_option maxHeartbeats 2000000 in
set_option maxRecDepth 100000 in
theorem none_sums (w : World) (R : HP) (g bm : Nat) (l : Rv.Ledger) (h : Sat w (ledBox g l bm * R)) (hok : l.p.ok = true) (hk : l.p.kind = 2) :
    Calls Tryz.prog 142 #[.pointer (some ⟨g, 0, none⟩)] w fun e w' => ∃ B c', e = .returned (owedV (Rv.freshW l.p l.tick) B c') ∧ Sat w' (intsP (.slice B (Rv.freshW l.p l.tick).l.length c') (Rv.freshW l.p l.tick).l * (ledBox g l bm * R)) ∧ Same w w' := by
  have d0 : w.cell? ⟨g, 0, none⟩ = some (.int .i64 l.p.kind) := by rw [cells_of (led_cells h)]; rfl
  have d1 : (l.p.kind == 1) = false := by rw [hk]; rfl
  have Hok := Lib.hid hok
  have Hk := Lib.hid hk
  have H := Lib.hid h
  have K0 := Lib.hid (led_eleven h)
  clear h hok hk
  go_enter Tryz.func142, Tryz.ntmps142
  go_upto_region 3 with (fail)
  clear d0 d1
  go_region_held3 (fun w' => w'.cell? ⟨g, 0, none⟩ = some (.int .i64 l.p.kind) ∧ w'.cell? ⟨g, 1, none⟩ = some (.int .i64 l.p.cap) ∧ w'.cell? ⟨g, 2, none⟩ = some (.int .i64 l.p.num) ∧ w'.cell? ⟨g, 3, none⟩ = some (.int .i64 l.p.den) ∧ w'.cell? ⟨g, 4, none⟩ = some (.int .i64 l.p.width) ∧ w'.cell? ⟨g, 5, none⟩ = some (.int .i64 l.p.count) ∧ w'.cell? ⟨g, 6, none⟩ = some (.int .i64 l.p.keys) ∧ w'.cell? ⟨g, 7, none⟩ = some (.int .i64 l.p.slots) ∧ w'.cell? ⟨g, 8, none⟩ = some (.int .i64 l.p.every) ∧ w'.cell? ⟨g, 9, none⟩ = some (.int .i64 l.p.seg) ∧ w'.cell? ⟨g, 10, none⟩ = some (.int .i64 l.tick)) (first | exact K1.out | exact K0.out | go_keep)
    (first
      | (go_at_call 156; refine (fresh_any _ l.p l.tick w.drew H.out.drew Hok.out Hk.out).mono ?_; rintro e w2 ⟨B, C, rfl, s2, z2⟩; have S2 := Lib.hid s2; have Z2 := Lib.hid z2; have K1 := Lib.hid (led_eleven S2.out.right); clear s2 z2))
  clear K0 K1 H
  go_wp2_with fail
  go_ret
  exact ⟨B, C, rfl, S2.out, (Same.drew (Same.refl w)).then Z2.out⟩

theorem fresh_debt {Q : HP} {p : Rv.Pol} {t : Int} (h : p.ok = true) (hk : p.kind = 2) {B : Option Addr} {c : Nat} {w : World} {R : HP} (hs : Sat w (intsP (.slice B (Rv.freshW p t).l.length c) (Rv.freshW p t).l * R)) :
    DebtIn (intsP (.slice B (Rv.freshW p t).l.length c) (Rv.freshW p t).l * Q) p (owedV (Rv.freshW p t) B c) (.sums (Rv.freshW p t)) :=
  ⟨hk, SOk.fresh h hk t, B, c, rfl, Rv.RdIn.left Rv.RdIn.row, (Rv.Sat.row_own hs).nilcap⟩

theorem none_any (w : World) (Q M R : HP) (g bm : Nat) (l : Rv.Ledger) (h : Sat w (ledBox g l bm * (M * (Q * R)))) (hok : l.p.ok = true) :
    Calls Tryz.prog 142 #[.pointer (some ⟨g, 0, none⟩)] w (DebtRes Q (ledBox g l bm * M) R l.p w l.none_) := by
  unfold Rv.Ledger.none_
  rcases kind_ok hok with hk | hk
  · rw [if_pos hk]
    refine (none_level w Q M _ g bm l h hk).mono ?_
    rintro e w' ⟨rfl, rfl⟩
    exact ⟨_, Q, rfl, ⟨hk, by omega, by omega, rfl⟩, Ext.refl Q, h.perm (by ac_rfl), Same.refl w⟩
  · rw [if_neg (by omega)]
    refine (none_sums w _ g bm l h hok hk).mono ?_
    rintro e w' ⟨B, c, rfl, s2, z2⟩
    exact ⟨_, _, rfl, fresh_debt hok hk s2, Ext.more _ Q, s2.perm (by ac_rfl), z2⟩

theorem zero_debt (w : World) : (zeroValue 175).run Tryz.prog w = .ok .nilIface w := by kernel_rfl
theorem neq_level (n : Int) (w : World) : (binOp .neq 175 (levelV n) .nilIface).run Tryz.prog w = .ok (.bool true) w := by kernel_rfl
theorem neq_sums (s : Rv.Sums) (A : Option Addr) (c : Nat) (w : World) : (binOp .neq 175 (owedV s A c) .nilIface).run Tryz.prog w = .ok (.bool true) w := by kernel_rfl
theorem neq_nil (w : World) : (binOp .neq 175 .nilIface .nilIface).run Tryz.prog w = .ok (.bool false) w := by kernel_rfl

set_option maxHeartbeats 2000000 in
set_option maxRecDepth 100000 in
theorem debt_any (w : World) (Q R : HP) (g bm : Nat) (l : Rv.Ledger) (es : Array MapEntry) (clock : Nat) (key : ByteArray) (hl : LOk Q l es clock) (h : Sat w (ledBox g l bm * (mapBox bm es clock * (Q * R)))) :
    Calls Tryz.prog 120 #[.pointer (some ⟨g, 0, none⟩), .string key] w (DebtRes Q (ledBox g l bm * mapBox bm es clock) R l.p w (l.debt key)) := by
  have d11 : w.cell? ⟨g, 11, none⟩ = some (.map (some bm)) := by rw [cells_of (led_cells h)]; rfl
  have hb : w.heap[bm]? = some (.map es clock) := Rv.Sat.heap (o := .map es clock) h.right
  have hrun := Rv.run_look (P := Tryz.prog) (t := 154) (k := 9) (e := 175) Tryz.underlying154 Tryz.underlying9 hb hl.fit key zero_debt false
  have hrel := hl.rel key
  have Hok := Lib.hid hl.ok
  have H := Lib.hid h
  cases ho : l.of.get? key with
  | none =>
    cases hf : Rv.findE es.toList key with
    | some v => rw [ho, hf] at hrel; exact hrel.elim
    | none =>
      have HX : Hid (l.debt key = l.none_) := Lib.hid (by unfold Rv.Ledger.debt; rw [ho]; rfl)
      have Hn := Lib.hid (none_any w Q (mapBox bm es clock) R g bm l h hl.ok)
      rw [hf] at hrun
      simp only [Option.getD_none, Bool.false_eq_true, if_false] at hrun
      have hq := neq_nil
      clear hb hrel ho hf hl h
      go_enter Tryz.func120, Tryz.ntmps120
      go_wp2_with fail
      refine Hn.out.mono ?_
      rintro e w2 ⟨v, Q', rfl, h1, h2, h3, h4⟩
      have H1 := Lib.hid h1
      have H2 := Lib.hid h2
      have H3 := Lib.hid h3
      have H4 := Lib.hid h4
      clear h1 h2 h3 h4
      go_wp2_with fail
      go_ret
      rw [HX.out]
      exact ⟨v, Q', rfl, H1.out, H2.out, H3.out, H4.out⟩
  | some d =>
    cases hf : Rv.findE es.toList key with
    | none => rw [ho, hf] at hrel; exact hrel.elim
    | some v =>
      rw [ho, hf] at hrel
      have hd : DebtIn Q l.p v d := hrel
      have HX : Hid (l.debt key = d) := Lib.hid (by unfold Rv.Ledger.debt; rw [ho]; rfl)
      have HD := Lib.hid hd
      rw [hf] at hrun
      simp only [Option.getD_some, Bool.false_eq_true, if_false] at hrun
      clear hb hrel ho hf hl h
      cases d with
      | level n =>
        obtain ⟨_, _, _, rfl⟩ := hd
        have hq := neq_level n
        go_enter Tryz.func120, Tryz.ntmps120
        go_wp2_with fail
        go_ret
        rw [HX.out]
        exact ⟨_, Q, rfl, HD.out, Ext.refl Q, H.out.perm (by ac_rfl), Same.refl w⟩
      | sums s =>
        obtain ⟨_, _, A, c, rfl, _⟩ := hd
        have hq := neq_sums s A c
        go_enter Tryz.func120, Tryz.ntmps120
        go_wp2_with fail
        go_ret
        rw [HX.out]
        exact ⟨_, Q, rfl, HD.out, Ext.refl Q, H.out.perm (by ac_rfl), Same.refl w⟩
end Go.Proofs.YtcmndglhileeoaaGreat

/- The walks of package ledger: Charge. -/
set_option linter.unusedSimpArgs false
set_option linter.unusedVariables false
namespace Go.Proofs.YtcmndglhileeoaaGreat
open Go.RowKit
open Rv (HP Sat Same pt allOf sat_all RdIn row own)

theorem takeB_bd (p : Rv.Pol) (n c : Int) : 0 ≤ Rv.takeB p n c ∧ Rv.takeB p n c ≤ 4611686018427387903 := by unfold Rv.takeB Rv.maxNumber; exact clipN_bd _ _ (by omega)
theorem decay_bd (p : Rv.Pol) (n c : Int) : 0 ≤ Rv.decay p n c ∧ Rv.decay p n c ≤ 4611686018427387903 := by unfold Rv.decay Rv.maxNumber; exact clipN_bd _ _ (by omega)

theorem nil_level (n : Int) (w : World) : (nilAhead 387 244 (.int .i64 n) "reeve/ledger.take").run Tryz.prog w = .ok (some false) w := by kernel_rfl
theorem nil_sums (v : Value) (w : World) : (nilAhead 387 246 v "reeve/ledger.take").run Tryz.prog w = .ok (some false) w := by kernel_rfl
theorem nil_level2 (n : Int) (w : World) : (nilAhead 387 244 (.int .i64 n) "reeve/ledger.later").run Tryz.prog w = .ok (some false) w := by kernel_rfl
theorem nil_sums2 (v : Value) (w : World) : (nilAhead 387 246 v "reeve/ledger.later").run Tryz.prog w = .ok (some false) w := by kernel_rfl

/-- A ledger behind a call, and what it reads. -/
def LedRes (Q R : HP) (w : World) (g : Nat) (l' : Rv.Ledger) (v : Value) (e : Ending) (w' : World) : Prop :=
  e = .returned v ∧ ∃ Q', Ext Q Q' ∧ Sat w' (ledP Q' g l' * (Q' * R)) ∧ Same w w'
theorem sat_setB {w : World} {bm : Nat} {es es' : Array MapEntry} {clock clock' : Nat} {R : HP} (h : Sat w (mapBox bm es clock * R)) : Sat (Rv.setB w bm (.map es' clock')) (mapBox bm es' clock' * R) :=
  Rv.Sat.put (o := .map es clock) h (Rv.setB_same (Rv.Sat.heap (o := .map es clock) h)) (fun k hk => Rv.setB_other hk)
theorem same_setB (w : World) (bm : Nat) (o : Obj) : Same w (Rv.setB w bm o) := (Kept.refl _ _).setB _ _ (.inl trivial)
theorem LOk.put {Q Q' : HP} {l : Rv.Ledger} {es es' : Array MapEntry} {clock clock' : Nat} {key : ByteArray} {d : Rv.Debt} {v : Value} (h : LOk Q l es clock) (e : Ext Q Q') (hk : Rv.keyOk key = true) (hd : DebtIn Q' l.p v d) (fit : Rv.SMap es' clock')
    (hf : ∀ k, Rv.findE es'.toList k = if k = key then some v else Rv.findE es.toList k) : LOk Q' { l with of := l.of.put key d } es' clock' := by
  refine ⟨h.ok, h.t0, h.t1, fit, fun k => ?_, Rv.sorted_put h.sorted key d, fun x hx => ?_⟩
  · show EntRel Q' l.p ((l.of.put key d).get? k) _
    rw [Rv.get_put, hf]
    by_cases hkk : k = key
    · rw [if_pos hkk, if_pos hkk]; exact hd
    · rw [if_neg hkk, if_neg hkk]; exact (h.rel k).ext e
  · rcases Rv.mem_put hx with rfl | hx
    · simpa [Rv.keyOk] using hk
    · exact h.keys x hx
theorem charge_eq {l : Rv.Ledger} {key : ByteArray} {cost : Int} (hk : Rv.keyOk key = true) (hc : Rv.costOk cost = true) : l.charge key cost = { l with of := l.of.put key ((l.debt key).take l.p cost) } := by
  unfold Rv.Ledger.charge Rv.Ledger.chargeE
  rw [hk, hc]; rfl

set_option maxHeartbeats 2000000 in
set_option maxRecDepth 100000 in
theorem charge_level (w : World) (Q R : HP) (g bm : Nat) (l : Rv.Ledger) (es : Array MapEntry) (clock : Nat) (key : ByteArray) (cost : Int) (n : Int) (hl : LOk Q l es clock) (h : Sat w (ledBox g l bm * (mapBox bm es clock * (Q * R))))
    (hk : Rv.keyOk key = true) (hc : Rv.costOk cost = true) (hd : l.debt key = .level n) :
    Calls Tryz.prog 89 #[.pointer (some ⟨g, 0, none⟩), .string key, .int .i64 cost] w (LedRes Q R w g (l.charge key cost) (.int .i64 0)) := by
  have hcb : 1 ≤ cost ∧ cost ≤ 1048576 := by simpa [Rv.costOk, Rv.inB] using hc
  have e1 : decide (cost < 1) = false := by simp; omega
  have e2 : decide (1048576 < cost) = false := by simp; omega
  have HL := Lib.hid hl
  have H := Lib.hid h
  have HK := Lib.hid hk
  have HC := Lib.hid hc
  have HD := Lib.hid hd
  have HE := Lib.hid (charge_eq (l := l) hk hc)
  have K0 := Lib.hid (led_twelve h)
  clear hl h hk hc hd
  go_enter Tryz.func89, Tryz.ntmps89
  go_wp2_with fail
  refine (is_any key true HK.out w).mono ?_
  rintro e w' ⟨rfl, rfl⟩
  go_upto_region 5 with (fail)
  have hm := fun n w => meth_level n w "reeve/ledger.take" _ (.inr (.inr rfl))
  have hnl := nil_level
  go_region_held3 (fun w' => w'.cell? ⟨g, 0, none⟩ = some (.int .i64 l.p.kind) ∧ w'.cell? ⟨g, 1, none⟩ = some (.int .i64 l.p.cap) ∧ w'.cell? ⟨g, 2, none⟩ = some (.int .i64 l.p.num) ∧ w'.cell? ⟨g, 3, none⟩ = some (.int .i64 l.p.den) ∧ w'.cell? ⟨g, 4, none⟩ = some (.int .i64 l.p.width) ∧ w'.cell? ⟨g, 5, none⟩ = some (.int .i64 l.p.count) ∧ w'.cell? ⟨g, 6, none⟩ = some (.int .i64 l.p.keys) ∧ w'.cell? ⟨g, 7, none⟩ = some (.int .i64 l.p.slots) ∧ w'.cell? ⟨g, 8, none⟩ = some (.int .i64 l.p.every) ∧ w'.cell? ⟨g, 9, none⟩ = some (.int .i64 l.p.seg) ∧ w'.cell? ⟨g, 10, none⟩ = some (.int .i64 l.tick) ∧ w'.cell? ⟨g, 11, none⟩ = some (.map (some bm)))
    (first | exact K1.out | exact K0.out | exact KE.out | go_keep)
    (first
      | (go_at_call 120; refine (debt_any w.drew Q R g bm l es clock key HL.out H.out.drew).mono ?_; rw [HD.out]; rintro e w2 ⟨v, Q', rfl, h1, h4, h5, h6⟩; obtain ⟨a1, a2, a3, rfl⟩ := h1; have HN := Lib.hid (And.intro a1 (And.intro a2 a3)); clear a1 a2 a3; have S2 := Lib.hid (h5.perm (Rv.star_assoc _ _ _)); have Z2 := Lib.hid ((Same.drew (Same.refl w)).then h6); have X2 := Lib.hid h4; have K1 := Lib.hid (led_twelve S2.out); clear h4 h5 h6)
      | (go_at_call 204; refine (ltake_any l.p n cost w2 HL.out.ok HN.out.1 HC.out).mono ?_; rintro e w3 ⟨rfl, b3⟩; have S3 := Lib.hid (S2.out.below b3); have Z3 := Lib.hid (Z2.out.then (Rv.Same.below b3)); have XF := Lib.hid X2.out; have HT : Hid (DebtIn Q' l.p (levelV (Rv.takeB l.p n cost)) ((Rv.Debt.level n).take l.p cost)) := Lib.hid ⟨HN.out.1, (takeB_bd _ _ _).1, (takeB_bd _ _ _).2, rfl⟩; clear b3; have K1 := Lib.hid (led_twelve S3.out); obtain ⟨es', clock', hput, fit', find', -⟩ := Rv.run_put (P := Tryz.prog) (w := w3) (t := 154) (k := 9) (e := 175) Tryz.underlying154 Tryz.underlying9 (Rv.Sat.heap (o := .map es clock) S3.out.right) HL.out.fit key (levelV (Rv.takeB l.p n cost)); have FIT := Lib.hid fit'; have FIND := Lib.hid find'; have SE := Lib.hid ((sat_setB (es' := es') (clock' := clock') S3.out.swap).swap); have KE := Lib.hid (led_twelve SE.out); clear fit' find'))
  have ZE : Hid (Same w (Rv.setB w3 bm (.map es' clock'))) := Lib.hid (Z3.out.then (same_setB _ _ _))
  clear K0 K1 KE hput hm hnl
  go_wp2_with fail
  go_ret
  rw [HE.out, HD.out]
  exact ⟨rfl, _, XF.out, ledP_shut (LOk.put HL.out XF.out HK.out HT.out FIT.out FIND.out) SE.out, ZE.out⟩

set_option maxHeartbeats 2000000 in
set_option maxRecDepth 100000 in
theorem charge_sums (w : World) (Q R : HP) (g bm : Nat) (l : Rv.Ledger) (es : Array MapEntry) (clock : Nat) (key : ByteArray) (cost : Int) (n : Rv.Sums) (hl : LOk Q l es clock) (h : Sat w (ledBox g l bm * (mapBox bm es clock * (Q * R))))
    (hk : Rv.keyOk key = true) (hc : Rv.costOk cost = true) (hd : l.debt key = .sums n) :
    Calls Tryz.prog 89 #[.pointer (some ⟨g, 0, none⟩), .string key, .int .i64 cost] w (LedRes Q R w g (l.charge key cost) (.int .i64 0)) := by
  have hcb : 1 ≤ cost ∧ cost ≤ 1048576 := by simpa [Rv.costOk, Rv.inB] using hc
  have e1 : decide (cost < 1) = false := by simp; omega
  have e2 : decide (1048576 < cost) = false := by simp; omega
  have HL := Lib.hid hl
  have H := Lib.hid h
  have HK := Lib.hid hk
  have HC := Lib.hid hc
  have HD := Lib.hid hd
  have HE := Lib.hid (charge_eq (l := l) hk hc)
  have K0 := Lib.hid (led_twelve h)
  clear hl h hk hc hd
  go_enter Tryz.func89, Tryz.ntmps89
  go_wp2_with fail
  refine (is_any key true HK.out w).mono ?_
  rintro e w' ⟨rfl, rfl⟩
  go_upto_region 5 with (fail)
  have hm := fun n w => meth_sums n w "reeve/ledger.take" _ (.inr (.inr rfl))
  have hnl := nil_sums
  go_region_held3 (fun w' => w'.cell? ⟨g, 0, none⟩ = some (.int .i64 l.p.kind) ∧ w'.cell? ⟨g, 1, none⟩ = some (.int .i64 l.p.cap) ∧ w'.cell? ⟨g, 2, none⟩ = some (.int .i64 l.p.num) ∧ w'.cell? ⟨g, 3, none⟩ = some (.int .i64 l.p.den) ∧ w'.cell? ⟨g, 4, none⟩ = some (.int .i64 l.p.width) ∧ w'.cell? ⟨g, 5, none⟩ = some (.int .i64 l.p.count) ∧ w'.cell? ⟨g, 6, none⟩ = some (.int .i64 l.p.keys) ∧ w'.cell? ⟨g, 7, none⟩ = some (.int .i64 l.p.slots) ∧ w'.cell? ⟨g, 8, none⟩ = some (.int .i64 l.p.every) ∧ w'.cell? ⟨g, 9, none⟩ = some (.int .i64 l.p.seg) ∧ w'.cell? ⟨g, 10, none⟩ = some (.int .i64 l.tick) ∧ w'.cell? ⟨g, 11, none⟩ = some (.map (some bm)))
    (first | exact K1.out | exact K0.out | exact KE.out | go_keep)
    (first
      | (go_at_call 120; refine (debt_any w.drew Q R g bm l es clock key HL.out H.out.drew).mono ?_; rw [HD.out]; rintro e w2 ⟨v, Q', rfl, h1, h4, h5, h6⟩; obtain ⟨a1, a2, A, c, rfl, a4, a5⟩ := h1; have HN := Lib.hid (And.intro a1 a2); have HR := Lib.hid a4; have HNil := Lib.hid a5; clear a1 a2 a4 a5; have S2 := Lib.hid (h5.perm (Rv.star_assoc _ _ _)); have Z2 := Lib.hid ((Same.drew (Same.refl w)).then h6); have X2 := Lib.hid h4; have K1 := Lib.hid (led_twelve S2.out); clear h4 h5 h6)
      | (go_at_call 214; refine (stake_any _ l.p n cost A c w2 S2.out (Rv.RdIn.right (Rv.RdIn.right (Rv.RdIn.left HR.out))) HNil.out HN.out.2 HL.out.ok HN.out.1 HC.out).mono ?_; rintro e w3 ⟨B, c', rfl, s3, z3⟩; have S3 : Hid (Sat w3 (ledBox g l bm * (mapBox bm es clock * ((intsP (.slice B (Rv.takeW l.p n cost).l.length c') (Rv.takeW l.p n cost).l * Q') * R)))) := Lib.hid (s3.perm (by ac_rfl)); have Z3 := Lib.hid (Z2.out.then z3); have XF : Hid (Ext Q (intsP (.slice B (Rv.takeW l.p n cost).l.length c') (Rv.takeW l.p n cost).l * Q')) := Lib.hid (X2.out.then (Ext.more _ _)); have HT : Hid (DebtIn (intsP (.slice B (Rv.takeW l.p n cost).l.length c') (Rv.takeW l.p n cost).l * Q') l.p (owedV (Rv.takeW l.p n cost) B c') ((Rv.Debt.sums n).take l.p cost)) := Lib.hid ⟨HN.out.1, HN.out.2.take HL.out.ok HN.out.1 HC.out, B, c', rfl, Rv.RdIn.left Rv.RdIn.row, (Rv.Sat.row_own s3).nilcap⟩; clear s3 z3; have K1 := Lib.hid (led_twelve S3.out); obtain ⟨es', clock', hput, fit', find', -⟩ := Rv.run_put (P := Tryz.prog) (w := w3) (t := 154) (k := 9) (e := 175) Tryz.underlying154 Tryz.underlying9 (Rv.Sat.heap (o := .map es clock) S3.out.right) HL.out.fit key (owedV (Rv.takeW l.p n cost) B c'); have FIT := Lib.hid fit'; have FIND := Lib.hid find'; have SE := Lib.hid ((sat_setB (es' := es') (clock' := clock') S3.out.swap).swap); have KE := Lib.hid (led_twelve SE.out); clear fit' find'))
  have ZE : Hid (Same w (Rv.setB w3 bm (.map es' clock'))) := Lib.hid (Z3.out.then (same_setB _ _ _))
  clear K0 K1 KE hput hm hnl
  go_wp2_with fail
  go_ret
  rw [HE.out, HD.out]
  exact ⟨rfl, _, XF.out, ledP_shut (LOk.put HL.out XF.out HK.out HT.out FIT.out FIND.out) SE.out, ZE.out⟩

theorem charge_any (w : World) (Q R : HP) (g : Nat) (l : Rv.Ledger) (key : ByteArray) (cost : Int) (h : Sat w (ledP Q g l * (Q * R))) (hk : Rv.keyOk key = true) (hc : Rv.costOk cost = true) :
    Calls Tryz.prog 89 #[.pointer (some ⟨g, 0, none⟩), .string key, .int .i64 cost] w (LedRes Q R w g (l.charge key cost) (.int .i64 0)) := by
  obtain ⟨bm, es, clock, hl, hs⟩ := ledP_open h
  cases hd : l.debt key with
  | level n => exact charge_level w Q R g bm l es clock key cost n hl hs hk hc hd
  | sums s => exact charge_sums w Q R g bm l es clock key cost s hl hs hk hc hd
end Go.Proofs.YtcmndglhileeoaaGreat

/- The walks of package ledger: New, Clone. -/
set_option linter.unusedSimpArgs false
set_option linter.unusedVariables false
namespace Go.Proofs.YtcmndglhileeoaaGreat
open Go.RowKit
open Rv (HP Sat Same pt allOf sat_all RdIn row own)

set_option maxHeartbeats 1000000 in
set_option maxRecDepth 100000 in
theorem lnew_ok (R : HP) (p : Rv.Pol) (w : World) (hR : Sat w R) (h : p.ok = true) :
    Calls Tryz.prog 36 #[.agg (polCells p)] w fun e w' => ∃ g, e = .returned (.tuple #[.pointer (some ⟨g, 0, none⟩), .int .i64 0]) ∧ Sat w' (ledP 1 g (Rv.Ledger.new p) * (1 * R)) ∧ Same w w' := by
  have S0 := Lib.hid (hR.alloc (.cells (polCells p) 33))
  have Z0 : Hid (Same w (w.alloc (.cells (polCells p) 33))) := Lib.hid (Same.of (Kept.alloc (Kept.refl (fun _ => False) _) _))
  have Hok := Lib.hid h
  have HR := Lib.hid (right_0 h)
  have hmm := @run_makeMap Tryz.prog
  clear h hR
  go_enter Tryz.func36, Tryz.ntmps36
  go_wp2_with ((with_reducible refine at_slot 5 ?_); refine wpList_load_row rfl 33 (.tmp 1) rfl w.heap.size (by rfl) 33 (polCells p) (0, 0) _ (heap_alloc_new w _) Tryz.underlying33 (by rfl) info_pol ?_)
  refine (pright_any p _).mono ?_
  rintro e w1 ⟨rfl, b1⟩
  rw [HR.out]
  have S1 := Lib.hid (S0.out.below b1)
  have Z1 := Lib.hid (Z0.out.then (Rv.Same.below b1))
  have q1 := Lib.hid S1.out.heap
  have S2 : Hid (Sat ((w1.alloc (.map #[] 0)).alloc (.cells (ledCells p 0 w1.heap.size) 156)) (pt (w1.heap.size + 1) (.cells (ledCells p 0 w1.heap.size) 156) * (pt w1.heap.size (.map #[] 0) * (pt w.heap.size (.cells (polCells p) 33) * R)))) := Lib.hid (by
    have h := (S1.out.alloc (.map #[] 0)).alloc (.cells (ledCells p 0 w1.heap.size) 156)
    rw [World.size_alloc] at h
    exact h)
  have Z2 := Lib.hid (Z1.out.then (Same.of (((Kept.refl (fun _ => False) w1).alloc (.map #[] 0)).alloc (.cells (ledCells p 0 w1.heap.size) 156))))
  clear b1 S0 Z0
  go_wp2_with ((with_reducible refine at_slot 10 ?_); refine wpList_load_row rfl 33 (.tmp 1) rfl w.heap.size (by rfl) 33 (polCells p) (0, 0) _ q1.out Tryz.underlying33 (by rfl) info_pol ?_)
  go_ret2
  refine ⟨_, rfl, ledP_shut (bm := w1.heap.size) (es := #[]) (clock := 0) (l := Rv.Ledger.new p) ⟨Hok.out, by show (0 : Int) ≤ 0; omega, by show (0 : Int) ≤ _; omega, Rv.smap_nil, fun k => trivial, List.Pairwise.nil, fun e he => by cases he⟩ ?_, Z2.out⟩
  rw [Rv.one_star]
  exact S2.out.drop3

set_option maxHeartbeats 1000000 in
set_option maxRecDepth 100000 in
theorem mclone_debt (b : Nat) (es : Array MapEntry) (clock : Nat) (w : World) (hb : w.heap[b]? = some (.map es clock)) :
    Calls Tryz.prog 87 #[.map (some b)] w fun e w' => e = .returned (.map (some w.heap.size)) ∧ w.alloc (.map es clock) = w' := by
  have hq := fun w => eql_map_nil (P := Tryz.prog) w 154 _ _ b Tryz.underlying154
  go_enter Tryz.func87, Tryz.ntmps87
  go_wp2
  rw [run_callFunc_extern Tryz.func115 (by kernel_rfl) (by kernel_rfl) (by kernel_rfl) (e := Extern.MapsClone.clone) (by kernel_rfl), clone_entry w 154 hb]
  simp only [Result.andThen]
  rw [Oper.upon_value]
  go_wp2
  rw [assert_map _ 154 _ _ _ _ Tryz.underlying154]
  simp only [Result.andThen]
  rw [Oper.upon_value]
  go_wp2
  go_ret
  exact ⟨rfl, rfl⟩

set_option maxHeartbeats 2000000 in
set_option maxRecDepth 100000 in
theorem lclone_any (w : World) (Q R : HP) (g : Nat) (l : Rv.Ledger) (h : Sat w (ledP Q g l * R)) :
    Calls Tryz.prog 43 #[.pointer (some ⟨g, 0, none⟩)] w fun e w' => ∃ g', e = .returned (.pointer (some ⟨g', 0, none⟩)) ∧ Sat w' (ledP Q g' l * (ledP Q g l * R)) ∧ Same w w' := by
  obtain ⟨bm, es, clock, hl, hs⟩ := ledP_open h
  have HL := Lib.hid hl
  have H := Lib.hid hs
  have K0 := Lib.hid (led_twelve hs)
  have hb := Lib.hid (Rv.Sat.heap (o := .map es clock) hs.right)
  have S1 := Lib.hid (H.out.drew.alloc (.map es clock))
  have K1 := Lib.hid (led_twelve S1.out.swap)
  have S2 := Lib.hid ((((H.out.alloc (.map es clock)).alloc (.cells (ledCells l.p l.tick w.heap.size) 156))).drew)
  rw [World.size_alloc] at S2
  have K2 := Lib.hid (led_twelve S2.out.third)
  clear h hl hs
  go_enter Tryz.func43, Tryz.ntmps43
  go_upto_region 1 with (fail)
  go_region_held3 (fun w' => w'.cell? ⟨g, 0, none⟩ = some (.int .i64 l.p.kind) ∧ w'.cell? ⟨g, 1, none⟩ = some (.int .i64 l.p.cap) ∧ w'.cell? ⟨g, 2, none⟩ = some (.int .i64 l.p.num) ∧ w'.cell? ⟨g, 3, none⟩ = some (.int .i64 l.p.den) ∧ w'.cell? ⟨g, 4, none⟩ = some (.int .i64 l.p.width) ∧ w'.cell? ⟨g, 5, none⟩ = some (.int .i64 l.p.count) ∧ w'.cell? ⟨g, 6, none⟩ = some (.int .i64 l.p.keys) ∧ w'.cell? ⟨g, 7, none⟩ = some (.int .i64 l.p.slots) ∧ w'.cell? ⟨g, 8, none⟩ = some (.int .i64 l.p.every) ∧ w'.cell? ⟨g, 9, none⟩ = some (.int .i64 l.p.seg) ∧ w'.cell? ⟨g, 10, none⟩ = some (.int .i64 l.tick) ∧ w'.cell? ⟨g, 11, none⟩ = some (.map (some bm)))
    (first | exact K0.out | exact K1.out | exact K2.out | go_keep)
    (first
      | (go_at_call 87; refine (mclone_debt bm es clock w.drew hb.out).mono ?_; rintro e w2 ⟨rfl, rfl⟩))
  have Z2 : Hid (Same w ((w.alloc (.map es clock)).alloc (.cells (ledCells l.p l.tick w.heap.size) 156)).drew) := Lib.hid ((Same.of (((Kept.refl (fun _ => False) w).alloc _).alloc _)).drew)
  clear K0 K1 K2 S1 hb
  go_wp2_with fail
  go_ret
  refine ⟨w.heap.size + 1, rfl, ledP_shut (bm := w.heap.size) HL.out ?_, Z2.out⟩
  have h1 : Sat _ (ledBox g l bm * (mapBox bm es clock * (ledBox (w.heap.size + 1) l w.heap.size * (mapBox w.heap.size es clock * R)))) := S2.out.perm (by unfold ledBox mapBox; ac_rfl)
  have h2 := ledP_shut HL.out h1
  exact h2.perm (by ac_rfl)
end Go.Proofs.YtcmndglhileeoaaGreat
