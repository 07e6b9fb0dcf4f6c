/- A part of the proof: its texts in a row: TapeO, TapeP. Each text's own remark stands at its head. -/
import Derived.Test.YtcmndglhileeoaaGreatQTapeN
/- Rows of records; what a reader reads on; the walk of Decode. -/
set_option linter.unusedSimpArgs false
set_option linter.unusedVariables false
namespace Go.Proofs.YtcmndglhileeoaaGreat
open Go.RowKit
open Rv (HP Sat Same pt allOf sat_all RdIn row own Lcl)

/-! ### rows of records -/
def recsV (l : List Rv.Rec) : List Value := (l.map fun r => (recCells r).toList).flatten
def recsP (v : Value) (l : List Rv.Rec) : HP := rowN 44 4 v l.length (recsV l)
theorem recsV_snoc (l : List Rv.Rec) (y : Rv.Rec) : recsV (l ++ [y]) = recsV l ++ (recCells y).toList := by unfold recsV; simp
theorem info_rec4 : (Tryz.prog.info? 44).map (fun i => (i.zero, i.size, i.bytes)) = some (some (.agg recZero), 4, 40) := by kernel_rfl
theorem add_off (g j : Nat) : (⟨g, 0, none⟩ : Addr).add j = ⟨g, j, none⟩ := by unfold Addr.add; split <;> simp_all
theorem recsP_nil {w : World} {R : HP} (h : Sat w R) : Sat w (recsP (.slice none 0 0) [] * R) := rowN_nil _ _ h
theorem recsP_shape {w : World} {R : HP} {v : Value} {l : List Rv.Rec} (h : Sat w (recsP v l * R)) : ∃ A c, v = .slice A l.length c ∧ l.length ≤ c ∧ RdV w A (recsV l) ∧ (A = none → c = 0) := by
  obtain ⟨A, c, h1, h2, _, h4, h5⟩ := rowN_shape h
  exact ⟨A, c, h1, h2, h4, h5⟩
section
variable {ops : Array Oper} {rest : List Oper} {o : Oper} {a : Act} {Q : Exit → Act → World → Prop}
/-- append of one record that lies in a new box. -/
theorem sapp_rec {W : World} {R : HP} (hgd : o.guard = none) (s x : Operand) (ho : o.op = .call { callee := .builtin .append, args := #[s, x], argTypes := #[34, 34] })
    (v : Value) (l : List Rv.Rec) (y : Rv.Rec) (hs : a.eval s = v) (hx : a.eval x = .slice (some ⟨W.heap.size, 0, none⟩) 1 1)
    (HS : Sat W (recsP v l * R)) (hl : l.length ≤ 1000000)
    (h : ∀ B1 c1 w1, Sat w1 (recsP (.slice B1 (l.length + 1) c1) (l ++ [y]) * R) → Same W w1 → wpList Tryz.prog ops Q rest (a.put o.dst (.slice B1 (l.length + 1) c1)) w1) :
    wpList Tryz.prog ops Q (o :: rest) a (W.alloc (.cells (recCells y) 44)) := by
  obtain ⟨i0, hi, hz0, hz1, hz2⟩ := info_parts' info_rec4
  have HO := rowN_own HS
  have hnew := heap_alloc_new W (.cells (recCells y) 44)
  refine wpList_append_own_at _ hgd s x 34 ho 0 44 i0 (.agg recZero) 4 40 Tryz.underlying34 hi hz0 hz1 hz2 rfl (by omega) v l.length (recsV l) hs (World.ownsRow.alloc HO _) ⟨W.heap.size, 0, none⟩ 1 1 (recCells y).toList hx rfl
    (fun j u hu => by rw [add_off, cells_of hnew j]; simpa using hu) (by simp [Value.oneCell']) (by simp only [maxLen]; omega) (by omega) (Nat.zero_le _) ?_
  intro v1 w1 hown hg _ hat
  have hb : ∀ k, v1.ownBlock = some k → v.ownBlock = some k ∨ W.heap.size ≤ k := fun k hk => by
    rcases hat with hat | hat
    · exact .inl (hat ▸ hk)
    · rw [hat] at hk
      injection hk with hk
      simp at hk
      exact .inr (by omega)
  have hkept : Kept (fun k => v.ownBlock = some k) W w1 := ((Kept.refl _ W).alloc _).trans (Kept.of_grown (S := fun k => v.ownBlock = some k) hg fun k hk _ => hk) (fun _ _ h => h)
  rw [← recsV_snoc] at hown
  have h1 : Sat w1 (rowN 44 4 v1 (l.length + 1) (recsV (l ++ [y])) * R) := rowN_turn HS hkept hown hb
  obtain ⟨A, c, rfl, _, _, _, _⟩ := rowN_shape h1
  refine h A c w1 ?_ (Same.of hkept)
  unfold recsP
  rw [List.length_append, List.length_singleton]
  exact h1
end

/-! ### what is read on -/
theorem reads_now {xs : Rv.Bs} {m : Rv.Maker} (h : m.records ≤ 10000) : Rv.Maker.reads xs (10001 - m.records) m = match m.next xs with
    | .none_ => ([], m, none)
    | .fault f => ([], m, some f)
    | .some x m' => (x :: (Rv.Maker.reads xs (10001 - m'.records) m').1, (Rv.Maker.reads xs (10001 - m'.records) m').2) := by
  have e : 10001 - m.records = (10000 - m.records) + 1 := by omega
  rw [e, Rv.Maker.reads]
  cases hn : m.next xs with
  | none_ => rfl
  | fault f => rfl
  | some x m' =>
    have h1 := (Rv.Maker.next_records hn).1
    have e2 : 10001 - m'.records = 10000 - m.records := by omega
    simp only [e2]
/-- How far it has read. -/
structure ReadTo (xs : Rv.Bs) (p : Rv.Pol) (m : Rv.Maker) (l : List Rv.Rec) : Prop where
  ok : MOk m
  sz : m.size ≤ xs.length
  mp : m.p = p
  len : l.length = m.records
  all : Rv.Maker.reads xs 10001 (Rv.Maker.begun p) = (l ++ (Rv.Maker.reads xs (10001 - m.records) m).1, (Rv.Maker.reads xs (10001 - m.records) m).2)
theorem ReadTo.begin {xs : Rv.Bs} {p : Rv.Pol} {to' : Nat} (h : Rv.Pol.read xs = .ok (p, to')) : ReadTo xs p (Rv.Maker.begun p) [] := by
  have h1 := Rv.Pol.read_ok h
  have h2 := Rv.Pol.read_form h
  refine ⟨MOk.begun h1.1, ?_, rfl, rfl, rfl⟩
  show p.header.length ≤ xs.length
  omega
theorem ReadTo.step {xs : Rv.Bs} {p : Rv.Pol} {m m' : Rv.Maker} {l : List Rv.Rec} {x : Rv.Rec} (h : ReadTo xs p m l) (hl : xs.length ≤ 4194304) (hn : m.next xs = .some x m') : ReadTo xs p m' (l ++ [x]) := by
  obtain ⟨k1, k2, k3, k4, k5⟩ := mnext_ok h.ok hl h.sz hn
  refine ⟨k1, k2, k4.trans h.mp, by rw [List.length_append, List.length_singleton, h.len, k5], ?_⟩
  rw [h.all, reads_now h.ok.n1, hn]
  simp
theorem ReadTo.stop {xs : Rv.Bs} {p : Rv.Pol} {m : Rv.Maker} {l : List Rv.Rec} (h : ReadTo xs p m l) (hn : m.next xs = .none_) : Rv.Maker.reads xs 10001 (Rv.Maker.begun p) = (l, m, none) := by
  rw [h.all, reads_now h.ok.n1, hn]; simp
theorem ReadTo.fall {xs : Rv.Bs} {p : Rv.Pol} {m : Rv.Maker} {l : List Rv.Rec} {f : Rv.Fault} (h : ReadTo xs p m l) (hn : m.next xs = .fault f) : Rv.Maker.reads xs 10001 (Rv.Maker.begun p) = (l, m, some f) := by
  rw [h.all, reads_now h.ok.n1, hn]; simp
theorem mnext_code {m : Rv.Maker} {xs : Rv.Bs} {f : Rv.Fault} (h : m.next xs = .fault f) : f.code ≠ 0 := by
  rw [Rv.Maker.next] at h
  split at h
  · cases h
  · split at h
    · injection h with h; subst h; simp
    · split at h
      · rename_i f' hf
        injection h with h; subst h
        exact cget_code hf
      · simp only at h
        split at h
        · injection h with h; subst h; simp
        · split at h
          · injection h with h; subst h; simp
          · cases h

/-- The records of the reader that stands there. -/
def recsAt (w : World) (g : Nat) : Nat := match w.cell? ⟨g, 17, none⟩ with
  | some (.int _ n) => n.toNat
  | _ => 0
theorem recsAt_eq {w : World} {Q R : HP} {g : Nat} {m : Rv.Maker} {xs : Rv.Bs} (h : Sat w (rdrP Q g m xs * R)) : recsAt w g = m.records := by
  obtain ⟨A, c, h⟩ := rdrP_open h
  obtain ⟨gc, gl, sA, sc, h⟩ := mkrP_open h
  obtain ⟨d8, d9, d10, d11, d12, d13, d14, d15, d16, d17, d18, d19⟩ := mak_facts h
  unfold recsAt
  rw [d17]
  simp
theorem mak_pol {w : World} {T : TypeId} {g : Nat} {p : Rv.Pol} {gc gl : Nat} {l : Rv.Link} {sv : Value} {n z : Nat} {ev : Value} {R : HP} (h : Sat w (makBox T g p gc gl l sv n z ev * R)) :
    w.cell? ⟨g, 0, none⟩ = some (.int .i64 p.kind) ∧ w.cell? ⟨g, 1, none⟩ = some (.int .i64 p.cap) ∧ w.cell? ⟨g, 2, none⟩ = some (.int .i64 p.num) ∧ w.cell? ⟨g, 3, none⟩ = some (.int .i64 p.den) ∧
    w.cell? ⟨g, 4, none⟩ = some (.int .i64 p.width) ∧ w.cell? ⟨g, 5, none⟩ = some (.int .i64 p.count) ∧ w.cell? ⟨g, 6, none⟩ = some (.int .i64 p.keys) ∧ w.cell? ⟨g, 7, none⟩ = some (.int .i64 p.slots) ∧
    w.cell? ⟨g, 8, none⟩ = some (.int .i64 p.every) ∧ w.cell? ⟨g, 9, none⟩ = some (.int .i64 p.seg) := by
  have q := Rv.Sat.heap h
  refine ⟨?_, ?_, ?_, ?_, ?_, ?_, ?_, ?_, ?_, ?_⟩ <;> (rw [cells_of q]; rfl)
end Go.Proofs.YtcmndglhileeoaaGreat

/- The walk of Decode. -/
set_option linter.unusedSimpArgs false
set_option linter.unusedVariables false
namespace Go.Proofs.YtcmndglhileeoaaGreat
open Go.RowKit
open Rv (HP Sat Same pt allOf sat_all RdIn row own Lcl)

/-- What Decode tells. -/
def DecRes (R : HP) (w : World) (res : Except Rv.Fault (Rv.Pol × List Rv.Rec)) (e : Ending) (w' : World) : Prop := match res with
  | .error f => e = .returned (.tuple #[.agg (polCells .zero), .slice none 0 0, .agg (fltCells f)]) ∧ Sat w' R ∧ Same w w'
  | .ok (p, l) => ∃ A c, e = .returned (.tuple #[.agg (polCells p), .slice A l.length c, .agg (fltCells ⟨0, 0⟩)]) ∧ Sat w' (recsP (.slice A l.length c) l * R) ∧ Same w w'
/-- At the head of a round. -/
def DecRel (F : HP) (w0 : World) (xs : Rv.Bs) (p : Rv.Pol) (g : Nat) (v : Value) (wr : World) : Prop :=
  ∃ m l A c Q', v = .slice A l.length c ∧ ReadTo xs p m l ∧ Sat wr (recsP (.slice A l.length c) l * (rdrP Q' g m xs * (Q' * F))) ∧ Same w0 wr

set_option maxHeartbeats 4000000 in
set_option maxRecDepth 100000 in
theorem tdecode_any (w : World) (R : HP) (A : Option Addr) (xs : List UInt8) (c : Nat) (hR : Sat w R) (hr : RdIn R A (u8s xs)) (hnil : A = none → c = 0) (hc : xs.length ≤ c) (hm : xs.length ≤ 140737488355328) :
    Calls Tryz.prog 15 #[.slice A xs.length c] w (DecRes R w (Rv.decode xs)) := by
  obtain ⟨res, hres⟩ : ∃ x, Rv.decode xs = x := ⟨_, rfl⟩
  rw [hres]
  have HRES := Lib.hid hres
  have S0 : Hid (Sat ((w.alloc (.cells (polCells .zero) 33)).alloc (.cells (fltCells ⟨0, 0⟩) 27)) (plP w.heap.size .zero * (flP (w.heap.size + 1) ⟨0, 0⟩ * R))) := Lib.hid (by
    have h1 := (hR.alloc (.cells (polCells .zero) 33)).alloc (.cells (fltCells ⟨0, 0⟩) 27)
    rw [World.size_alloc] at h1
    exact h1.swap)
  have Z0 : Hid (Same w ((w.alloc (.cells (polCells .zero) 33)).alloc (.cells (fltCells ⟨0, 0⟩) 27))) := Lib.hid (Same.of (((Kept.refl (fun _ => False) w).alloc _).alloc _))
  have HO := Lib.hid (fun (w1 : World) (X : HP) (h1 : Sat w1 (X * R)) => topen_any w1 (X * R) A xs c h1 (Rv.RdIn.right hr) hnil hc hm)
  clear hres hR hr hnil
  go_enter Tryz.func15, Tryz.ntmps15
  go_upto_region 1 with (fail)
  obtain ⟨w1, hw1⟩ : ∃ w1, w1 = ((w.alloc (.cells (polCells .zero) 33)).alloc (.cells (fltCells ⟨0, 0⟩) 27)) := ⟨_, rfl⟩
  change Code.wp _ _ _ _ ((w.alloc (.cells (polCells .zero) 33)).alloc (.cells (fltCells ⟨0, 0⟩) 27))
  rw [← hw1] at S0 Z0 ⊢
  clear hw1
  generalize w.heap.size + 1 = g4 at *
  generalize w.heap.size = g2 at *
  go_wp2_with fail
  refine (HO.out w1 (plP g2 .zero * flP g4 ⟨0, 0⟩) (S0.out.perm (by ac_rfl))).mono ?_
  intro e w2 hq
  cases ho : Rv.openR xs with
  | error f =>
    rw [ho] at hq
    obtain ⟨rfl, s2, z2⟩ := hq
    have hfc : f.code ≠ 0 := by
      unfold Rv.openR at ho
      split at ho
      · injection ho with ho; subst ho; simp
      · split at ho
        · rename_i f' hf
          injection ho with ho; subst ho
          exact pread_code hf
        · cases ho
    have he : Rv.decode xs = .error f := by unfold Rv.decode; rw [ho]
    obtain rfl := he.symm.trans HRES.out
    have e1 : (f.code != 0) = true := by simpa using hfc
    have S2 : Hid (Sat (w2.alloc (.cells (fltCells f) 27)) (flP w2.heap.size f * (plP g2 .zero * (flP g4 ⟨0, 0⟩ * R)))) := Lib.hid ((show Sat _ (flP w2.heap.size f * ((plP g2 .zero * flP g4 ⟨0, 0⟩) * R)) from s2.alloc (.cells (fltCells f) 27)).perm (by ac_rfl))
    have Z2 := Lib.hid ((Z0.out.then z2).then (Same.of ((Kept.refl (fun _ => False) w2).alloc (.cells (fltCells f) 27))))
    clear HRES he hfc ho s2 z2 S0 Z0 HO
    go_upto_region 2 with (fail)
    generalize w2.alloc (.cells (fltCells f) 27) = w3 at *
    generalize w2.heap.size = g6 at *
    obtain ⟨l0, l1⟩ := flt_facts S2.out
    have K0 := Lib.hid (And.intro l0 l1)
    have ZR : Hid (Sat w3.drew (plP g2 .zero * (flP g4 ⟨0, 0⟩ * (flP g6 f * R)))) := Lib.hid (S2.out.drew.perm (by ac_rfl))
    obtain ⟨T1, T2, T3⟩ := two_sets (n2 := polCells .zero) (n4 := fltCells f) ZR.out
    have T1 := Lib.hid T1
    have T2 := Lib.hid T2
    have T3 := Lib.hid T3
    go_upto_region 3 with (fail)
    refine wp_region_held_drew (S := fun w => w.cell? ⟨g6, 0, none⟩ = some (.int .i64 f.code) ∧ w.cell? ⟨g6, 1, none⟩ = some (.int .i64 f.at_)) (by kernel_rfl) K0.out (fun hHeld => ?_)
    refine wpAnyH_take (i := 0) (oi := ⟨some 19, .build 33 #[], 33, "tape.go:230", #[], none⟩) (v := ?_) rfl (by kernel_rfl) (by kernel_rfl) (by kernel_rfl) (fun _ _ _ h => h) (Or.inl ⟨by rfl, ?_⟩) (by assumption) ?_
    rotate_left
    · intro w hSw
      try dsimp only at hSw
      go_simp
      try with_reducible rfl
    try simp only [Act.put, List.setIfInBounds_toArray, List.set_cons_zero, List.set_cons_succ]
    refine wpAnyH_take (i := 1) (oi := ⟨some 20, .load 27 (.tmp 6), 27, "tape.go:230", #[⟨3, .gcOnly .lateStores⟩], none⟩) (v := ?_) rfl (by kernel_rfl) (by kernel_rfl) (by kernel_rfl) (fun _ _ _ h => h) (Or.inl ⟨by rfl, ?_⟩) (by assumption) ?_
    rotate_left
    · intro w hSw
      try dsimp only at hSw
      go_simp
      try with_reducible rfl
    try simp only [Act.put, List.setIfInBounds_toArray, List.set_cons_zero, List.set_cons_succ]
    refine wpAnyH_ready (rs := [2]) (by kernel_rfl) (by simp) ?_
    refine AllReadyH.cons (o := ⟨none, .store 33 (.tmp 2) (.tmp 19), 0, "tape.go:230", #[⟨0, .data⟩, ⟨0, .phase⟩, ⟨1, .textOnly .lateStores⟩], none⟩) rfl (fun K hK => ?_) AllReadyH.nil
    have K1 := Lib.hid (flt_facts T1.out.third)
    refine step_store_row rfl 33 (.tmp 2) (.tmp 19) rfl g2 (polCells .zero) (by rfl) (by rfl) 33 (polCells .zero) ZR.out.heap info_pol (by rfl) (one_pol _) ?_
    refine hK.out _ _ K1.out (fun hHeld2 => ?_)
    clear hK K hHeld
    try simp only [Act.put, List.setIfInBounds_toArray, List.set_cons_zero, List.set_cons_succ]
    refine wpAnyH_take (i := 3) (oi := ⟨some 3, .assign (.const (.slice none 0 0)), 34, "tape.go:230", #[⟨2, .chain⟩, ⟨0, .phase⟩, ⟨1, .textOnly .lateStores⟩, ⟨2, .phase⟩], none⟩) (v := ?_) rfl (by kernel_rfl) (by kernel_rfl) (by kernel_rfl) (fun _ _ _ h => h) (Or.inl ⟨by rfl, ?_⟩) (by assumption) ?_
    rotate_left
    · intro w hSw
      try dsimp only at hSw
      go_simp
      try with_reducible rfl
    try simp only [Act.put, List.setIfInBounds_toArray, List.set_cons_zero, List.set_cons_succ]
    refine wpAnyH_ready (rs := [4]) (by kernel_rfl) (by simp) ?_
    refine AllReadyH.cons (o := ⟨none, .store 27 (.tmp 4) (.tmp 20), 0, "tape.go:230", #[⟨1, .data⟩, ⟨3, .chain⟩, ⟨0, .phase⟩, ⟨1, .phase⟩, ⟨2, .phase⟩, ⟨3, .phase⟩], none⟩) rfl (fun K hK => ?_) AllReadyH.nil
    have K2 := Lib.hid (flt_facts T2.out.third)
    refine step_store_row rfl 27 (.tmp 4) (.tmp 20) rfl g4 (fltCells f) (by rfl) (by rfl) 27 (fltCells ⟨0, 0⟩) T1.out.swap.heap info_flt (by rfl) (one_flt _) ?_
    refine hK.out _ _ K2.out (fun hHeld => ?_)
    clear hK K hHeld2
    try simp only [Act.put, List.setIfInBounds_toArray, List.set_cons_zero, List.set_cons_succ]
    refine wpAnyH_done (by kernel_rfl) ?_ _
    clear hHeld
    go_wp2_with fail
    exact bodyPost_ret (results_ctc Tryz.results15 _ _ g2 g4 33 27 (polCells .zero) (fltCells f) (0, 0) (0, 0) _ _ (.slice none 0 0) (by rfl) (by rfl) (by rfl) T2.out.heap T2.out.swap.heap Tryz.underlying33 (by rfl) info_pol Tryz.underlying27 (by rfl) info_flt) rfl
      ⟨rfl, T2.out.right.right.right, Z2.out.drew.then T3.out⟩
  | ok m =>
    rw [ho] at hq
    obtain ⟨g, rfl, s2, z2⟩ := hq
    obtain ⟨p, tt, hp, rfl⟩ : ∃ p tt, Rv.Pol.read xs = .ok (p, tt) ∧ m = Rv.Maker.begun p := by
      unfold Rv.openR at ho
      split at ho
      · cases ho
      · split at ho
        · cases ho
        · rename_i p tt hp
          injection ho with ho
          exact ⟨p, tt, hp, ho.symm⟩
    have hl : xs.length ≤ 4194304 := by
      unfold Rv.openR at ho
      split at ho
      · cases ho
      · omega
    have hrt := ReadTo.begin hp
    have HDEC : Hid (res = match Rv.Maker.reads xs 10001 (Rv.Maker.begun p) with
        | (l, _, none) => .ok (p, l)
        | (_, _, some f) => .error f) := Lib.hid (by
      rw [← HRES.out]
      unfold Rv.decode
      rw [ho]
      rfl)
    have S2 : Hid (Sat (w2.alloc (.cells (fltCells ⟨0, 0⟩) 27)) (rdrP 1 g (Rv.Maker.begun p) xs * (1 * (plP g2 .zero * (flP g4 ⟨0, 0⟩ * (flP w2.heap.size ⟨0, 0⟩ * R)))))) := Lib.hid ((show Sat _ (flP w2.heap.size ⟨0, 0⟩ * _) from s2.alloc (.cells (fltCells ⟨0, 0⟩) 27)).perm (by ac_rfl))
    have Z2 := Lib.hid ((Z0.out.then z2).then (Same.of ((Kept.refl (fun _ => False) w2).alloc (.cells (fltCells ⟨0, 0⟩) 27))))
    clear HRES ho s2 z2 S0 Z0 HO hp
    go_upto_region 4 with (fail)
    generalize w2.alloc (.cells (fltCells ⟨0, 0⟩) 27) = w3 at *
    generalize w2.heap.size = g6 at *
    have HREL : Hid (DecRel (plP g2 .zero * (flP g4 ⟨0, 0⟩ * (flP g6 ⟨0, 0⟩ * R))) w xs p g (.slice none 0 0) w3) := Lib.hid ⟨_, [], none, 0, 1, rfl, hrt, recsP_nil S2.out, Z2.out⟩
    clear hrt S2 Z2
    go_wp2_with fail
    go_loopw [7] (fun v wr => DecRel (plP g2 .zero * (flP g4 ⟨0, 0⟩ * (flP g6 ⟨0, 0⟩ * R))) w xs p g v wr) (fun v wr => 10001 - recsAt wr g)
    case atStart => exact HREL.out
    case round =>
      obtain ⟨m, l, B, k, Q1, rfl, hrt, s3, z3⟩ := hrel
      have hrc := recsAt_eq s3.right
      have ZR3 := Lib.hid z3
      have HRT := Lib.hid hrt
      have HRC := Lib.hid hrc
      have hll : l.length ≤ 10000 := by rw [hrt.len]; exact hrt.ok.n1
      have HN := Lib.hid (tnext_any wr Q1 (recsP (.slice B l.length k) l * (plP g2 .zero * (flP g4 ⟨0, 0⟩ * (flP g6 ⟨0, 0⟩ * R)))) g m xs hrt.ok (s3.perm (by ac_rfl)) hrt.sz hl)
      clear s3 z3 hrt hrc HREL
      go_wp2_with fail
      refine HN.out.mono ?_
      intro e w4 hq
      clear HN
      cases hn : m.next xs with
      | none_ =>
        rw [hn] at hq
        obtain ⟨rfl, Q2, x2, s4, z4⟩ := hq
        have S5 : Hid (Sat ((w4.alloc (.cells recZero 44)).alloc (.cells (fltCells ⟨0, 0⟩) 27)) (pt w4.heap.size (.cells recZero 44) * (flP (w4.heap.size + 1) ⟨0, 0⟩ * (recsP (.slice B l.length k) l * (rdrP Q2 g m xs * (Q2 * (plP g2 .zero * (flP g4 ⟨0, 0⟩ * (flP g6 ⟨0, 0⟩ * R))))))))) := Lib.hid (by
          have h1 := (s4.alloc (.cells recZero 44)).alloc (.cells (fltCells ⟨0, 0⟩) 27)
          simp only [World.size_alloc] at h1
          exact (show Sat _ (flP (w4.heap.size + 1) ⟨0, 0⟩ * (pt w4.heap.size (.cells recZero 44) * (rdrP Q2 g m xs * (Q2 * (recsP (.slice B l.length k) l * (plP g2 .zero * (flP g4 ⟨0, 0⟩ * (flP g6 ⟨0, 0⟩ * R)))))))) from h1).perm (by ac_rfl))
        have Z5 : Hid (Same w ((w4.alloc (.cells recZero 44)).alloc (.cells (fltCells ⟨0, 0⟩) 27))) := Lib.hid ((ZR3.out.then z4).then (Same.of (((Kept.refl (fun _ => False) w4).alloc _).alloc _)))
        clear s4 z4
        go_upto_region 6 with (fail)
        obtain ⟨w5, hw5⟩ : ∃ w5, w5 = ((w4.alloc (.cells recZero 44)).alloc (.cells (fltCells ⟨0, 0⟩) 27)) := ⟨_, rfl⟩
        change Code.wp _ _ _ _ ((w4.alloc (.cells recZero 44)).alloc (.cells (fltCells ⟨0, 0⟩) 27))
        rw [← hw5] at S5 Z5 ⊢
        clear hw5
        generalize w4.heap.size + 1 = g10 at *
        generalize w4.heap.size = g8 at *
        obtain ⟨l0, l1⟩ := flt_facts S5.out.right
        obtain ⟨A', c', h1⟩ := rdrP_open (S5.out.right.right.right)
        obtain ⟨gc, gl, sA, sc, h1⟩ := mkrP_open h1
        obtain ⟨d0, d1, d2, d3, d4, d5, d6, d7, d8, d9⟩ := mak_pol h1
        have ZR : Hid (Sat w5 (plP g2 .zero * (flP g4 ⟨0, 0⟩ * (flP g10 ⟨0, 0⟩ * (pt g8 (.cells recZero 44) * (recsP (.slice B l.length k) l * (rdrP Q2 g m xs * (Q2 * (flP g6 ⟨0, 0⟩ * R))))))))) := Lib.hid (S5.out.perm (by ac_rfl))
        obtain ⟨T1, T2, T3⟩ := two_sets (n2 := polCells m.p) (n4 := fltCells ⟨0, 0⟩) ZR.out
        have T1 := Lib.hid T1
        have T2 := Lib.hid T2
        have T3 := Lib.hid T3
        have hdec := HDEC.out
        rw [HRT.out.stop hn] at hdec
        subst hdec
        have HMP := Lib.hid HRT.out.mp
        clear h1 HDEC hn HRT
        go_wp2_with (first
          | ((with_reducible refine at_store 33 2 40 ?_); refine wpList_store_row rfl 33 (.tmp 2) (.tmp 40) rfl g2 (polCells m.p) (by rfl) (by rfl) 33 (polCells .zero) ZR.out.heap info_pol (by rfl) (one_pol _) ?_; simp only [Act.put])
          | ((with_reducible refine at_store 27 4 42 ?_); refine wpList_store_row rfl 27 (.tmp 4) (.tmp 42) rfl g4 (fltCells ⟨0, 0⟩) (by rfl) (by rfl) 27 (fltCells ⟨0, 0⟩) T1.out.swap.heap info_flt (by rfl) (one_flt _) ?_; simp only [Act.put]))
        exact bodyPost_ret (results_ctc Tryz.results15 _ _ g2 g4 33 27 (polCells m.p) (fltCells ⟨0, 0⟩) (0, 0) (0, 0) _ _ (.slice B l.length k) (by rfl) (by rfl) (by rfl) T2.out.heap T2.out.swap.heap Tryz.underlying33 (by rfl) info_pol Tryz.underlying27 (by rfl) info_flt) rfl
          ⟨B, k, by rw [HMP.out], (T2.out.right.right.right.right.perm (show _ = rdrP Q2 g m xs * (Q2 * (flP g6 ⟨0, 0⟩ * (recsP (.slice B l.length k) l * R))) by ac_rfl)).right.right.right, Z5.out.then T3.out⟩
      | fault f =>
        rw [hn] at hq
        obtain ⟨rfl, Q2, x2, s4, z4⟩ := hq
        have S5 : Hid (Sat ((w4.alloc (.cells recZero 44)).alloc (.cells (fltCells f) 27)) (pt w4.heap.size (.cells recZero 44) * (flP (w4.heap.size + 1) f * (recsP (.slice B l.length k) l * (rdrP Q2 g m xs * (Q2 * (plP g2 .zero * (flP g4 ⟨0, 0⟩ * (flP g6 ⟨0, 0⟩ * R))))))))) := Lib.hid (by
          have h1 := (s4.alloc (.cells recZero 44)).alloc (.cells (fltCells f) 27)
          simp only [World.size_alloc] at h1
          exact (show Sat _ (flP (w4.heap.size + 1) f * (pt w4.heap.size (.cells recZero 44) * (rdrP Q2 g m xs * (Q2 * (recsP (.slice B l.length k) l * (plP g2 .zero * (flP g4 ⟨0, 0⟩ * (flP g6 ⟨0, 0⟩ * R)))))))) from h1).perm (by ac_rfl))
        have Z5 : Hid (Same w ((w4.alloc (.cells recZero 44)).alloc (.cells (fltCells f) 27))) := Lib.hid ((ZR3.out.then z4).then (Same.of (((Kept.refl (fun _ => False) w4).alloc _).alloc _)))
        clear s4 z4
        go_upto_region 6 with (fail)
        obtain ⟨w5, hw5⟩ : ∃ w5, w5 = ((w4.alloc (.cells recZero 44)).alloc (.cells (fltCells f) 27)) := ⟨_, rfl⟩
        change Code.wp _ _ _ _ ((w4.alloc (.cells recZero 44)).alloc (.cells (fltCells f) 27))
        rw [← hw5] at S5 Z5 ⊢
        clear hw5
        generalize w4.heap.size + 1 = g10 at *
        generalize w4.heap.size = g8 at *
        obtain ⟨l0, l1⟩ := flt_facts S5.out.right
        have hfc := mnext_code hn
        have e1 : (f.code != 0) = true := by simpa using hfc
        have K0 := Lib.hid (And.intro l0 l1)
        have ZR : Hid (Sat w5.drew (plP g2 .zero * (flP g4 ⟨0, 0⟩ * (flP g10 f * (pt g8 (.cells recZero 44) * (recsP (.slice B l.length k) l * (rdrP Q2 g m xs * (Q2 * (flP g6 ⟨0, 0⟩ * R))))))))) := Lib.hid (S5.out.drew.perm (by ac_rfl))
        obtain ⟨T1, T2, T3⟩ := two_sets (n2 := polCells .zero) (n4 := fltCells f) ZR.out
        have T1 := Lib.hid T1
        have T2 := Lib.hid T2
        have T3 := Lib.hid T3
        have hdec := HDEC.out
        rw [HRT.out.fall hn] at hdec
        subst hdec
        clear HDEC hn HRT hfc
        go_upto_region 7 with (fail)
        refine wp_region_held_drew (S := fun w => w.cell? ⟨g10, 0, none⟩ = some (.int .i64 f.code) ∧ w.cell? ⟨g10, 1, none⟩ = some (.int .i64 f.at_)) (by kernel_rfl) K0.out (fun hHeld => ?_)
        refine wpAnyH_take (i := 0) (oi := ⟨some 31, .build 33 #[], 33, "tape.go:237", #[], none⟩) (v := ?_) rfl (by kernel_rfl) (by kernel_rfl) (by kernel_rfl) (fun _ _ _ h => h) (Or.inl ⟨by rfl, ?_⟩) (by assumption) ?_
        rotate_left
        · intro w hSw
          try dsimp only at hSw
          go_simp
          try with_reducible rfl
        try simp only [Act.put, List.setIfInBounds_toArray, List.set_cons_zero, List.set_cons_succ]
        refine wpAnyH_take (i := 1) (oi := ⟨some 32, .load 27 (.tmp 10), 27, "tape.go:237", #[⟨3, .gcOnly .lateStores⟩], none⟩) (v := ?_) rfl (by kernel_rfl) (by kernel_rfl) (by kernel_rfl) (fun _ _ _ h => h) (Or.inl ⟨by rfl, ?_⟩) (by assumption) ?_
        rotate_left
        · intro w hSw
          try dsimp only at hSw
          go_simp
          try with_reducible rfl
        try simp only [Act.put, List.setIfInBounds_toArray, List.set_cons_zero, List.set_cons_succ]
        refine wpAnyH_ready (rs := [2]) (by kernel_rfl) (by simp) ?_
        refine AllReadyH.cons (o := ⟨none, .store 33 (.tmp 2) (.tmp 31), 0, "tape.go:237", #[⟨0, .data⟩, ⟨0, .phase⟩, ⟨1, .textOnly .lateStores⟩], none⟩) rfl (fun K hK => ?_) AllReadyH.nil
        have K1 := Lib.hid (flt_facts T1.out.third)
        refine step_store_row rfl 33 (.tmp 2) (.tmp 31) rfl g2 (polCells .zero) (by rfl) (by rfl) 33 (polCells .zero) ZR.out.heap info_pol (by rfl) (one_pol _) ?_
        refine hK.out _ _ K1.out (fun hHeld2 => ?_)
        clear hK K hHeld
        try simp only [Act.put, List.setIfInBounds_toArray, List.set_cons_zero, List.set_cons_succ]
        refine wpAnyH_take (i := 3) (oi := ⟨some 3, .assign (.const (.slice none 0 0)), 34, "tape.go:237", #[⟨2, .chain⟩, ⟨0, .phase⟩, ⟨1, .textOnly .lateStores⟩, ⟨2, .phase⟩], none⟩) (v := ?_) rfl (by kernel_rfl) (by kernel_rfl) (by kernel_rfl) (fun _ _ _ h => h) (Or.inl ⟨by rfl, ?_⟩) (by assumption) ?_
        rotate_left
        · intro w hSw
          try dsimp only at hSw
          go_simp
          try with_reducible rfl
        try simp only [Act.put, List.setIfInBounds_toArray, List.set_cons_zero, List.set_cons_succ]
        refine wpAnyH_ready (rs := [4]) (by kernel_rfl) (by simp) ?_
        refine AllReadyH.cons (o := ⟨none, .store 27 (.tmp 4) (.tmp 32), 0, "tape.go:237", #[⟨1, .data⟩, ⟨3, .chain⟩, ⟨0, .phase⟩, ⟨1, .phase⟩, ⟨2, .phase⟩, ⟨3, .phase⟩], none⟩) rfl (fun K hK => ?_) AllReadyH.nil
        have K2 := Lib.hid (flt_facts T2.out.third)
        refine step_store_row rfl 27 (.tmp 4) (.tmp 32) rfl g4 (fltCells f) (by rfl) (by rfl) 27 (fltCells ⟨0, 0⟩) T1.out.swap.heap info_flt (by rfl) (one_flt _) ?_
        refine hK.out _ _ K2.out (fun hHeld => ?_)
        clear hK K hHeld2
        try simp only [Act.put, List.setIfInBounds_toArray, List.set_cons_zero, List.set_cons_succ]
        refine wpAnyH_done (by kernel_rfl) ?_ _
        clear hHeld
        go_wp2_with fail
        exact bodyPost_ret (results_ctc Tryz.results15 _ _ g2 g4 33 27 (polCells .zero) (fltCells f) (0, 0) (0, 0) _ _ (.slice none 0 0) (by rfl) (by rfl) (by rfl) T2.out.heap T2.out.swap.heap Tryz.underlying33 (by rfl) info_pol Tryz.underlying27 (by rfl) info_flt) rfl
          ⟨rfl, T2.out.right.right.right.right.right.right.right.right, Z5.out.drew.then T3.out⟩
      | some x m' =>
        rw [hn] at hq
        obtain ⟨rfl, Q2, x2, s4, z4⟩ := hq
        have S5 : Hid (Sat ((w4.alloc (.cells (recCells x) 44)).alloc (.cells (fltCells ⟨0, 0⟩) 27)) (pt w4.heap.size (.cells (recCells x) 44) * (flP (w4.heap.size + 1) ⟨0, 0⟩ * (recsP (.slice B l.length k) l * (rdrP Q2 g m' xs * (Q2 * (plP g2 .zero * (flP g4 ⟨0, 0⟩ * (flP g6 ⟨0, 0⟩ * R))))))))) := Lib.hid (by
          have h1 := (s4.alloc (.cells (recCells x) 44)).alloc (.cells (fltCells ⟨0, 0⟩) 27)
          simp only [World.size_alloc] at h1
          exact (show Sat _ (flP (w4.heap.size + 1) ⟨0, 0⟩ * (pt w4.heap.size (.cells (recCells x) 44) * (rdrP Q2 g m' xs * (Q2 * (recsP (.slice B l.length k) l * (plP g2 .zero * (flP g4 ⟨0, 0⟩ * (flP g6 ⟨0, 0⟩ * R)))))))) from h1).perm (by ac_rfl))
        have Z5 : Hid (Same w ((w4.alloc (.cells (recCells x) 44)).alloc (.cells (fltCells ⟨0, 0⟩) 27))) := Lib.hid ((ZR3.out.then z4).then (Same.of (((Kept.refl (fun _ => False) w4).alloc _).alloc _)))
        clear s4 z4
        go_upto_region 6 with (fail)
        obtain ⟨w5, hw5⟩ : ∃ w5, w5 = ((w4.alloc (.cells (recCells x) 44)).alloc (.cells (fltCells ⟨0, 0⟩) 27)) := ⟨_, rfl⟩
        change Code.wp _ _ _ _ ((w4.alloc (.cells (recCells x) 44)).alloc (.cells (fltCells ⟨0, 0⟩) 27))
        rw [← hw5] at S5 Z5 ⊢
        clear hw5
        generalize w4.heap.size + 1 = g10 at *
        generalize w4.heap.size = g8 at *
        obtain ⟨l0, l1⟩ := flt_facts S5.out.right
        have hstep := HRT.out.step hl hn
        have hrec : m'.records = m.records + 1 := (Rv.Maker.next_records hn).1
        have hmr := HRT.out.ok.n1
        have hmr' := hstep.ok.n1
        obtain ⟨r0, r1, r2, r3⟩ := rec_facts S5.out
        have S6 : Hid (Sat w5 (recsP (.slice B l.length k) l * (rcP g8 x * (flP g10 ⟨0, 0⟩ * (rdrP Q2 g m' xs * (Q2 * (plP g2 .zero * (flP g4 ⟨0, 0⟩ * (flP g6 ⟨0, 0⟩ * R))))))))) := Lib.hid ((show Sat _ (rcP g8 x * _) from S5.out).perm (by ac_rfl))
        have HSTEP := Lib.hid hstep
        have HREC := Lib.hid hrec
        clear hn HRT S5 hstep hrec
        go_wp2_with (at_builtin; refine sapp_rec rfl (.tmp 43) (.tmp 45) rfl (.slice B l.length k) l x (by rfl) (by rfl) S6.out (by omega) ?_; intro B1 c1 w6 h6 z6; have S7 := Lib.hid h6; have Z7 := Lib.hid (Z5.out.then z6); clear h6 z6)
        have h8 : Sat w6 (recsP (.slice B1 (l ++ [x]).length c1) (l ++ [x]) * (rdrP Q2 g m' xs * (Q2 * (plP g2 .zero * (flP g4 ⟨0, 0⟩ * (flP g6 ⟨0, 0⟩ * R)))))) := by
          rw [List.length_append, List.length_singleton]
          exact (S7.out.perm (show _ = rcP g8 x * (flP g10 ⟨0, 0⟩ * (recsP (.slice B1 (l.length + 1) c1) (l ++ [x]) * (rdrP Q2 g m' xs * (Q2 * (plP g2 .zero * (flP g4 ⟨0, 0⟩ * (flP g6 ⟨0, 0⟩ * R))))))) by ac_rfl)).right.right
        have hr8 := recsAt_eq h8.right
        have H8 := Lib.hid h8
        have HR8 := Lib.hid hr8
        clear h8 hr8
        go_roundw
        case rel => exact ⟨m', l ++ [x], B1, c1, Q2, by rw [List.length_append, List.length_singleton], HSTEP.out, H8.out, Z7.out⟩
        case measure => rw [HR8.out, HRC.out, HREC.out]; have := HREC.out; omega
end Go.Proofs.YtcmndglhileeoaaGreat
