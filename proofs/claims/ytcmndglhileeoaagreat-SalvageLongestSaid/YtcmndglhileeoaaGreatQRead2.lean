/- The walks of package policy: Read of what begins as it should. -/
import Derived.Test.YtcmndglhileeoaaGreatQHeaderToRead
set_option linter.unusedSimpArgs false
set_option linter.unusedVariables false
namespace Go.Proofs.YtcmndglhileeoaaGreat
open Go.RowKit
open Rv (HP Sat Same pt allOf sat_all RdIn row own)

/-- The policy of which the numbers l have been read. -/
def polFill (kind : Int) (l : List Int) : Rv.Pol :=
  if kind = 1 then ⟨kind, l.getD 0 0, l.getD 1 0, l.getD 2 0, 0, 0, l.getD 3 0, l.getD 4 0, l.getD 5 0, l.getD 6 0⟩ else ⟨kind, l.getD 0 0, 0, 0, l.getD 1 0, l.getD 2 0, l.getD 3 0, l.getD 4 0, l.getD 5 0, l.getD 6 0⟩
theorem fill_of {kind : Int} {l : List Int} (h : l.length = 7) : Rv.Pol.of kind l = polFill kind l := by
  rcases l with _ | ⟨a, _ | ⟨b, _ | ⟨c, _ | ⟨d, _ | ⟨e, _ | ⟨f, _ | ⟨g, _ | ⟨x, r⟩⟩⟩⟩⟩⟩⟩⟩ <;> simp at h
  rfl
theorem fill_set {kind : Int} (hk : kind = 1 ∨ kind = 2) {l : List Int} {i off : Nat} {lo hi : Int} (hl : l.length = i) (ht : (tabOf kind)[i + 1]? = some (off, lo, hi)) (n : Int) :
    (polCells (polFill kind l)).setIfInBounds off (.int .i64 n) = polCells (polFill kind (l ++ [n])) := by
  have hi7 : i < 7 := by have := (List.getElem?_eq_some_iff.1 ht).1; rw [tab_len] at this; omega
  subst hl
  rcases l with _ | ⟨a, _ | ⟨b, _ | ⟨c, _ | ⟨d, _ | ⟨e, _ | ⟨f, _ | ⟨g, r⟩⟩⟩⟩⟩⟩⟩ <;>
    first
    | (rcases hk with rfl | rfl <;> simp [tabOf, tab1, tab2] at ht <;> obtain ⟨rfl, rfl, rfl⟩ := ht <;> rfl)
    | (simp at hi7; omega)
theorem fill_zero (kind : Int) : (polCells .zero).setIfInBounds 0 (.int .i64 kind) = polCells (polFill kind []) := by unfold polFill; split <;> rfl
theorem fill_kind (kind : Int) (l : List Int) : (polFill kind l).kind = kind := by unfold polFill; split <;> rfl

theorem PRd.set {w wr : World} {g5 : Nat} {cs : Array Value} (h : PRd (pt g5 (.cells cs 33)) w wr) (hg : w.heap.size ≤ g5) (i : Nat) (v : Value) : PRd (pt g5 (.cells (cs.setIfInBounds i v) 33)) w (wr.setCell ⟨g5, i, none⟩ v) := by
  have h1 := ((h.1.perm (show _ = pt g5 (.cells cs 33) * (pt w.heap.size (.cells (polCells .zero) 33) * pt (w.heap.size + 1) (.cells (fltCells ⟨0, 0⟩) 27)) by ac_rfl)).setCell (i := i) v)
  exact ⟨h1.perm (by ac_rfl), h.2.setCell hg v⟩

theorem PRd.more_row {w wr : World} {Q : HP} {cs : Array Value} {t : TypeId} {F : Array Value} (h : PRd Q w wr) (hs : cs.size = F.size) : PRd (pt wr.heap.size (.cells F t) * Q) w ((wr.alloc (.cells cs t)).setRow wr.heap.size F) := by
  have h1 := (h.1.alloc (.cells cs t)).put (setRow_heap _ wr.heap.size _ F t (0, 0) (heap_alloc_new wr _)) (fun k hk => setRow_other _ _ _ _ hk)
  exact ⟨h1.perm (by ac_rfl), below_setRow (h.2.alloc h.2.size _) h.2.size F⟩

def addTo (l : List Int) : Except Rv.Fault (List Int × Nat) → Except Rv.Fault (List Int × Nat)
  | .error f => .error f
  | .ok (r, to) => .ok (l ++ r, to)
/-- What stands in the loop of Read: i numbers, l, have been read; the next stands at at_. -/
structure RdLoop (w wr : World) (xs : List UInt8) (g5 gf at0 : Nat) (F : Array Value) (kd : Int) (i at_ : Nat) (l : List Int) : Prop where
  len : l.length = i
  le : at_ ≤ xs.length
  cont : Rv.rdMany xs 7 at0 = addTo l (Rv.rdMany xs (7 - i) at_)
  mem : PRd (pt gf (.cells F 131) * pt g5 (.cells (polCells (polFill kd l)) 33)) w wr
theorem addTo_nil (r : Except Rv.Fault (List Int × Nat)) : addTo [] r = r := by unfold addTo; split <;> rfl
theorem RdLoop.bad {w wr : World} {xs : List UInt8} {g5 gf at0 : Nat} {F : Array Value} {kd : Int} {i at_ : Nat} {l : List Int} (h : RdLoop w wr xs g5 gf at0 F kd i at_ l) (hi : i < 7) {e : Int} (hb : Rv.rdB (xs.drop at_) = .bad e) : Rv.rdMany xs 7 at0 = .error ⟨e, at_⟩ := by
  rw [h.cont, show 7 - i = (6 - i) + 1 by omega, Rv.rdMany, hb]; rfl
theorem RdLoop.step {xs : List UInt8} {at0 : Nat} {i at_ : Nat} {l : List Int} (h : Rv.rdMany xs 7 at0 = addTo l (Rv.rdMany xs (7 - i) at_)) (hi : i < 7) {n len : Nat} (hb : Rv.rdB (xs.drop at_) = .ok n len) :
    Rv.rdMany xs 7 at0 = addTo (l ++ [(n : Int)]) (Rv.rdMany xs (7 - (i + 1)) (at_ + len)) := by
  rw [h, show 7 - i = (6 - i) + 1 by omega, Rv.rdMany, hb, show 7 - (i + 1) = 6 - i by omega]
  simp only
  cases Rv.rdMany xs (6 - i) (at_ + len) with
  | error f => rfl
  | ok r => obtain ⟨r, to⟩ := r; simp [addTo]

theorem rd_bad7 {xs : List UInt8} (h : xs.take 4 = [82, 69, 69, 76]) {n len : Nat} (hb : Rv.rdB (xs.drop 4) = .ok n len) (hn : n = 1 ∨ n = 2) {f : Rv.Fault} (h7 : Rv.rdMany xs 7 (4 + len) = .error f) : Rv.Pol.read xs = .error f := by
  unfold Rv.Pol.read
  rw [if_neg (by rw [h]; simp), hb]
  simp only
  rw [if_neg (by omega), h7]

theorem PRd.more' {Q : HP} {w wr : World} (h : PRd Q w wr) (o : Obj) : PRd (pt wr.heap.size o * Q) w (wr.alloc o) := ⟨(h.1.alloc o).perm (by ac_rfl), h.2.alloc h.2.size o⟩
theorem PRd.drew {Q : HP} {w wr : World} (h : PRd Q w wr) : PRd Q w wr.drew := ⟨h.1.drew, h.2.drew⟩
theorem PRd.fst {o : Obj} {g : Nat} {Q : HP} {w wr : World} (h : PRd (pt g o * Q) w wr) : wr.heap[g]? = some o := h.1.right.right.heap
theorem PRd.snd' {o : Obj} {g : Nat} {A Q : HP} {w wr : World} (h : PRd (A * (pt g o * Q)) w wr) : wr.heap[g]? = some o := h.1.right.right.right.heap
theorem PRd.setA {Q : HP} {w wr : World} {g : Nat} {cs : Array Value} {t : TypeId} (h : PRd (pt g (.cells cs t) * Q) w wr) (hg : w.heap.size ≤ g) (i : Nat) (v : Value) : PRd (pt g (.cells (cs.setIfInBounds i v) t) * Q) w (wr.setCell ⟨g, i, none⟩ v) := by
  have h1 := ((h.1.perm (show _ = pt g (.cells cs t) * (pt w.heap.size (.cells (polCells .zero) 33) * (pt (w.heap.size + 1) (.cells (fltCells ⟨0, 0⟩) 27) * Q)) by ac_rfl)).setCell (i := i) v)
  exact ⟨h1.perm (by ac_rfl), h.2.setCell hg v⟩
theorem PRd.last {A B C : HP} {g : Nat} {o : Obj} {w wr : World} (h : PRd (A * (B * (C * pt g o))) w wr) : wr.heap[g]? = some o := h.1.right.right.right.right.right.one.heap
theorem PRd.snd2 {R : HP} {w wr : World} (h : PRd R w wr) (q : Rv.Pol) : (wr.setRow w.heap.size (polCells q)).heap[w.heap.size + 1]? = some (.cells (fltCells ⟨0, 0⟩) 27 (0, 0)) := (setRow_other _ _ _ _ (by omega)).trans h.1.right.heap
theorem PRd.exit2 {R : HP} {w wr : World} (h : PRd R w wr) (q : Rv.Pol) (f : Rv.Fault) :
    ((wr.setRow w.heap.size (polCells q)).setRow (w.heap.size + 1) (fltCells f)).heap[w.heap.size]? = some (.cells (polCells q) 33 (0, 0)) ∧
    ((wr.setRow w.heap.size (polCells q)).setRow (w.heap.size + 1) (fltCells f)).heap[w.heap.size + 1]? = some (.cells (fltCells f) 27 (0, 0)) ∧
    Below w.heap.size w ((wr.setRow w.heap.size (polCells q)).setRow (w.heap.size + 1) (fltCells f)) := by
  have g1 := h.1.heap
  have g2 := h.1.right.heap
  refine ⟨?_, setRow_heap _ _ _ _ _ _ ((setRow_other _ _ _ _ (by omega)).trans g2), below_setRow (below_setRow h.2 (Nat.le_refl _) _) (by omega) _⟩
  rw [setRow_other _ _ _ _ (by omega)]
  exact setRow_heap _ _ _ _ _ _ g1
theorem PRd.results2 {R : HP} {w wr : World} (h : PRd R w wr) (q : Rv.Pol) (f : Rv.Fault) (v : Value) (tmps : Array Value) (hp : tmps.getD 2 undef = .pointer (some ⟨w.heap.size, 0, none⟩)) (hq : tmps.getD 3 undef = v) (hr : tmps.getD 4 undef = .pointer (some ⟨w.heap.size + 1, 0, none⟩)) :
    (Go.results Tryz.f28 tmps).run Tryz.prog ((wr.setRow w.heap.size (polCells q)).setRow (w.heap.size + 1) (fltCells f)) = .ok (.tuple #[.agg (polCells q), v, .agg (fltCells f)]) ((wr.setRow w.heap.size (polCells q)).setRow (w.heap.size + 1) (fltCells f)) :=
  results_ctc Tryz.results28 tmps _ w.heap.size (w.heap.size + 1) 33 27 (polCells q) (fltCells f) (0, 0) (0, 0) _ _ v hp hq hr (h.exit2 q f).1 (h.exit2 q f).2.1 Tryz.underlying33 (by rfl) info_pol Tryz.underlying27 (by rfl) info_flt
/-- What seal.Read told. -/
def SealIs (at_ : Nat) (r : Except Int Rv.Seal) (a b nx e : Int) : Prop := match r with
  | .error er => e = er
  | .ok s => a = s.re ∧ b = s.im ∧ nx = (at_ : Int) + 6 ∧ e = 0
theorem sealRes_is (at_ : Nat) (r : Except Int Rv.Seal) : ∃ a b nx e, sealRes at_ r = .returned (.tuple #[.agg #[.int .i64 a, .int .i64 b], .int .i64 nx, .int .i64 e]) ∧ SealIs at_ r a b nx e := by
  cases r with
  | error er => exact ⟨0, 0, 0, er, rfl, rfl⟩
  | ok s => exact ⟨s.re, s.im, _, 0, rfl, rfl, rfl, rfl, rfl⟩
theorem PRd.set2 {A : HP} {w wr : World} {g5 : Nat} {cs : Array Value} (h : PRd (A * pt g5 (.cells cs 33)) w wr) (hg : w.heap.size ≤ g5) (i : Nat) (v : Value) : PRd (A * pt g5 (.cells (cs.setIfInBounds i v) 33)) w (wr.setCell ⟨g5, i, none⟩ v) := by
  have h1 := ((h.1.perm (show _ = pt g5 (.cells cs 33) * (pt w.heap.size (.cells (polCells .zero) 33) * (pt (w.heap.size + 1) (.cells (fltCells ⟨0, 0⟩) 27) * A)) by ac_rfl)).setCell (i := i) v)
  exact ⟨h1.perm (by ac_rfl), h.2.setCell hg v⟩
theorem rd_notok {xs : List UInt8} (h : xs.take 4 = [82, 69, 69, 76]) {n len : Nat} (hb : Rv.rdB (xs.drop 4) = .ok n len) (hn : n = 1 ∨ n = 2) {l : List Int} {to : Nat} (h7 : Rv.rdMany xs 7 (4 + len) = .ok (l, to)) {p : Rv.Pol} (hp : Rv.Pol.of n l = p) (hok : p.ok = false) :
    Rv.Pol.read xs = .error ⟨40, 4⟩ := by
  unfold Rv.Pol.read
  rw [if_neg (by rw [h]; simp), hb]
  simp only
  rw [if_neg (by omega), h7]
  simp only
  rw [hp, if_pos hok]
theorem rd_seal {xs : List UInt8} (h : xs.take 4 = [82, 69, 69, 76]) {n len : Nat} (hb : Rv.rdB (xs.drop 4) = .ok n len) (hn : n = 1 ∨ n = 2) {l : List Int} {to : Nat} (h7 : Rv.rdMany xs 7 (4 + len) = .ok (l, to)) {p : Rv.Pol} (hp : Rv.Pol.of n l = p) (hok : p.ok = true) :
    Rv.Pol.read xs = match Rv.Seal.read (xs.drop to) with
      | .error e => .error ⟨e, to⟩
      | .ok s => if s = Rv.Seal.start.adds (xs.take to) then .ok (p, to + 6) else .error ⟨41, to⟩ := by
  unfold Rv.Pol.read
  rw [if_neg (by rw [h]; simp), hb]
  simp only
  rw [if_neg (by omega), h7]
  simp only
  rw [hp, if_neg (by rw [hok]; simp)]
  rfl
theorem sread_bad {l : Rv.Bs} {e : Int} (h : Rv.Seal.read l = .error e) : e = 10 ∨ e = 20 := by
  unfold Rv.Seal.read at h
  split at h
  · simp only at h
    split at h
    · cases h
    · cases h; exact .inr rfl
  · cases h; exact .inl rfl

set_option maxHeartbeats 4000000 in
set_option maxRecDepth 100000 in
theorem pread_reel (A : Option Addr) (xs : List UInt8) (c : Nat) (w : World) (hr : RdB w A xs) (hl : 4 ≤ xs.length) (hm : xs.length ≤ 140737488355328) (hc : xs.length ≤ c) (hx : xs.take 4 = [82, 69, 69, 76]) :
    Calls Tryz.prog 28 #[.slice A xs.length c] w fun e w' => e = preadRes (Rv.Pol.read xs) ∧ Below w.heap.size w w' := by
  have e1 : decide ((xs.length : Int) < 4) = false := by simp; omega
  obtain ⟨u, hu⟩ := some_at (xs := xs) (i := 0) (by omega)
  obtain ⟨ad, rfl, _⟩ := hr 0 u hu
  have HR := Lib.hid hr
  have H4 := Lib.hid hx
  clear hr hu hx
  go_enter Tryz.func28, Tryz.ntmps28
  go_upto_region 1 with (fail)
  obtain ⟨w2, hw2⟩ : ∃ w2, w2 = (w.alloc (.cells (polCells .zero) 33)).alloc (.cells (fltCells ⟨0, 0⟩) 27) := ⟨_, rfl⟩
  change Code.wp _ _ _ _ ((w.alloc (.cells (polCells .zero) 33)).alloc (.cells (fltCells ⟨0, 0⟩) 27))
  rw [← hw2]
  have M2 : Hid (PRd 1 w w2) := Lib.hid (by rw [hw2]; exact PRd.begin w)
  clear hw2
  have hk := conv_str w2 ad c (xs.take 4) ((HR.out.below M2.out.2).take 4)
  rw [List.length_take, Nat.min_eq_left hl, H4.out] at hk
  go_upto_region 4 with (fail)
  clear hk e1
  obtain ⟨w3, hw3⟩ : ∃ w3, w3 = w2.alloc (.cells (polCells .zero) 33) := ⟨_, rfl⟩
  change Code.wp _ _ _ _ (w2.alloc (.cells (polCells .zero) 33))
  rw [← hw3]
  have M3 : Hid (PRd (pt w2.heap.size (.cells (polCells .zero) 33)) w w3) := Lib.hid (by rw [hw3]; exact M2.out.more _)
  have Hg5 : Hid (w.heap.size ≤ w2.heap.size) := Lib.hid M2.out.2.size
  clear hw3 M2
  generalize w2.heap.size = g5 at *
  clear w2
  go_wp2_with fail
  refine (read_any (some ad) xs c 4 w3 (HR.out.below M3.out.2) (by omega) (by omega)).mono ?_
  rintro e w' ⟨rfl, rfl⟩
  cases hb : Rv.rdB (xs.drop 4) with
  | bad e =>
    have he := rdB_bad hb
    have he1 : (e == 0) = false := by rw [beq_eq_false_iff_ne]; omega
    have he2 : (e != 0) = true := by rw [bne, he1]; rfl
    have HX := Lib.hid (rd_bad1 H4.out hb)
    clear hb he
    unfold readRes
    go_wp2_with (first
    | ((with_reducible refine at_store 33 2 51 ?_); refine wpList_store_row rfl 33 (.tmp 2) (.tmp 51) rfl w.heap.size (polCells .zero) (by rfl) (by rfl) 33 (polCells .zero) M3.out.1.heap info_pol (by rfl) (one_pol _) ?_)
    | ((with_reducible refine at_store 27 4 54 ?_); refine wpList_store_row rfl 27 (.tmp 4) (.tmp 54) rfl (w.heap.size + 1) (fltCells ⟨e, 4⟩) (by rfl) (by rfl) 27 (fltCells ⟨0, 0⟩) M3.out.snd info_flt (by rfl) (one_flt _) ?_))
    exact bodyPost_ret (M3.out.results ⟨e, 4⟩ _ (by rfl) (by rfl) (by rfl)) rfl ⟨by rw [HX.out]; rfl, (M3.out.exit ⟨e, 4⟩).2.2⟩
  | ok n len =>
    by_cases hn : n = 1 ∨ n = 2
    · have hkn : (n : Int) = 1 ∨ (n : Int) = 2 := by omega
      obtain ⟨kd, hkd⟩ : ∃ kd : Int, kd = (n : Int) := ⟨_, rfl⟩
      have HB := Lib.hid hb
      have Hkd := Lib.hid hkd
      have hto := Rv.rdB_ok hb
      rw [← hkd] at hkn
      obtain ⟨at0, hat0⟩ : ∃ at0, at0 = 4 + len := ⟨_, rfl⟩
      have Hat0 := Lib.hid hat0
      have hle : at0 ≤ xs.length := by omega
      clear hb hn hto hat0 hkd
      rw [show readRes 4 (.ok n len) = .returned (.tuple #[.int .i64 kd, .int .i64 (at0 : Int), .int .i64 0]) from by rw [Hkd.out, Hat0.out]; rfl]
      have q5 := M3.out.1.right.right.one.heap
      have d50 : w3.cell? ⟨g5, 0, none⟩ = some (.int .i64 0) := by rw [cells_of q5]; rfl
      have f50 : w3.frozen? ⟨g5, 0, none⟩ = false := frozen_of q5 0
      clear q5
      have Hkn := Lib.hid hkn
      have k0 := Hkn.out
      rcases k0 with rfl | rfl
      all_goals
        go_upto_region 11 with (fail)
        first
        | (obtain ⟨kd, Hkd, Hk, w4, hw4, M4⟩ : ∃ kd : Int, Hid (kd = (n : Int)) ∧ Hid (kd = 1 ∨ kd = 2) ∧ ∃ w4, w4 = w3.setCell ⟨g5, 0, none⟩ (.int .i64 1) ∧ Hid (PRd (pt g5 (.cells (polCells (polFill kd [])) 33)) w w4) :=
            ⟨1, Hkd, Lib.hid (by decide), _, rfl, Lib.hid (by rw [← fill_zero]; exact M3.out.set Hg5.out 0 _)⟩
           rw [← hw4]; clear hw4)
        | (obtain ⟨kd, Hkd, Hk, w4, hw4, M4⟩ : ∃ kd : Int, Hid (kd = (n : Int)) ∧ Hid (kd = 1 ∨ kd = 2) ∧ ∃ w4, w4 = w3.setCell ⟨g5, 0, none⟩ (.int .i64 2) ∧ Hid (PRd (pt g5 (.cells (polCells (polFill kd [])) 33)) w w4) :=
            ⟨2, Hkd, Lib.hid (by decide), _, rfl, Lib.hid (by rw [← fill_zero]; exact M3.out.set Hg5.out 0 _)⟩
           rw [← hw4]; clear hw4)
        clear M3 d50 f50 Hkn
        have hk0 : w4.cell? ⟨g5, 0, none⟩ = some (.int .i64 kd) := by rw [cells_of M4.out.1.right.right.one.heap]; show some (Value.int .i64 (polFill kd []).kind) = _; rw [fill_kind]
        go_wp2_with fail
        refine (fields_tab g5 _ kd Hk.out hk0).mono ?_
        rintro e w5 ⟨F, HT, rfl, b1⟩
        clear hk0
        have HF := Lib.hid HT
        have hi : Hid ((Tryz.prog.info? 131).map (·.size) = some F.size) := Lib.hid (by rw [HT.size]; exact (zero_of_info zero131).2)
        have ho : Hid (zeros8.size = F.size) := Lib.hid (by rw [HT.size]; rfl)
        have h1c := Lib.hid HT.one
        clear HT
        have M5 := Lib.hid (M4.out.below b1)
        clear b1 M4
        have hW : Hid (∀ (w9 : World), w9 = (w5.alloc (.cells zeros8 131)).setRow w5.heap.size F → PRd (pt w5.heap.size (.cells F 131) * pt g5 (.cells (polCells (polFill kd [])) 33)) w w9) := Lib.hid (by
          rintro w9 rfl
          exact M5.out.more_row ho.out)
        go_upto_region 12 with (first
          | ((with_reducible refine at_slot 10 ?_); refine wpList_alloc rfl 131 rfl (.agg zeros8) (zero_of_info zero131).1 ?_)
          | ((with_reducible refine at_store 131 10 60 ?_); refine wpList_store_row rfl 131 (.tmp 10) (.tmp 60) rfl w5.heap.size F (by rfl) (by rfl) 131 zeros8 (heap_alloc_new w5 _) hi.out ho.out h1c.out ?_; obtain ⟨w9, hw9⟩ : ∃ w9, w9 = (w5.alloc (.cells zeros8 131)).setRow w5.heap.size F := ⟨_, rfl⟩; have M9 := Lib.hid (hW.out w9 hw9); change wpList _ _ _ _ _ ((w5.alloc (.cells zeros8 131)).setRow w5.heap.size F); rw [← hw9]; clear hw9 hW; have Hgf : Hid (w.heap.size ≤ w5.heap.size) := Lib.hid M5.out.2.size; clear M5; generalize w5.heap.size = gf at *; clear w5))
        clear ho h1c
        go_wp2_with fail
        have HL : Hid (RdLoop w w9 xs g5 gf at0 F kd 0 at0 []) := Lib.hid ⟨rfl, hle, (addTo_nil _).symm, M9.out⟩
        clear M9 hi
        go_loopw [6, 64] (fun t6 t64 wr => ∃ (i at_ : Nat) (l : List Int), t64 = .int .i64 i ∧ t6 = .int .i64 at_ ∧ i ≤ 7 ∧ RdLoop w wr xs g5 gf at0 F kd i at_ l) (fun _ i _ => 7 - (intOf i).toNat)
        case atStart => exact ⟨0, at0, [], rfl, rfl, by omega, HL.out⟩
        case round =>
          obtain ⟨i, at_, l, rfl, rfl, hi7, hm⟩ := hrel
          have Hm := Lib.hid hm
          clear hm HL
          by_cases hlt : i < 7
          · obtain ⟨⟨off, lo, hi⟩, ht⟩ := some_at (xs := tabOf kd) (i := i + 1) (by rw [tab_len]; omega)
            obtain ⟨f0, f1, f2⟩ := HF.out.cells (i + 1) off lo hi ht
            have Ht := Lib.hid ht
            have hoff := tab_off ht
            have hla := Hm.out.le
            have qf := Hm.out.mem.1.right.right.heap
            have c0 : wr.cell? ⟨gf, 3 + i * 3, none⟩ = some (fp g5 off) := by rw [cells_of qf, show 3 + i * 3 = 3 * (i + 1) by omega]; exact f0
            have c1 : wr.cell? ⟨gf, 3 + i * 3 + 1, none⟩ = some (.int .i64 lo) := by rw [cells_of qf, show 3 + i * 3 + 1 = 3 * (i + 1) + 1 by omega]; exact f1
            have c2 : wr.cell? ⟨gf, 3 + i * 3 + 2, none⟩ = some (.int .i64 hi) := by rw [cells_of qf, show 3 + i * 3 + 2 = 3 * (i + 1) + 2 by omega]; exact f2
            clear ht f0 f1 f2 qf
            go_wp2_with fail
            obtain ⟨wb, hwb⟩ : ∃ wb, wb = wr.alloc (.cells #[fp g5 off, .int .i64 lo, .int .i64 hi] 130) := ⟨_, rfl⟩
            change Calls _ _ _ (wr.alloc (.cells #[fp g5 off, .int .i64 lo, .int .i64 hi] 130)) _
            rw [← hwb]
            have bb : Below wr.heap.size wr wb := by rw [hwb]; exact (Below.refl _ _).alloc (Nat.le_refl _) _
            have Mb : Hid (PRd (pt gf (.cells F 131) * pt g5 (.cells (polCells (polFill kd l)) 33)) w wb) := Lib.hid (Hm.out.mem.below bb)
            have cb : wb.cell? ⟨wr.heap.size, 0, none⟩ = some (fp g5 off) := by rw [hwb, cells_of (heap_alloc_new wr _)]; rfl
            clear c0 c1 c2 bb hwb
            refine (read_any (some ad) xs c at_ wb (HR.out.below Mb.out.2) (by omega) hla).mono ?_
            rintro e w' ⟨rfl, rfl⟩
            cases hb : Rv.rdB (xs.drop at_) with
            | bad e =>
              have he := rdB_bad hb
              have he2 : (e != 0) = true := by rw [bne, beq_eq_false_iff_ne.2 (by omega)]; rfl
              have HX := Lib.hid (rd_bad7 H4.out HB.out (Hk.out.imp (fun h => by rw [Hkd.out] at h; omega) (fun h => by rw [Hkd.out] at h; omega)) (by rw [← Hat0.out]; exact Hm.out.bad hlt hb))
              clear hb he cb
              unfold readRes
              go_wp2_with (first
    | ((with_reducible refine at_store 33 2 77 ?_); refine wpList_store_row rfl 33 (.tmp 2) (.tmp 77) rfl w.heap.size (polCells .zero) (by rfl) (by rfl) 33 (polCells .zero) Mb.out.1.heap info_pol (by rfl) (one_pol _) ?_)
    | ((with_reducible refine at_store 27 4 80 ?_); refine wpList_store_row rfl 27 (.tmp 4) (.tmp 80) rfl (w.heap.size + 1) (fltCells ⟨e, at_⟩) (by rfl) (by rfl) 27 (fltCells ⟨0, 0⟩) Mb.out.snd info_flt (by rfl) (one_flt _) ?_))
              exact bodyPost_ret (Mb.out.results ⟨e, at_⟩ _ (by rfl) (by rfl) (by rfl)) rfl ⟨by rw [HX.out]; rfl, (Mb.out.exit ⟨e, at_⟩).2.2⟩
            | ok v len2 =>
              have Hv := Lib.hid hb
              have hto := Rv.rdB_ok hb
              obtain ⟨at2, hat2⟩ : ∃ at2, at2 = at_ + len2 := ⟨_, rfl⟩
              rw [show readRes at_ (.ok v len2) = .returned (.tuple #[.int .i64 (v : Int), .int .i64 (at2 : Int), .int .i64 0]) from by rw [hat2]; rfl]
              have Hat2 := Lib.hid hat2
              clear hb hat2
              have q5 := Mb.out.1.right.right.right.one.heap
              have d5 : wb.cell? ⟨g5, off, none⟩ = some (.int .i64 (fld (polFill kd l) off)) := by rw [cells_of q5]; exact cell_fld _ off hoff
              have f5 : wb.frozen? ⟨g5, off, none⟩ = false := frozen_of q5 off
              clear q5
              go_wp2_with fail
              have Hm2 : Hid (RdLoop w (wb.setCell ⟨g5, off, none⟩ (.int .i64 (v : Int))) xs g5 gf at0 F kd (i + 1) at2 (l ++ [(v : Int)])) := Lib.hid ⟨by rw [List.length_append, Hm.out.len]; rfl, by rw [Hat2.out]; omega, by rw [Hat2.out]; exact RdLoop.step Hm.out.cont hlt Hv.out,
                by rw [← fill_set Hk.out Hm.out.len Ht.out]; exact Mb.out.set2 Hg5.out off _⟩
              go_roundw
              case rel => exact ⟨i + 1, at2, l ++ [(v : Int)], by go_num, rfl, by omega, Hm2.out⟩
              case measure => simp [intOf]; omega
          · obtain rfl : i = 7 := by omega
            have H7 : Hid (Rv.rdMany xs 7 at0 = .ok (l, at_)) := Lib.hid (by rw [Hm.out.cont]; simp [addTo, Rv.rdMany])
            obtain ⟨p, hp⟩ : ∃ p, p = polFill kd l := ⟨_, rfl⟩
            have Hp : Hid (Rv.Pol.of kd l = p) := Lib.hid (by rw [hp]; exact fill_of Hm.out.len)
            have Mp : Hid (PRd (pt gf (.cells F 131) * pt g5 (.cells (polCells p) 33)) w wr) := Lib.hid (by rw [hp]; exact Hm.out.mem)
            have hla := Hm.out.le
            clear hp hlt Hm
            have q5 := Lib.hid (Mp.out.1.right.right.right.one.heap)
            go_wp2_with ((with_reducible refine at_slot 87 ?_); refine wpList_load_row rfl 33 (.tmp 5) rfl g5 (by rfl) 33 (polCells p) (0, 0) _ q5.out Tryz.underlying33 (by rfl) info_pol ?_)
            clear q5
            refine (pright_any p _).mono ?_
            rintro e w6 ⟨rfl, b6⟩
            have M6 := Lib.hid (Mp.out.below b6)
            clear b6 Mp
            cases hok : p.ok with
            | false =>
              rw [right_40 hok]
              have HX := Lib.hid (rd_notok H4.out HB.out (Hk.out.imp (fun h => by rw [Hkd.out] at h; omega) (fun h => by rw [Hkd.out] at h; omega)) (by rw [← Hat0.out]; exact H7.out) (by rw [← Hkd.out]; exact Hp.out) hok)
              clear hok
              go_wp2_with (first
    | ((with_reducible refine at_store 33 2 91 ?_); refine wpList_store_row rfl 33 (.tmp 2) (.tmp 91) rfl w.heap.size (polCells .zero) (by rfl) (by rfl) 33 (polCells .zero) M6.out.1.heap info_pol (by rfl) (one_pol _) ?_)
    | ((with_reducible refine at_store 27 4 93 ?_); refine wpList_store_row rfl 27 (.tmp 4) (.tmp 93) rfl (w.heap.size + 1) (fltCells ⟨40, 4⟩) (by rfl) (by rfl) 27 (fltCells ⟨0, 0⟩) M6.out.snd info_flt (by rfl) (one_flt _) ?_))
              exact bodyPost_ret (M6.out.results ⟨40, 4⟩ _ (by rfl) (by rfl) (by rfl)) rfl ⟨by rw [HX.out]; rfl, (M6.out.exit ⟨40, 4⟩).2.2⟩
            | true =>
              rw [right_0 hok]
              have Hok := Lib.hid hok
              clear hok
              go_wp2_with fail
              have HX := Lib.hid (rd_seal H4.out HB.out (Hk.out.imp (fun h => by rw [Hkd.out] at h; omega) (fun h => by rw [Hkd.out] at h; omega)) (by rw [← Hat0.out]; exact H7.out) (by rw [← Hkd.out]; exact Hp.out) Hok.out)
              have HA : Hid (∀ w8, RdB w8 (some ad) xs → Calls Tryz.prog 37 #[sealV Rv.Seal.start, .slice (some ad) at_ c] w8 fun e w' => e = .returned (.tuple #[.agg #[.int .i64 (Rv.Seal.start.adds (xs.take at_)).re, .int .i64 (Rv.Seal.start.adds (xs.take at_)).im], .int .i64 0]) ∧ Below w8.heap.size w8 w') := Lib.hid (fun w8 h8 => by
                have := add_any Rv.Seal.start (some ad) (xs.take at_) c w8 (h8.take at_) (by rw [List.length_take]; omega) (by rfl)
                rw [List.length_take, Nat.min_eq_left hla] at this
                exact this)
              obtain ⟨due, hdue⟩ : ∃ s, s = Rv.Seal.start.adds (xs.take at_) := ⟨_, rfl⟩
              rw [← hdue] at HA HX
              clear hdue
              refine (sread_any (some ad) xs c at_ w6 (HR.out.below M6.out.2) (by omega) hc hla).mono ?_
              rintro e w7 ⟨rfl, b7⟩
              have M7 := Lib.hid (M6.out.below b7)
              clear b7 M6
              obtain ⟨sa, sb, nx, er, hres, his⟩ := sealRes_is at_ (Rv.Seal.read (xs.drop at_))
              rw [hres]
              have His := Lib.hid his
              clear hres his
              go_upto_region 24 with (fail)
              have hs0 : (0 : Int) ≤ (at_ : Int) := by omega
              have hs1 : (at_ : Int) ≤ (c : Int) := by omega
              obtain ⟨w8, hw8⟩ : ∃ w8, w8 = w7.alloc (.cells #[.int .i64 sa, .int .i64 sb] 61) := ⟨_, rfl⟩
              have M8 : Hid (PRd (pt w7.heap.size (.cells #[.int .i64 sa, .int .i64 sb] 61) * (pt gf (.cells F 131) * pt g5 (.cells (polCells p) 33))) w w8) := Lib.hid (by rw [hw8]; exact M7.out.more' _)
              rw [← hw8]
              clear hw8 M7
              generalize w7.heap.size = g18 at *
              clear w7
              go_region_held3 (fun _ => True) (first | exact trivial | go_keep)
                (first
                  | (go_at_call 56; refine (start_any w8.drew).mono ?_; rintro e w9 ⟨rfl, b9⟩; have M9 : Hid (PRd (pt g18 (.cells #[.int .i64 sa, .int .i64 sb] 61) * (pt gf (.cells F 131) * pt g5 (.cells (polCells p) 33))) w w9) := Lib.hid (M8.out.drew.below b9); clear b9)
                  | (go_at_call 56; refine (start_any (w8.drew.alloc (.cells #[.int .i64 0, .int .i64 0] 61))).mono ?_; rintro e w9 ⟨rfl, b9⟩; have M9 : Hid (PRd (pt w8.heap.size (.cells #[.int .i64 0, .int .i64 0] 61) * (pt g18 (.cells #[.int .i64 sa, .int .i64 sb] 61) * (pt gf (.cells F 131) * pt g5 (.cells (polCells p) 33)))) w w9) := Lib.hid ((M8.out.drew.more' (.cells #[.int .i64 0, .int .i64 0] 61)).below b9); have Hg19 : Hid (w.heap.size ≤ w8.heap.size) := Lib.hid M8.out.2.size; clear b9)
                  | (go_at_call 37; have M9a := Lib.hid (M9.out.more' (.cells #[.int .i64 0, .int .i64 0] 61)); refine (HA.out (w9.alloc (.cells #[.int .i64 0, .int .i64 0] 61)) (HR.out.below M9a.out.2)).mono ?_; rintro e w10 ⟨rfl, b10⟩; have M10 := Lib.hid (M9a.out.below b10); have Hg19 : Hid (w.heap.size ≤ w9.heap.size) := Lib.hid M9.out.2.size; clear b10; have d0 : w10.cell? ⟨w9.heap.size, 0, none⟩ = some (.int .i64 0) := (cells_of M10.out.fst 0).trans rfl; have d1 : w10.cell? ⟨w9.heap.size, 1, none⟩ = some (.int .i64 0) := (cells_of M10.out.fst 1).trans rfl; have df0 : w10.frozen? ⟨w9.heap.size, 0, none⟩ = false := frozen_of M10.out.fst 0; have df1 : w10.frozen? ⟨w9.heap.size, 1, none⟩ = false := frozen_of M10.out.fst 1)
                  | (go_at_call 37; refine (HA.out w9 (HR.out.below M9.out.2)).mono ?_; rintro e w10 ⟨rfl, b10⟩; have M10 := Lib.hid (M9.out.below b10); clear b10; try (have d0 : w10.cell? ⟨w8.heap.size, 0, none⟩ = some (.int .i64 0) := (cells_of M10.out.fst 0).trans rfl; have d1 : w10.cell? ⟨w8.heap.size, 1, none⟩ = some (.int .i64 0) := (cells_of M10.out.fst 1).trans rfl; have df0 : w10.frozen? ⟨w8.heap.size, 0, none⟩ = false := frozen_of M10.out.fst 0; have df1 : w10.frozen? ⟨w8.heap.size, 1, none⟩ = false := frozen_of M10.out.fst 1)))
              all_goals
                first
                | (have M11 : Hid (PRd (pt w8.heap.size (.cells #[.int .i64 due.re, .int .i64 due.im] 61) * (pt g18 (.cells #[.int .i64 sa, .int .i64 sb] 61) * (pt gf (.cells F 131) * pt g5 (.cells (polCells p) 33)))) w ((w10.setCell ⟨w8.heap.size, 0, none⟩ (.int .i64 due.re)).setCell ⟨w8.heap.size, 1, none⟩ (.int .i64 due.im))) := Lib.hid ((M10.out.setA Hg19.out 0 _).setA Hg19.out 1 _); clear d0 d1 df0 df1; generalize (w10.setCell ⟨w8.heap.size, 0, none⟩ (.int .i64 due.re)).setCell ⟨w8.heap.size, 1, none⟩ (.int .i64 due.im) = w11 at *; generalize w8.heap.size = g19 at *)
                | (have M11 : Hid (PRd (pt w9.heap.size (.cells #[.int .i64 due.re, .int .i64 due.im] 61) * (pt g18 (.cells #[.int .i64 sa, .int .i64 sb] 61) * (pt gf (.cells F 131) * pt g5 (.cells (polCells p) 33)))) w ((w10.setCell ⟨w9.heap.size, 0, none⟩ (.int .i64 due.re)).setCell ⟨w9.heap.size, 1, none⟩ (.int .i64 due.im))) := Lib.hid ((M10.out.setA Hg19.out 0 _).setA Hg19.out 1 _); clear d0 d1 df0 df1; generalize (w10.setCell ⟨w9.heap.size, 0, none⟩ (.int .i64 due.re)).setCell ⟨w9.heap.size, 1, none⟩ (.int .i64 due.im) = w11 at *; generalize w9.heap.size = g19 at *)
                | (have M11 : Hid (PRd (pt w10.heap.size (.cells #[.int .i64 due.re, .int .i64 due.im] 61) * (pt g18 (.cells #[.int .i64 sa, .int .i64 sb] 61) * (pt gf (.cells F 131) * pt g5 (.cells (polCells p) 33)))) w (w10.alloc (.cells #[.int .i64 due.re, .int .i64 due.im] 61))) := Lib.hid (M10.out.more' (.cells #[.int .i64 due.re, .int .i64 due.im] 61)); generalize w10.alloc (.cells #[.int .i64 due.re, .int .i64 due.im] 61) = w11 at *; generalize w10.heap.size = g19 at *)
              all_goals
                clear M8 M9 M10 HA
                have k0 : w11.cell? ⟨g18, 0, none⟩ = some (.int .i64 sa) := (cells_of M11.out.snd' 0).trans rfl
                have k1 : w11.cell? ⟨g18, 1, none⟩ = some (.int .i64 sb) := (cells_of M11.out.snd' 1).trans rfl
                have k2 : w11.cell? ⟨g19, 0, none⟩ = some (.int .i64 due.re) := (cells_of M11.out.fst 0).trans rfl
                have k3 : w11.cell? ⟨g19, 1, none⟩ = some (.int .i64 due.im) := (cells_of M11.out.fst 1).trans rfl
                cases hsr : Rv.Seal.read (xs.drop at_) with
                | error e =>
                  rw [hsr] at His HX
                  have h2 : er = e := His.out
                  subst h2
                  have he := sread_bad hsr
                  have he1 : (er == 0) = false := beq_eq_false_iff_ne.2 (by omega)
                  have he2 : (er != 0) = true := by rw [bne, he1]; rfl
                  clear hsr he His
                  go_wp2_with (first
                    | ((with_reducible refine at_store 33 2 118 ?_); refine wpList_store_row rfl 33 (.tmp 2) (.tmp 118) rfl w.heap.size (polCells .zero) (by rfl) (by rfl) 33 (polCells .zero) M11.out.1.heap info_pol (by rfl) (one_pol _) ?_)
                    | ((with_reducible refine at_store 27 4 121 ?_); refine wpList_store_row rfl 27 (.tmp 4) (.tmp 121) rfl (w.heap.size + 1) (fltCells ⟨er, at_⟩) (by rfl) (by rfl) 27 (fltCells ⟨0, 0⟩) M11.out.snd info_flt (by rfl) (one_flt _) ?_))
                  exact bodyPost_ret (M11.out.results ⟨er, at_⟩ _ (by rfl) (by rfl) (by rfl)) rfl ⟨by rw [HX.out]; rfl, (M11.out.exit ⟨er, at_⟩).2.2⟩
                | ok s =>
                  rw [hsr] at His HX
                  obtain ⟨rfl, rfl, rfl, rfl⟩ := His.out
                  clear hsr His
                  by_cases hsd : s = due
                  · have HX2 : Hid (Rv.Pol.read xs = .ok (p, at_ + 6)) := Lib.hid (by rw [HX.out]; exact if_pos hsd)
                    subst hsd
                    clear HX
                    have q5 := Lib.hid M11.out.last
                    go_wp2_with (first
                      | ((with_reducible refine at_slot 122 ?_); refine wpList_load_row rfl 33 (.tmp 5) rfl g5 (by rfl) 33 (polCells p) (0, 0) _ q5.out Tryz.underlying33 (by rfl) info_pol ?_)
                      | ((with_reducible refine at_store 33 2 122 ?_); refine wpList_store_row rfl 33 (.tmp 2) (.tmp 122) rfl w.heap.size (polCells p) (by rfl) (by rfl) 33 (polCells .zero) M11.out.1.heap info_pol (by rfl) (one_pol _) ?_)
                      | ((with_reducible refine at_store 27 4 124 ?_); refine wpList_store_row rfl 27 (.tmp 4) (.tmp 124) rfl (w.heap.size + 1) (fltCells ⟨0, 0⟩) (by rfl) (by rfl) 27 (fltCells ⟨0, 0⟩) (M11.out.snd2 p) info_flt (by rfl) (one_flt _) ?_))
                    exact bodyPost_ret (M11.out.results2 p ⟨0, 0⟩ (.int .i64 ((at_ : Int) + 6)) _ (by rfl) (by rfl) (by rfl)) rfl ⟨by rw [HX2.out]; rfl, (M11.out.exit2 p ⟨0, 0⟩).2.2⟩
                  · have HX2 : Hid (Rv.Pol.read xs = .error ⟨41, at_⟩) := Lib.hid (by rw [HX.out]; exact if_neg hsd)
                    clear HX
                    by_cases h1 : s.re = due.re
                    · have h2 : ¬ s.im = due.im := fun h2 => hsd (by cases s; cases due; simp only at h1 h2; rw [h1, h2])
                      clear hsd
                      go_wp2_with (first
                        | ((with_reducible refine at_store 33 2 118 ?_); refine wpList_store_row rfl 33 (.tmp 2) (.tmp 118) rfl w.heap.size (polCells .zero) (by rfl) (by rfl) 33 (polCells .zero) M11.out.1.heap info_pol (by rfl) (one_pol _) ?_)
                        | ((with_reducible refine at_store 27 4 121 ?_); refine wpList_store_row rfl 27 (.tmp 4) (.tmp 121) rfl (w.heap.size + 1) (fltCells ⟨41, at_⟩) (by rfl) (by rfl) 27 (fltCells ⟨0, 0⟩) M11.out.snd info_flt (by rfl) (one_flt _) ?_))
                      exact bodyPost_ret (M11.out.results ⟨41, at_⟩ _ (by rfl) (by rfl) (by rfl)) rfl ⟨by rw [HX2.out]; rfl, (M11.out.exit ⟨41, at_⟩).2.2⟩
                    · clear hsd
                      go_wp2_with (first
                        | ((with_reducible refine at_store 33 2 118 ?_); refine wpList_store_row rfl 33 (.tmp 2) (.tmp 118) rfl w.heap.size (polCells .zero) (by rfl) (by rfl) 33 (polCells .zero) M11.out.1.heap info_pol (by rfl) (one_pol _) ?_)
                        | ((with_reducible refine at_store 27 4 121 ?_); refine wpList_store_row rfl 27 (.tmp 4) (.tmp 121) rfl (w.heap.size + 1) (fltCells ⟨41, at_⟩) (by rfl) (by rfl) 27 (fltCells ⟨0, 0⟩) M11.out.snd info_flt (by rfl) (one_flt _) ?_))
                      exact bodyPost_ret (M11.out.results ⟨41, at_⟩ _ (by rfl) (by rfl) (by rfl)) rfl ⟨by rw [HX2.out]; rfl, (M11.out.exit ⟨41, at_⟩).2.2⟩
    · have h1 : n ≠ 1 := by omega
      have h2 : n ≠ 2 := by omega
      have HX := Lib.hid (rd_kind H4.out hb h1 h2)
      have k1 : ((n : Int) == 1) = false := by rw [beq_eq_false_iff_ne]; omega
      have k2 : ((n : Int) == 2) = false := by rw [beq_eq_false_iff_ne]; omega
      have k3 : ((n : Int) != 1) = true := by rw [bne, k1]; rfl
      have k4 : ((n : Int) != 2) = true := by rw [bne, k2]; rfl
      clear hb hn h1 h2
      unfold readRes
      go_wp2_with (first
    | ((with_reducible refine at_store 33 2 51 ?_); refine wpList_store_row rfl 33 (.tmp 2) (.tmp 51) rfl w.heap.size (polCells .zero) (by rfl) (by rfl) 33 (polCells .zero) M3.out.1.heap info_pol (by rfl) (one_pol _) ?_)
    | ((with_reducible refine at_store 27 4 54 ?_); refine wpList_store_row rfl 27 (.tmp 4) (.tmp 54) rfl (w.heap.size + 1) (fltCells ⟨40, 4⟩) (by rfl) (by rfl) 27 (fltCells ⟨0, 0⟩) M3.out.snd info_flt (by rfl) (one_flt _) ?_))
      exact bodyPost_ret (M3.out.results ⟨40, 4⟩ _ (by rfl) (by rfl) (by rfl)) rfl ⟨by rw [HX.out]; rfl, (M3.out.exit ⟨40, 4⟩).2.2⟩

/-- policy.Read, of any bytes. -/
theorem pread_any (A : Option Addr) (xs : List UInt8) (c : Nat) (w : World) (hr : RdB w A xs) (hm : xs.length ≤ 140737488355328) (hc : xs.length ≤ c) :
    Calls Tryz.prog 28 #[.slice A xs.length c] w fun e w' => e = preadRes (Rv.Pol.read xs) ∧ Below w.heap.size w w' := by
  by_cases hl : 4 ≤ xs.length
  · by_cases hx : xs.take 4 = [82, 69, 69, 76]
    · exact pread_reel A xs c w hr hl hm hc hx
    · exact pread_other A xs c w hr hl hc hx
  · exact pread_short A xs c w hr (by omega)
end Go.Proofs.YtcmndglhileeoaaGreat
