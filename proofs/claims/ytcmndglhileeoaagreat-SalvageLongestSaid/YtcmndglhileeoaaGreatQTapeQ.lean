/- The walk of Encode. -/
import Derived.Test.YtcmndglhileeoaaGreatQTapeOToTapeP
set_option linter.unusedSimpArgs false
set_option linter.unusedVariables false
namespace Go.Proofs.YtcmndglhileeoaaGreat
open Go.RowKit
open Rv (HP Sat Same pt allOf sat_all RdIn row own Lcl)

section
variable {P : Program}
theorem run_loadVar_cells (w : World) (A : Addr) (ty : TypeId) (cs : Array Value) (d : TypeDesc) (hc : ∀ j u, cs.toList[j]? = some u → w.cell? (A.add j) = some u)
    (hu : P.underlying ty = some d) (hd : (match d with | .struct _ | .array _ _ => true | _ => false) = true) (hi : (P.info? ty).map (·.size) = some cs.size) :
    (loadVar ty A).run P w = .ok (.agg cs) w := by
  have hl : (loadCells A cs.toList.length).run P w = .ok cs.toList.toArray w := run_loadCells_list (P := P) w A cs.toList hc
  cases hq : P.info? ty with
  | none => simp [hq] at hi
  | some i =>
    have hs : i.size = cs.size := by simpa [hq] using hi
    have hagg : (isAgg ty).run P w = .ok true w := by
      unfold isAgg
      rw [Sem.run_bind, run_underlying hu w]
      cases d <;> simp_all
    simp only [Array.length_toList, Array.toArray_toList] at hl
    simp [loadVar, Sem.run_bind, hagg, sizeOf, typeInfo, hq, hs, hl]
/-- A load of a struct, wherever its cells stand. -/
theorem wpList_load_cells {ops : Array Oper} {rest : List Oper} {o : Oper} {a : Act} {w : World} {Q : Exit → Act → World → Prop} (hgd : o.guard = none) (ty : TypeId) (x : Operand) (ho : o.op = .load ty x)
    (A : Addr) (hx : a.eval x = .pointer (some A)) (cs : Array Value) (d : TypeDesc) (hc : ∀ j u, cs.toList[j]? = some u → w.cell? (A.add j) = some u)
    (hu : P.underlying ty = some d) (hd : (match d with | .struct _ | .array _ _ => true | _ => false) = true) (hi : (P.info? ty).map (·.size) = some cs.size)
    (h : wpList P ops Q rest (a.put o.dst (.agg cs)) w) : wpList P ops Q (o :: rest) a w :=
  wpList_plain hgd fun _ hK => by
    unfold Oper.wp execOp
    simp only [ho, hx, Instr.loadAt, Instr.sureAddr, Sem.run_bind, Sem.run_pure, Result.andThen_ok, run_loadVar_cells w A ty cs d hc hu hd hi]
    exact hK _ _ h
end
theorem recsV_at {l : List Rv.Rec} {i : Nat} {r : Rv.Rec} (h : l[i]? = some r) (j : Nat) (u : Value) (hu : (recCells r).toList[j]? = some u) : (recsV l)[i * 4 + j]? = some u := by
  induction l generalizing i with
  | nil => cases h
  | cons x l ih =>
    have hx : (recCells x).toList.length = 4 := rfl
    have hr : (recCells r).toList.length = 4 := rfl
    have hj : j < 4 := by have := (List.getElem?_eq_some_iff.1 hu).1; omega
    have e : recsV (x :: l) = (recCells x).toList ++ recsV l := by unfold recsV; simp
    rw [e]
    cases i with
    | zero =>
      have hxr : x = r := by simpa using h
      subst hxr
      rw [Nat.zero_mul, Nat.zero_add, List.getElem?_append_left (by rw [hx]; omega)]
      exact hu
    | succ i =>
      rw [List.getElem?_append_right (by rw [hx]; omega), hx]
      have e2 : (i + 1) * 4 + j - 4 = i * 4 + j := by omega
      rw [e2]
      exact ih (by simpa using h)

/-! ### the plain part -/
/-- What Encode tells. -/
def EncRes (R : HP) (w : World) (res : Except (Int × Int) Rv.Bs) (e : Ending) (w' : World) : Prop := match res with
  | .error (x, i) => e = .returned (.tuple #[.slice none 0 0, .int .i64 i, .int .i64 x]) ∧ Sat w' R ∧ Same w w'
  | .ok out => ∃ A c, e = .returned (.tuple #[.slice A out.length c, .int .i64 0, .int .i64 0]) ∧ Sat w' (bytesP (.slice A out.length c) out * R) ∧ Same w w'
structure EncTo (p : Rv.Pol) (l : List Rv.Rec) (m : Rv.Maker) (out : Rv.Bs) (i : Nat) : Prop where
  ok : MOk m
  le : i ≤ l.length
  rec_ : m.records = i
  sz : m.size = out.length
  mp : m.p = p
  all : (Rv.Maker.begun p).puts p.header 0 l = m.puts out i (l.drop i)
theorem EncTo.begin {p : Rv.Pol} (l : List Rv.Rec) (h : p.ok = true) : EncTo p l (Rv.Maker.begun p) p.header 0 := ⟨MOk.begun h, Nat.zero_le _, rfl, rfl, rfl, rfl⟩
theorem EncTo.step {p : Rv.Pol} {l : List Rv.Rec} {m m' : Rv.Maker} {out : Rv.Bs} {i : Nat} {r : Rv.Rec} {ps : List Rv.Bs} (h : EncTo p l m out i) (hr : l[i]? = some r) (hp : m.put r = .ok (m', ps)) : EncTo p l m' (out ++ ps.flatten) (i + 1) := by
  obtain ⟨k1, k2, k3, k4, k5, k6⟩ := mput_ok h.ok hp
  have hlt := (List.getElem?_eq_some_iff.1 hr).1
  refine ⟨k1, by omega, by rw [k3, h.rec_], by rw [List.length_append, k4, h.sz], k2.trans h.mp, ?_⟩
  rw [h.all, drop_cons_of hr, Rv.Maker.puts, hp]
theorem EncTo.fall {p : Rv.Pol} {l : List Rv.Rec} {m : Rv.Maker} {out : Rv.Bs} {i : Nat} {r : Rv.Rec} {x : Int} (h : EncTo p l m out i) (hr : l[i]? = some r) (hp : m.put r = .error x) : (Rv.Maker.begun p).puts p.header 0 l = .error (x, i) := by
  rw [h.all, drop_cons_of hr, Rv.Maker.puts, hp]
theorem EncTo.stop {p : Rv.Pol} {l : List Rv.Rec} {m : Rv.Maker} {out : Rv.Bs} {i : Nat} (h : EncTo p l m out i) (hi : i = l.length) : (Rv.Maker.begun p).puts p.header 0 l = .ok out := by
  rw [h.all, List.drop_of_length_le (by omega), Rv.Maker.puts]
theorem mput_code {m : Rv.Maker} {r : Rv.Rec} {x : Int} (h : m.put r = .error x) : x ≠ 0 := by
  unfold Rv.Maker.put at h
  split at h
  · rename_i h1
    injection h with h
    exact h ▸ h1
  · simp only at h
    split at h
    · injection h with h; omega
    · cases h

/-- At the head of an inner round. -/
def PcsRel (F : HP) (w0 : World) (out : Rv.Bs) (ps : List Rv.Bs) (v jv : Value) (wr : World) : Prop :=
  ∃ (A : Option Addr) (c : Nat) (j : Nat), j ≤ ps.length ∧ jv = .int .i64 (j : Int) ∧ v = .slice A (out ++ (ps.take j).flatten).length c ∧ Sat wr (bytesP (.slice A (out ++ (ps.take j).flatten).length c) (out ++ (ps.take j).flatten) * F) ∧ Same w0 wr
theorem take_flat {ps : List Rv.Bs} {j : Nat} {b : Rv.Bs} (h : ps[j]? = some b) : (ps.take (j + 1)).flatten = (ps.take j).flatten ++ b := by
  obtain ⟨hk, he⟩ := List.getElem?_eq_some_iff.1 h
  rw [List.take_succ_eq_append_getElem hk, he]
  simp
theorem flat_take_le (ps : List Rv.Bs) (j : Nat) : (ps.take j).flatten.length ≤ ps.flatten.length := by
  have : ps.flatten = (ps.take j).flatten ++ (ps.drop j).flatten := by rw [← List.flatten_append, List.take_append_drop]
  rw [this, List.length_append]
  omega
/-- At the head of a round. -/
def EncRel (R : HP) (w0 : World) (p : Rv.Pol) (l : List Rv.Rec) (g : Nat) (v iv : Value) (wr : World) : Prop :=
  ∃ (m : Rv.Maker) (out : Rv.Bs) (A : Option Addr) (c : Nat) (Q' : HP) (i : Nat), v = .slice A out.length c ∧ iv = .int .i64 (i : Int) ∧ EncTo p l m out i ∧ Sat wr (bytesP (.slice A out.length c) out * (wrtP Q' g m * (Q' * R))) ∧ Same w0 wr

set_option maxHeartbeats 4000000 in
set_option maxRecDepth 100000 in
theorem tencode_any (w : World) (R : HP) (p : Rv.Pol) (A : Option Addr) (l : List Rv.Rec) (c : Nat) (hR : Sat w R) (hr : RdIn R A (recsV l)) (hc : l.length ≤ c) (hm : l.length ≤ 140737488355328) :
    Calls Tryz.prog 16 #[.agg (polCells p), .slice A l.length c] w (EncRes R w (Rv.encode p l)) := by
  obtain ⟨res, hres⟩ : ∃ x, Rv.encode p l = x := ⟨_, rfl⟩
  rw [hres]
  have HRES := Lib.hid hres
  have HRD := Lib.hid hr
  have S0 : Hid (Sat (w.alloc (.cells (polCells p) 33)) (plP w.heap.size p * R)) := Lib.hid (hR.alloc (.cells (polCells p) 33))
  have Z0 : Hid (Same w (w.alloc (.cells (polCells p) 33))) := Lib.hid (Same.of ((Kept.refl (fun _ => False) w).alloc _))
  clear hres hR hr
  go_enter Tryz.func16, Tryz.ntmps16
  go_upto_region 1 with (fail)
  generalize w.alloc (.cells (polCells p) 33) = w1 at *
  generalize w.heap.size = g2 at *
  have q2 := Lib.hid S0.out.heap
  go_wp2_with ((with_reducible refine at_slot 17 ?_); refine wpList_load_row rfl 33 (.tmp 2) rfl g2 (by rfl) 33 (polCells p) (0, 0) _ q2.out Tryz.underlying33 (by rfl) info_pol ?_)
  cases hok : p.ok with
  | false =>
    refine (tnew_bad p w1 hok).mono ?_
    rintro e w2 ⟨rfl, b2⟩
    have S2 := Lib.hid (S0.out.below b2)
    have Z2 := Lib.hid (Z0.out.then (Rv.Same.below b2))
    have he : Rv.encode p l = .error (40, 0) := by unfold Rv.encode; rw [if_pos hok]
    obtain rfl := he.symm.trans HRES.out
    clear HRES he b2 S0 Z0 q2 hok
    go_wp2_with fail
    go_ret3
    exact ⟨rfl, S2.out.right, Z2.out⟩
  | true =>
    refine (tnew_ok _ p w1 S0.out hok).mono ?_
    rintro e w2 ⟨g, rfl, s2, z2⟩
    have HENC : Hid (res = (Rv.Maker.begun p).puts p.header 0 l) := Lib.hid (by
      rw [← HRES.out]
      unfold Rv.encode
      rw [if_neg (by rw [hok]; simp)])
    obtain ⟨hA, hcc, s3⟩ := wrtP_open s2
    obtain ⟨gc, gl, sA, sc, s3⟩ := mkrP_open s3
    have HH := Lib.hid (whead_any 69 w2 (ledP 1 gl (Rv.Maker.begun p).owed * (bytesP (.slice sA (Rv.Maker.begun p).segment.length sc) (Rv.Maker.begun p).segment * (coderP gc (Rv.Maker.begun p).coder * (1 * (plP g2 p * R))))) g gc gl (Rv.Maker.begun p).records (Rv.Maker.begun p).size p (Rv.Maker.begun p).link (.slice sA (Rv.Maker.begun p).segment.length sc) (.slice hA p.header.length hcc) p.header (s3.perm (show makBox 69 g p gc gl (Rv.Maker.begun p).link (.slice sA (Rv.Maker.begun p).segment.length sc) (Rv.Maker.begun p).records (Rv.Maker.begun p).size (.slice hA p.header.length hcc) * (ledP 1 gl (Rv.Maker.begun p).owed * (bytesP (.slice sA (Rv.Maker.begun p).segment.length sc) (Rv.Maker.begun p).segment * (coderP gc (Rv.Maker.begun p).coder * (bytesP (.slice hA p.header.length hcc) p.header * (1 * (plP g2 p * R)))))) = _ by ac_rfl)) (by have := header_len p; omega))
    have Z2 := Lib.hid (Z0.out.then z2)
    have HOK := Lib.hid hok
    clear HRES s2 z2 s3 hok S0 Z0 q2
    go_wp2_with fail
    refine HH.out.mono ?_
    rintro e w3 ⟨B, C, rfl, s4, z4⟩
    have HREL : Hid (EncRel (plP g2 p * R) w p l g (.slice B p.header.length C) (.int .i64 ((0 : Nat) : Int)) w3) := Lib.hid ⟨_, p.header, B, C, 1, 0, rfl, rfl, EncTo.begin l HOK.out, by
      have h1 := s4.perm (show bytesP (.slice B p.header.length C) p.header * (makBox 69 g p gc gl (Rv.Maker.begun p).link (.slice sA (Rv.Maker.begun p).segment.length sc) (Rv.Maker.begun p).records (Rv.Maker.begun p).size (.slice hA p.header.length hcc) * (bytesP (.slice hA p.header.length hcc) p.header * (ledP 1 gl (Rv.Maker.begun p).owed * (bytesP (.slice sA (Rv.Maker.begun p).segment.length sc) (Rv.Maker.begun p).segment * (coderP gc (Rv.Maker.begun p).coder * (1 * (plP g2 p * R)))))))
        = makBox 69 g p gc gl (Rv.Maker.begun p).link (.slice sA (Rv.Maker.begun p).segment.length sc) (Rv.Maker.begun p).records (Rv.Maker.begun p).size (.slice hA p.header.length hcc) * (ledP 1 gl (Rv.Maker.begun p).owed * (bytesP (.slice sA (Rv.Maker.begun p).segment.length sc) (Rv.Maker.begun p).segment * (coderP gc (Rv.Maker.begun p).coder * (bytesP (.slice hA p.header.length hcc) p.header * (bytesP (.slice B p.header.length C) p.header * (1 * (plP g2 p * R))))))) by ac_rfl)
      exact (wrtP_shut (m := Rv.Maker.begun p) (hA := hA) (hc := hcc) (mkrP_shut (m := Rv.Maker.begun p) (gc := gc) (gl := gl) (sA := sA) (sc := sc) h1)).swap, Z2.out.then z4⟩
    clear s4 z4 HH Z2
    go_wp2_with fail
    go_loopw [9, 28] (fun v iv wr => EncRel (plP g2 p * R) w p l g v iv wr) (fun _ iv _ => l.length - (intOf iv).toNat)
    case atStart => exact HREL.out
    case round =>
      obtain ⟨m, out, B1, c1, Q1, i, rfl, rfl, hen, s5, z5⟩ := hrel
      have HEN := Lib.hid hen
      have S5 := Lib.hid s5
      have Z5 := Lib.hid z5
      have hle := hen.le
      have hz1 : out.length ≤ 4194304 := by have := hen.ok.z1; rw [hen.sz] at this; exact this
      clear hen s5 z5 HREL
      by_cases hlt : i < l.length
      · obtain ⟨r, hri⟩ := some_at hlt
        have hcells : ∀ j u, (recCells r).toList[j]? = some u → ∃ ad, A = some ad ∧ wr.cell? (ad.add (i * 4 + j)) = some u := fun j u hu => HRD.out wr S5.out.right.right.right.right _ u (recsV_at hri j u hu)
        obtain ⟨ad, rfl, _⟩ := hcells 0 _ rfl
        have HC := Lib.hid (fun j u hu => by obtain ⟨ad', e, h⟩ := hcells j u hu; injection e with e; subst e; exact h : ∀ j u, (recCells r).toList[j]? = some u → wr.cell? (ad.add (i * 4 + j)) = some u)
        have HRI := Lib.hid hri
        clear hcells hri
        have S6 : Hid (Sat (wr.alloc (.cells (recCells r) 44)) (wrtP Q1 g m * (Q1 * (rcP wr.heap.size r * (bytesP (.slice B1 out.length c1) out * (plP g2 p * R)))))) := Lib.hid ((show Sat _ (rcP wr.heap.size r * _) from S5.out.alloc (.cells (recCells r) 44)).perm (by ac_rfl))
        have Z6 := Lib.hid (Z5.out.then (Same.of ((Kept.refl (fun _ => False) wr).alloc (.cells (recCells r) 44))))
        have HP := Lib.hid (tput_any (wr.alloc (.cells (recCells r) 44)) Q1 _ g m r HEN.out.ok S6.out)
        clear S5 Z5
        go_wp2_with ((with_reducible refine at_slot 32 ?_); refine wpList_load_cells rfl 44 (.tmp 31) rfl (ad.add (i * 4)) (by rfl) (recCells r) _ (fun j u hu => by rw [add_add]; exact HC.out j u hu) Tryz.underlying44 (by rfl) info_rec ?_)
        refine HP.out.mono ?_
        intro e w4 hq
        cases hp : m.put r with
        | error y =>
          rw [hp] at hq
          obtain ⟨rfl, Q2, x2, s7, z7⟩ := hq
          have hy := mput_code hp
          have e1 : (y != 0) = true := by simpa using hy
          have he := HEN.out.fall HRI.out hp
          obtain rfl := he.symm.trans HENC.out.symm
          have S7 := Lib.hid s7
          have Z7 := Lib.hid (Z6.out.then z7)
          clear s7 z7 hp he hy HEN HENC HP S6 Z6 HC HRI
          go_wp2_with fail
          go_ret3
          exact ⟨rfl, S7.out.right.right.right.right.right, Z7.out⟩
        | ok q =>
          obtain ⟨m', ps⟩ := q
          rw [hp] at hq
          obtain ⟨A2, k2, rfl, Q2, x2, s7, z7⟩ := hq
          obtain ⟨k1, k3, k4, k5, k6, k7⟩ := mput_ok HEN.out.ok hp
          have hen2 := HEN.out.step HRI.out hp
          have hfl : out.length + ps.flatten.length ≤ 4194304 := by
            have h1 := hen2.ok.z1
            rw [hen2.sz, List.length_append] at h1
            exact h1
          have HEN2 := Lib.hid hen2
          have HPREL : Hid (PcsRel (piecesP (.slice A2 ps.length k2) ps * (wrtP Q2 g m' * (Q2 * (plP g2 p * R)))) w out ps (.slice B1 out.length c1) (.int .i64 ((0 : Nat) : Int)) w4) := Lib.hid ⟨B1, c1, 0, Nat.zero_le _, rfl, by simp, by
            have h1 : Sat w4 (rcP wr.heap.size r * (bytesP (.slice B1 out.length c1) out * (piecesP (.slice A2 ps.length k2) ps * (wrtP Q2 g m' * (Q2 * (plP g2 p * R)))))) := s7.perm (by ac_rfl)
            simpa using h1.right, Z6.out.then z7⟩
          clear s7 z7 k1 k3 k4 k5 hen2 hp HP S6 Z6 HC HEN
          go_wp2_with fail
          go_loopw [9, 45] (fun v jv wr2 => PcsRel (piecesP (.slice A2 ps.length k2) ps * (wrtP Q2 g m' * (Q2 * (plP g2 p * R)))) w out ps v jv wr2) (fun _ jv _ => ps.length - (intOf jv).toNat)
          case atStart => exact HPREL.out
          case round =>
            obtain ⟨B3, c3, j, hj, rfl, rfl, s8, z8⟩ := hrel
            have S8 := Lib.hid s8
            have Z8 := Lib.hid z8
            clear s8 z8 HPREL
            have hfj := flat_take_le ps j
            obtain ⟨ys, hys⟩ : ∃ ys, out ++ (ps.take j).flatten = ys := ⟨_, rfl⟩
            have hyl : ys.length ≤ 4194304 := by rw [← hys, List.length_append]; omega
            rw [hys] at S8 ⊢
            by_cases hlt2 : j < ps.length
            · obtain ⟨b, hb⟩ := some_at hlt2
              obtain ⟨vs, h1⟩ := piecesP_open (S8.out.swap)
              obtain ⟨u, hu, X, h2, h3⟩ := pcsP_at h1.right hb
              obtain ⟨Ab, cb, rfl, hb1, hb2, hb3⟩ := bytesP_shape h2
              have hbn := (bytesP_own h2).nilcap
              obtain ⟨A2', k2', e2, _, _, hrv⟩ := h1.row_own.shape
              have hvl := pcsP_length h1.right
              injection e2 with e3 e4 e5
              subst e3
              clear e4 e5
              obtain ⟨ad2, e6, hcell⟩ := hrv j _ hu
              subst e6
              obtain ⟨zs, hzs⟩ : ∃ zs, ys ++ b = zs := ⟨_, rfl⟩
              have hzl : ys.length + b.length = zs.length := by rw [← hzs, List.length_append]
              have hbl : b.length ≤ 4194304 := by
                have h4 := flat_take_le ps (j + 1)
                rw [take_flat hb, List.length_append] at h4
                omega
              have HZ : Hid (zs = out ++ (ps.take (j + 1)).flatten) := Lib.hid (by rw [take_flat hb, ← List.append_assoc, hys, hzs])
              have HZS := Lib.hid hzs
              have HB3 := Lib.hid hb3
              have HBN := Lib.hid hbn
              clear h1 h2 h3 hrv hvl hu hb hb1 hb2 hb3 hbn hys hzs
              go_wp2_with (at_builtin; refine sapp rfl (.tmp 49) (.tmp 50) 22 rfl Tryz.underlying22 infoB (.slice B3 ys.length c3) ys b Ab b.length cb (by rfl) (by rfl) rfl S8.out HB3.out HBN.out zs.length hzl (by omega) ?_; intro B4 c4 w5 h5 z5; rw [HZS.out] at h5; have S9 := Lib.hid h5; have Z9 := Lib.hid (Z8.out.then z5); clear h5 z5)
              go_roundw
              case rel => exact ⟨B4, c4, j + 1, by omega, by go_num, by rw [← HZ.out], by rw [← HZ.out]; exact S9.out, Z9.out⟩
              case measure => simp [intOf]; omega
            · obtain rfl : j = ps.length := by omega
              have hall : out ++ ps.flatten = ys := by rw [← hys, List.take_length]
              have HALL := Lib.hid hall
              clear hys hall
              go_wp2_with fail
              go_roundw
              case rel => exact ⟨m', ys, B3, c3, Q2, i + 1, rfl, by go_num, by rw [← HALL.out]; exact HEN2.out, (S8.out.perm (show _ = piecesP (.slice A2 ps.length k2) ps * (bytesP (.slice B3 ys.length c3) ys * (wrtP Q2 g m' * (Q2 * (plP g2 p * R)))) by ac_rfl)).right, Z8.out⟩
              case measure => simp [intOf]; omega
      · obtain rfl : i = l.length := by omega
        have he := HEN.out.stop rfl
        obtain rfl := he.symm.trans HENC.out.symm
        clear he HEN HENC
        go_wp2_with fail
        go_ret3
        exact ⟨B1, c1, rfl, (S5.out.perm (show _ = wrtP Q1 g m * (Q1 * (plP g2 p * (bytesP (.slice B1 out.length c1) out * R))) by ac_rfl)).right.right.right, Z5.out⟩
end Go.Proofs.YtcmndglhileeoaaGreat
