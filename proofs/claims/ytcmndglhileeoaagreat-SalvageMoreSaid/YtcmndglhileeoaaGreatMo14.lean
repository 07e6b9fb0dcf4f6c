/- A part of the proof (RowMore): its texts in a row: TapeQ, SalA, SalB, Awake, More. Each text's own remark stands at its head. -/
import Derived.Test.YtcmndglhileeoaaGreatMo13
import Derived.ScopeJumps
/- The walk of Encode. -/
set_option linter.unusedSimpArgs false
set_option linter.unusedVariables false
namespace Go.Proofs.YtcmndglhileeoaaGreat
open Go.RowKit
open Rv (HP Sat Same pt allOf sat_all RdIn row own Lcl)

section
variable {P : Program}
theorem run_loadVar_cells (w : World) (A : Addr) (ty : TypeId) (cs : Array Value) (d : TypeDesc) (hc : ∀ j u, cs.toList[j]? = some u → w.cell? (A.add j) = some u)
    (hu : P.underlying ty = some d) (hd : (match d with | .struct _ | .array _ _ => true | _ => false) = true) (hi : (P.info? ty).map (·.size) = some cs.size) :
    (loadVar ty A).run P w = .ok (.agg cs) w := by
  have hl : (loadCells A cs.toList.length).run P w = .ok cs.toList.toArray w := run_loadCells_list (P := P) w A cs.toList hc
  cases hq : P.info? ty with
  | none => simp [hq] at hi
  | some i =>
    have hs : i.size = cs.size := by simpa [hq] using hi
    have hagg : (isAgg ty).run P w = .ok true w := by
      unfold isAgg
      rw [Sem.run_bind, run_underlying hu w]
      cases d <;> simp_all
    simp only [Array.length_toList, Array.toArray_toList] at hl
    simp [loadVar, Sem.run_bind, hagg, sizeOf, typeInfo, hq, hs, hl]
/-- A load of a struct, wherever its cells stand. -/
theorem wpList_load_cells {ops : Array Oper} {rest : List Oper} {o : Oper} {a : Act} {w : World} {Q : Exit → Act → World → Prop} (hgd : o.guard = none) (ty : TypeId) (x : Operand) (ho : o.op = .load ty x)
    (A : Addr) (hx : a.eval x = .pointer (some A)) (cs : Array Value) (d : TypeDesc) (hc : ∀ j u, cs.toList[j]? = some u → w.cell? (A.add j) = some u)
    (hu : P.underlying ty = some d) (hd : (match d with | .struct _ | .array _ _ => true | _ => false) = true) (hi : (P.info? ty).map (·.size) = some cs.size)
    (h : wpList P ops Q rest (a.put o.dst (.agg cs)) w) : wpList P ops Q (o :: rest) a w :=
  wpList_plain hgd fun _ hK => by
    unfold Oper.wp execOp
    simp only [ho, hx, Instr.loadAt, Instr.sureAddr, Sem.run_bind, Sem.run_pure, Result.andThen_ok, run_loadVar_cells w A ty cs d hc hu hd hi]
    exact hK _ _ h
end
theorem recsV_at {l : List Rv.Rec} {i : Nat} {r : Rv.Rec} (h : l[i]? = some r) (j : Nat) (u : Value) (hu : (recCells r).toList[j]? = some u) : (recsV l)[i * 4 + j]? = some u := by
  induction l generalizing i with
  | nil => cases h
  | cons x l ih =>
    have hx : (recCells x).toList.length = 4 := rfl
    have hr : (recCells r).toList.length = 4 := rfl
    have hj : j < 4 := by have := (List.getElem?_eq_some_iff.1 hu).1; omega
    have e : recsV (x :: l) = (recCells x).toList ++ recsV l := by unfold recsV; simp
    rw [e]
    cases i with
    | zero =>
      have hxr : x = r := by simpa using h
      subst hxr
      rw [Nat.zero_mul, Nat.zero_add, List.getElem?_append_left (by rw [hx]; omega)]
      exact hu
    | succ i =>
      rw [List.getElem?_append_right (by rw [hx]; omega), hx]
      have e2 : (i + 1) * 4 + j - 4 = i * 4 + j := by omega
      rw [e2]
      exact ih (by simpa using h)

/-! ### the plain part -/
/-- What Encode tells. -/
def EncRes (R : HP) (w : World) (res : Except (Int × Int) Rv.Bs) (e : Ending) (w' : World) : Prop := match res with
  | .error (x, i) => e = .returned (.tuple #[.slice none 0 0, .int .i64 i, .int .i64 x]) ∧ Sat w' R ∧ Same w w'
  | .ok out => ∃ A c, e = .returned (.tuple #[.slice A out.length c, .int .i64 0, .int .i64 0]) ∧ Sat w' (bytesP (.slice A out.length c) out * R) ∧ Same w w'
structure EncTo (p : Rv.Pol) (l : List Rv.Rec) (m : Rv.Maker) (out : Rv.Bs) (i : Nat) : Prop where
  ok : MOk m
  le : i ≤ l.length
  rec_ : m.records = i
  sz : m.size = out.length
  mp : m.p = p
  all : (Rv.Maker.begun p).puts p.header 0 l = m.puts out i (l.drop i)
theorem EncTo.begin {p : Rv.Pol} (l : List Rv.Rec) (h : p.ok = true) : EncTo p l (Rv.Maker.begun p) p.header 0 := ⟨MOk.begun h, Nat.zero_le _, rfl, rfl, rfl, rfl⟩
theorem EncTo.step {p : Rv.Pol} {l : List Rv.Rec} {m m' : Rv.Maker} {out : Rv.Bs} {i : Nat} {r : Rv.Rec} {ps : List Rv.Bs} (h : EncTo p l m out i) (hr : l[i]? = some r) (hp : m.put r = .ok (m', ps)) : EncTo p l m' (out ++ ps.flatten) (i + 1) := by
  obtain ⟨k1, k2, k3, k4, k5, k6⟩ := mput_ok h.ok hp
  have hlt := (List.getElem?_eq_some_iff.1 hr).1
  refine ⟨k1, by omega, by rw [k3, h.rec_], by rw [List.length_append, k4, h.sz], k2.trans h.mp, ?_⟩
  rw [h.all, drop_cons_of hr, Rv.Maker.puts, hp]
theorem EncTo.fall {p : Rv.Pol} {l : List Rv.Rec} {m : Rv.Maker} {out : Rv.Bs} {i : Nat} {r : Rv.Rec} {x : Int} (h : EncTo p l m out i) (hr : l[i]? = some r) (hp : m.put r = .error x) : (Rv.Maker.begun p).puts p.header 0 l = .error (x, i) := by
  rw [h.all, drop_cons_of hr, Rv.Maker.puts, hp]
theorem EncTo.stop {p : Rv.Pol} {l : List Rv.Rec} {m : Rv.Maker} {out : Rv.Bs} {i : Nat} (h : EncTo p l m out i) (hi : i = l.length) : (Rv.Maker.begun p).puts p.header 0 l = .ok out := by
  rw [h.all, List.drop_of_length_le (by omega), Rv.Maker.puts]
theorem mput_code {m : Rv.Maker} {r : Rv.Rec} {x : Int} (h : m.put r = .error x) : x ≠ 0 := by
  unfold Rv.Maker.put at h
  split at h
  · rename_i h1
    injection h with h
    exact h ▸ h1
  · simp only at h
    split at h
    · injection h with h; omega
    · cases h

/-- At the head of an inner round. -/
def PcsRel (F : HP) (w0 : World) (out : Rv.Bs) (ps : List Rv.Bs) (v jv : Value) (wr : World) : Prop :=
  ∃ (A : Option Addr) (c : Nat) (j : Nat), j ≤ ps.length ∧ jv = .int .i64 (j : Int) ∧ v = .slice A (out ++ (ps.take j).flatten).length c ∧ Sat wr (bytesP (.slice A (out ++ (ps.take j).flatten).length c) (out ++ (ps.take j).flatten) * F) ∧ Same w0 wr
theorem take_flat {ps : List Rv.Bs} {j : Nat} {b : Rv.Bs} (h : ps[j]? = some b) : (ps.take (j + 1)).flatten = (ps.take j).flatten ++ b := by
  obtain ⟨hk, he⟩ := List.getElem?_eq_some_iff.1 h
  rw [List.take_succ_eq_append_getElem hk, he]
  simp
theorem flat_take_le (ps : List Rv.Bs) (j : Nat) : (ps.take j).flatten.length ≤ ps.flatten.length := by
  have : ps.flatten = (ps.take j).flatten ++ (ps.drop j).flatten := by rw [← List.flatten_append, List.take_append_drop]
  rw [this, List.length_append]
  omega
/-- At the head of a round. -/
def EncRel (R : HP) (w0 : World) (p : Rv.Pol) (l : List Rv.Rec) (g : Nat) (v iv : Value) (wr : World) : Prop :=
  ∃ (m : Rv.Maker) (out : Rv.Bs) (A : Option Addr) (c : Nat) (Q' : HP) (i : Nat), v = .slice A out.length c ∧ iv = .int .i64 (i : Int) ∧ EncTo p l m out i ∧ Sat wr (bytesP (.slice A out.length c) out * (wrtP Q' g m * (Q' * R))) ∧ Same w0 wr

set_option maxHeartbeats 4000000 in
set_option maxRecDepth 100000 in
theorem tencode_any (w : World) (R : HP) (p : Rv.Pol) (A : Option Addr) (l : List Rv.Rec) (c : Nat) (hR : Sat w R) (hr : RdIn R A (recsV l)) (hc : l.length ≤ c) (hm : l.length ≤ 140737488355328) :
    Calls Tryz.prog 16 #[.agg (polCells p), .slice A l.length c] w (EncRes R w (Rv.encode p l)) := by
  obtain ⟨res, hres⟩ : ∃ x, Rv.encode p l = x := ⟨_, rfl⟩
  rw [hres]
  have HRES := Lib.hid hres
  have HRD := Lib.hid hr
  have S0 : Hid (Sat (w.alloc (.cells (polCells p) 33)) (plP w.heap.size p * R)) := Lib.hid (hR.alloc (.cells (polCells p) 33))
  have Z0 : Hid (Same w (w.alloc (.cells (polCells p) 33))) := Lib.hid (Same.of ((Kept.refl (fun _ => False) w).alloc _))
  clear hres hR hr
  go_enter Tryz.func16, Tryz.ntmps16
  go_upto_region 1 with (fail)
  generalize w.alloc (.cells (polCells p) 33) = w1 at *
  generalize w.heap.size = g2 at *
  have q2 := Lib.hid S0.out.heap
  go_wp2_with ((with_reducible refine at_slot 17 ?_); refine wpList_load_row rfl 33 (.tmp 2) rfl g2 (by rfl) 33 (polCells p) (0, 0) _ q2.out Tryz.underlying33 (by rfl) info_pol ?_)
  cases hok : p.ok with
  | false =>
    refine (tnew_bad p w1 hok).mono ?_
    rintro e w2 ⟨rfl, b2⟩
    have S2 := Lib.hid (S0.out.below b2)
    have Z2 := Lib.hid (Z0.out.then (Rv.Same.below b2))
    have he : Rv.encode p l = .error (40, 0) := by unfold Rv.encode; rw [if_pos hok]
    obtain rfl := he.symm.trans HRES.out
    clear HRES he b2 S0 Z0 q2 hok
    go_wp2_with fail
    go_ret3
    exact ⟨rfl, S2.out.right, Z2.out⟩
  | true =>
    refine (tnew_ok _ p w1 S0.out hok).mono ?_
    rintro e w2 ⟨g, rfl, s2, z2⟩
    have HENC : Hid (res = (Rv.Maker.begun p).puts p.header 0 l) := Lib.hid (by
      rw [← HRES.out]
      unfold Rv.encode
      rw [if_neg (by rw [hok]; simp)])
    obtain ⟨hA, hcc, s3⟩ := wrtP_open s2
    obtain ⟨gc, gl, sA, sc, s3⟩ := mkrP_open s3
    have HH := Lib.hid (whead_any 69 w2 (ledP 1 gl (Rv.Maker.begun p).owed * (bytesP (.slice sA (Rv.Maker.begun p).segment.length sc) (Rv.Maker.begun p).segment * (coderP gc (Rv.Maker.begun p).coder * (1 * (plP g2 p * R))))) g gc gl (Rv.Maker.begun p).records (Rv.Maker.begun p).size p (Rv.Maker.begun p).link (.slice sA (Rv.Maker.begun p).segment.length sc) (.slice hA p.header.length hcc) p.header (s3.perm (show makBox 69 g p gc gl (Rv.Maker.begun p).link (.slice sA (Rv.Maker.begun p).segment.length sc) (Rv.Maker.begun p).records (Rv.Maker.begun p).size (.slice hA p.header.length hcc) * (ledP 1 gl (Rv.Maker.begun p).owed * (bytesP (.slice sA (Rv.Maker.begun p).segment.length sc) (Rv.Maker.begun p).segment * (coderP gc (Rv.Maker.begun p).coder * (bytesP (.slice hA p.header.length hcc) p.header * (1 * (plP g2 p * R)))))) = _ by ac_rfl)) (by have := header_len p; omega))
    have Z2 := Lib.hid (Z0.out.then z2)
    have HOK := Lib.hid hok
    clear HRES s2 z2 s3 hok S0 Z0 q2
    go_wp2_with fail
    refine HH.out.mono ?_
    rintro e w3 ⟨B, C, rfl, s4, z4⟩
    have HREL : Hid (EncRel (plP g2 p * R) w p l g (.slice B p.header.length C) (.int .i64 ((0 : Nat) : Int)) w3) := Lib.hid ⟨_, p.header, B, C, 1, 0, rfl, rfl, EncTo.begin l HOK.out, by
      have h1 := s4.perm (show bytesP (.slice B p.header.length C) p.header * (makBox 69 g p gc gl (Rv.Maker.begun p).link (.slice sA (Rv.Maker.begun p).segment.length sc) (Rv.Maker.begun p).records (Rv.Maker.begun p).size (.slice hA p.header.length hcc) * (bytesP (.slice hA p.header.length hcc) p.header * (ledP 1 gl (Rv.Maker.begun p).owed * (bytesP (.slice sA (Rv.Maker.begun p).segment.length sc) (Rv.Maker.begun p).segment * (coderP gc (Rv.Maker.begun p).coder * (1 * (plP g2 p * R)))))))
        = makBox 69 g p gc gl (Rv.Maker.begun p).link (.slice sA (Rv.Maker.begun p).segment.length sc) (Rv.Maker.begun p).records (Rv.Maker.begun p).size (.slice hA p.header.length hcc) * (ledP 1 gl (Rv.Maker.begun p).owed * (bytesP (.slice sA (Rv.Maker.begun p).segment.length sc) (Rv.Maker.begun p).segment * (coderP gc (Rv.Maker.begun p).coder * (bytesP (.slice hA p.header.length hcc) p.header * (bytesP (.slice B p.header.length C) p.header * (1 * (plP g2 p * R))))))) by ac_rfl)
      exact (wrtP_shut (m := Rv.Maker.begun p) (hA := hA) (hc := hcc) (mkrP_shut (m := Rv.Maker.begun p) (gc := gc) (gl := gl) (sA := sA) (sc := sc) h1)).swap, Z2.out.then z4⟩
    clear s4 z4 HH Z2
    go_wp2_with fail
    go_loopw [9, 28] (fun v iv wr => EncRel (plP g2 p * R) w p l g v iv wr) (fun _ iv _ => l.length - (intOf iv).toNat)
    case atStart => exact HREL.out
    case round =>
      obtain ⟨m, out, B1, c1, Q1, i, rfl, rfl, hen, s5, z5⟩ := hrel
      have HEN := Lib.hid hen
      have S5 := Lib.hid s5
      have Z5 := Lib.hid z5
      have hle := hen.le
      have hz1 : out.length ≤ 4194304 := by have := hen.ok.z1; rw [hen.sz] at this; exact this
      clear hen s5 z5 HREL
      by_cases hlt : i < l.length
      · obtain ⟨r, hri⟩ := some_at hlt
        have hcells : ∀ j u, (recCells r).toList[j]? = some u → ∃ ad, A = some ad ∧ wr.cell? (ad.add (i * 4 + j)) = some u := fun j u hu => HRD.out wr S5.out.right.right.right.right _ u (recsV_at hri j u hu)
        obtain ⟨ad, rfl, _⟩ := hcells 0 _ rfl
        have HC := Lib.hid (fun j u hu => by obtain ⟨ad', e, h⟩ := hcells j u hu; injection e with e; subst e; exact h : ∀ j u, (recCells r).toList[j]? = some u → wr.cell? (ad.add (i * 4 + j)) = some u)
        have HRI := Lib.hid hri
        clear hcells hri
        have S6 : Hid (Sat (wr.alloc (.cells (recCells r) 44)) (wrtP Q1 g m * (Q1 * (rcP wr.heap.size r * (bytesP (.slice B1 out.length c1) out * (plP g2 p * R)))))) := Lib.hid ((show Sat _ (rcP wr.heap.size r * _) from S5.out.alloc (.cells (recCells r) 44)).perm (by ac_rfl))
        have Z6 := Lib.hid (Z5.out.then (Same.of ((Kept.refl (fun _ => False) wr).alloc (.cells (recCells r) 44))))
        have HP := Lib.hid (tput_any (wr.alloc (.cells (recCells r) 44)) Q1 _ g m r HEN.out.ok S6.out)
        clear S5 Z5
        go_wp2_with ((with_reducible refine at_slot 32 ?_); refine wpList_load_cells rfl 44 (.tmp 31) rfl (ad.add (i * 4)) (by rfl) (recCells r) _ (fun j u hu => by rw [add_add]; exact HC.out j u hu) Tryz.underlying44 (by rfl) info_rec ?_)
        refine HP.out.mono ?_
        intro e w4 hq
        cases hp : m.put r with
        | error y =>
          rw [hp] at hq
          obtain ⟨rfl, Q2, x2, s7, z7⟩ := hq
          have hy := mput_code hp
          have e1 : (y != 0) = true := by simpa using hy
          have he := HEN.out.fall HRI.out hp
          obtain rfl := he.symm.trans HENC.out.symm
          have S7 := Lib.hid s7
          have Z7 := Lib.hid (Z6.out.then z7)
          clear s7 z7 hp he hy HEN HENC HP S6 Z6 HC HRI
          go_wp2_with fail
          go_ret3
          exact ⟨rfl, S7.out.right.right.right.right.right, Z7.out⟩
        | ok q =>
          obtain ⟨m', ps⟩ := q
          rw [hp] at hq
          obtain ⟨A2, k2, rfl, Q2, x2, s7, z7⟩ := hq
          obtain ⟨k1, k3, k4, k5, k6, k7⟩ := mput_ok HEN.out.ok hp
          have hen2 := HEN.out.step HRI.out hp
          have hfl : out.length + ps.flatten.length ≤ 4194304 := by
            have h1 := hen2.ok.z1
            rw [hen2.sz, List.length_append] at h1
            exact h1
          have HEN2 := Lib.hid hen2
          have HPREL : Hid (PcsRel (piecesP (.slice A2 ps.length k2) ps * (wrtP Q2 g m' * (Q2 * (plP g2 p * R)))) w out ps (.slice B1 out.length c1) (.int .i64 ((0 : Nat) : Int)) w4) := Lib.hid ⟨B1, c1, 0, Nat.zero_le _, rfl, by simp, by
            have h1 : Sat w4 (rcP wr.heap.size r * (bytesP (.slice B1 out.length c1) out * (piecesP (.slice A2 ps.length k2) ps * (wrtP Q2 g m' * (Q2 * (plP g2 p * R)))))) := s7.perm (by ac_rfl)
            simpa using h1.right, Z6.out.then z7⟩
          clear s7 z7 k1 k3 k4 k5 hen2 hp HP S6 Z6 HC HEN
          go_wp2_with fail
          go_loopw [9, 45] (fun v jv wr2 => PcsRel (piecesP (.slice A2 ps.length k2) ps * (wrtP Q2 g m' * (Q2 * (plP g2 p * R)))) w out ps v jv wr2) (fun _ jv _ => ps.length - (intOf jv).toNat)
          case atStart => exact HPREL.out
          case round =>
            obtain ⟨B3, c3, j, hj, rfl, rfl, s8, z8⟩ := hrel
            have S8 := Lib.hid s8
            have Z8 := Lib.hid z8
            clear s8 z8 HPREL
            have hfj := flat_take_le ps j
            obtain ⟨ys, hys⟩ : ∃ ys, out ++ (ps.take j).flatten = ys := ⟨_, rfl⟩
            have hyl : ys.length ≤ 4194304 := by rw [← hys, List.length_append]; omega
            rw [hys] at S8 ⊢
            by_cases hlt2 : j < ps.length
            · obtain ⟨b, hb⟩ := some_at hlt2
              obtain ⟨vs, h1⟩ := piecesP_open (S8.out.swap)
              obtain ⟨u, hu, X, h2, h3⟩ := pcsP_at h1.right hb
              obtain ⟨Ab, cb, rfl, hb1, hb2, hb3⟩ := bytesP_shape h2
              have hbn := (bytesP_own h2).nilcap
              obtain ⟨A2', k2', e2, _, _, hrv⟩ := h1.row_own.shape
              have hvl := pcsP_length h1.right
              injection e2 with e3 e4 e5
              subst e3
              clear e4 e5
              obtain ⟨ad2, e6, hcell⟩ := hrv j _ hu
              subst e6
              obtain ⟨zs, hzs⟩ : ∃ zs, ys ++ b = zs := ⟨_, rfl⟩
              have hzl : ys.length + b.length = zs.length := by rw [← hzs, List.length_append]
              have hbl : b.length ≤ 4194304 := by
                have h4 := flat_take_le ps (j + 1)
                rw [take_flat hb, List.length_append] at h4
                omega
              have HZ : Hid (zs = out ++ (ps.take (j + 1)).flatten) := Lib.hid (by rw [take_flat hb, ← List.append_assoc, hys, hzs])
              have HZS := Lib.hid hzs
              have HB3 := Lib.hid hb3
              have HBN := Lib.hid hbn
              clear h1 h2 h3 hrv hvl hu hb hb1 hb2 hb3 hbn hys hzs
              go_wp2_with (at_builtin; refine sapp rfl (.tmp 49) (.tmp 50) 22 rfl Tryz.underlying22 infoB (.slice B3 ys.length c3) ys b Ab b.length cb (by rfl) (by rfl) rfl S8.out HB3.out HBN.out zs.length hzl (by omega) ?_; intro B4 c4 w5 h5 z5; rw [HZS.out] at h5; have S9 := Lib.hid h5; have Z9 := Lib.hid (Z8.out.then z5); clear h5 z5)
              go_roundw
              case rel => exact ⟨B4, c4, j + 1, by omega, by go_num, by rw [← HZ.out], by rw [← HZ.out]; exact S9.out, Z9.out⟩
              case measure => simp [intOf]; omega
            · obtain rfl : j = ps.length := by omega
              have hall : out ++ ps.flatten = ys := by rw [← hys, List.take_length]
              have HALL := Lib.hid hall
              clear hys hall
              go_wp2_with fail
              go_roundw
              case rel => exact ⟨m', ys, B3, c3, Q2, i + 1, rfl, by go_num, by rw [← HALL.out]; exact HEN2.out, (S8.out.perm (show _ = piecesP (.slice A2 ps.length k2) ps * (bytesP (.slice B3 ys.length c3) ys * (wrtP Q2 g m' * (Q2 * (plP g2 p * R)))) by ac_rfl)).right, Z8.out⟩
              case measure => simp [intOf]; omega
      · obtain rfl : i = l.length := by omega
        have he := HEN.out.stop rfl
        obtain rfl := he.symm.trans HENC.out.symm
        clear he HEN HENC
        go_wp2_with fail
        go_ret3
        exact ⟨B1, c1, rfl, (S5.out.perm (show _ = wrtP Q1 g m * (Q1 * (plP g2 p * (bytesP (.slice B1 out.length c1) out * R))) by ac_rfl)).right.right.right, Z5.out⟩
end Go.Proofs.YtcmndglhileeoaaGreat

/- The walks of package salvage: scanned, Scan. -/
set_option linter.unusedSimpArgs false
set_option linter.unusedVariables false
namespace Go.Proofs.YtcmndglhileeoaaGreat
open Go.RowKit
open Rv (HP Sat Same pt allOf sat_all RdIn row own Lcl)

theorem rdr_at {wx : World} {Q X : HP} {g : Nat} {m : Rv.Maker} {ys : Rv.Bs} (h : Sat wx (rdrP Q g m ys * X)) :
    Calls Tryz.prog 29 #[.pointer (some ⟨g, 0, none⟩)] wx fun e w' => e = .returned (.int .i64 (m.size : Int)) ∧ wx = w' := by
  obtain ⟨A', c', h1⟩ := rdrP_open h
  obtain ⟨gc, gl, sA, sc, h1⟩ := mkrP_open h1
  exact at_any _ wx _ _ _ _ _ _ _ _ _ _ h1
theorem results_cttc {P : Program} {fn : Func} {p q s r : Tmp} {ty1 ty2 : TypeId} (h : fn.results = #[.cell p ty1, .tmp q, .tmp s, .cell r ty2]) (tmps : Array Value) (w : World) (g1 g2 : Nat) (t1 t2 : TypeId) (c1 c2 : Array Value) (f1 f2 : Nat × Nat) (d1 d2 : TypeDesc) (v u : Value)
    (hp : tmps.getD p undef = .pointer (some ⟨g1, 0, none⟩)) (hq : tmps.getD q undef = v) (hs : tmps.getD s undef = u) (hr : tmps.getD r undef = .pointer (some ⟨g2, 0, none⟩)) (hg1 : w.heap[g1]? = some (.cells c1 t1 f1)) (hg2 : w.heap[g2]? = some (.cells c2 t2 f2))
    (hu1 : P.underlying ty1 = some d1) (hd1 : (match d1 with | .struct _ | .array _ _ => true | _ => false) = true) (hi1 : (P.info? ty1).map (·.size) = some c1.size)
    (hu2 : P.underlying ty2 = some d2) (hd2 : (match d2 with | .struct _ | .array _ _ => true | _ => false) = true) (hi2 : (P.info? ty2).map (·.size) = some c2.size) :
    (results fn tmps).run P w = .ok (.tuple #[.agg c1, v, u, .agg c2]) w := by
  have hp' : tmps[p]?.getD undef = .pointer (some ⟨g1, 0, none⟩) := by simpa using hp
  have hq' : tmps[q]?.getD undef = v := by simpa using hq
  have hs' : tmps[s]?.getD undef = u := by simpa using hs
  have hr' : tmps[r]?.getD undef = .pointer (some ⟨g2, 0, none⟩) := by simpa using hr
  simp [results, h, hp', hq', hs', hr', asAddr, run_loadVar_row w g1 t1 ty1 c1 f1 d1 hg1 hu1 hd1 hi1, run_loadVar_row w g2 t2 ty2 c2 f2 d2 hg2 hu2 hd2 hi2]

/-- What scanned tells. -/
def ScnRes (R : HP) (w : World) (res : Except Rv.Fault (Rv.Pol × List Rv.Rec × Nat)) (e : Ending) (w' : World) : Prop := match res with
  | .error f => e = .returned (.tuple #[.agg (polCells .zero), .slice none 0 0, .int .i64 0, .agg (fltCells f)]) ∧ Sat w' R ∧ Same w w'
  | .ok (p, l, n) => ∃ A c, e = .returned (.tuple #[.agg (polCells p), .slice A l.length c, .int .i64 (n : Int), .agg (fltCells ⟨0, 0⟩)]) ∧ Sat w' (recsP (.slice A l.length c) l * R) ∧ Same w w'

/-- At the label. -/
def ScnRel (F : HP) (w0 : World) (ys : Rv.Bs) (p : Rv.Pol) (g g7 : Nat) (v : Value) (wr : World) : Prop :=
  ∃ (m : Rv.Maker) (l : List Rv.Rec) (A : Option Addr) (c : Nat) (Q' : HP) (r7 : Rv.Rec), v = .slice A l.length c ∧ ReadTo ys p m l ∧ Sat wr (recsP (.slice A l.length c) l * (rdrP Q' g m ys * (Q' * (rcP g7 r7 * F)))) ∧ Same w0 wr
def ptrB : Value → Nat
  | .pointer (some a) => a.block
  | _ => 0
def ScnMu (a : Act) (w : World) : Nat := 10001 - recsAt w (ptrB (a.tmps.getD 12 undef))
def ScnOk (res : Except Rv.Fault (Rv.Pol × List Rv.Rec × Nat)) (ys : Rv.Bs) (p : Rv.Pol) : Prop := res = .ok (p, (Rv.Maker.reads ys 10001 (Rv.Maker.begun p)).1, (Rv.Maker.reads ys 10001 (Rv.Maker.begun p)).2.1.size)
set_option maxRecDepth 100000 in
def ScnJ (R : HP) (w0 : World) (res : Except Rv.Fault (Rv.Pol × List Rv.Rec × Nat)) (ys : Rv.Bs) (g2 g5 g7 : Nat) (a : Act) (w : World) : Prop :=
  ∃ (p : Rv.Pol) (g g9 : Nat) (u0 u1 u3 u4 u8 u10 u11 u13 u14 u15 u16 u17 u18 u19 u20 u21 u22 u23 u24 u25 u26 u27 u28 u29 u30 u31 u32 u33 u34 u35 u36 u37 u38 u39 u40 u41 u42 u43 u44 u45 u46 u47 u48 u49 v : Value), ScnOk res ys p ∧ ScnRel (plP g2 .zero * (flP g5 ⟨0, 0⟩ * (plP g9 p * R))) w0 ys p g g7 v w ∧ a = ⟨#[u0, u1, .pointer (some ⟨g2, 0, none⟩), u3, u4, .pointer (some ⟨g5, 0, none⟩), v, .pointer (some ⟨g7, 0, none⟩), u8, .pointer (some ⟨g9, 0, none⟩), u10, u11, .pointer (some ⟨g, 0, none⟩), u13, u14, u15, u16, u17, u18, u19, u20, u21, u22, u23, u24, u25, u26, u27, u28, u29, u30, u31, u32, u33, u34, u35, u36, u37, u38, u39, u40, u41, u42, u43, u44, u45, u46, u47, u48, u49], []⟩
/-- A scope whose label is jumped back to; the way to the label may use what holds behind it. -/
theorem wp_scope_back {P : Program} {a : Act} {w : World} {Q : Exit → Act → World → Prop} {c rest : Code} (l : Nat) (J : Act → World → Prop) (μ : Act → World → Nat) (hf : findLabel c l = some (Code.skip.seq rest))
    (pass : ∀ a w, J a w → rest.wp P (Exit.jump l (fun a' w' => J a' w' ∧ μ a' w' < μ a w) Q) a w)
    (first : (∀ a w, J a w → rest.wp P (Exit.jump l J Q) a w) → c.wp P (Exit.jump l J Q) a w) : (Code.scope c).wp P Q a w :=
  wp_scope_jumps l J μ hf (first fun a w h => wp_mono (pass a w h) fun e a' w' hq => by
    cases e <;> first | exact hq | exact ⟨hq.1, hq.2.1⟩) (fun a w h => wp_seq (wp_skip (pass a w h)))

set_option maxHeartbeats 4000000 in
set_option maxRecDepth 100000 in
theorem scanned_any (w : World) (R : HP) (A : Option Addr) (xs : List UInt8) (c : Nat) (hR : Sat w R) (hr : RdIn R A (u8s xs)) (hnil : A = none → c = 0) (hc : xs.length ≤ c) (hm : xs.length ≤ 140737488355328) :
    Calls Tryz.prog 18 #[.slice A xs.length c] w (ScnRes R w (Rv.scanned xs)) := by
  obtain ⟨res, hres⟩ : ∃ x, Rv.scanned xs = x := ⟨_, rfl⟩
  rw [hres]
  have HRES := Lib.hid hres
  have HRD := Lib.hid hr
  have HNIL := Lib.hid hnil
  have S0 : Hid (Sat ((((w.alloc (.cells (polCells .zero) 33)).alloc (.cells (fltCells ⟨0, 0⟩) 27))).alloc (.cells recZero 44)) (plP w.heap.size .zero * (flP (w.heap.size + 1) ⟨0, 0⟩ * (rcP (w.heap.size + 1 + 1) ⟨0, ⟨#[]⟩, 0, 0⟩ * R)))) := Lib.hid (by
    have h1 := ((hR.alloc (.cells (polCells .zero) 33)).alloc (.cells (fltCells ⟨0, 0⟩) 27)).alloc (.cells recZero 44)
    simp only [World.size_alloc] at h1
    exact (show Sat _ (rcP (w.heap.size + 1 + 1) ⟨0, ⟨#[]⟩, 0, 0⟩ * (flP (w.heap.size + 1) ⟨0, 0⟩ * (plP w.heap.size .zero * R))) from h1).perm (by ac_rfl))
  have Z0 : Hid (Same w ((((w.alloc (.cells (polCells .zero) 33)).alloc (.cells (fltCells ⟨0, 0⟩) 27))).alloc (.cells recZero 44))) := Lib.hid (Same.of ((((Kept.refl (fun _ => False) w).alloc _).alloc _).alloc _))
  clear hres hr hnil hR
  go_enter Tryz.func18, Tryz.ntmps18
  go_wp2_with fail
  refine wp_scope_back 0 (ScnJ R w res (xs.take 4194304) w.heap.size (w.heap.size + 1) (w.heap.size + 1 + 1)) ScnMu (by rfl) ?_ ?_
  · intro a0 w0 hJ
    obtain ⟨p, g, g9, u0, u1, u3, u4, u8, u10, u11, u13, u14, u15, u16, u17, u18, u19, u20, u21, u22, u23, u24, u25, u26, u27, u28, u29, u30, u31, u32, u33, u34, u35, u36, u37, u38, u39, u40, u41, u42, u43, u44, u45, u46, u47, u48, u49, v, hok, hrel, rfl⟩ := hJ
    obtain ⟨m, l, B, k, Q1, r7, rfl, hrt, s3, z3⟩ := hrel
    have hrc := recsAt_eq s3.right
    have hyl : (xs.take 4194304).length ≤ 4194304 := by simp; omega
    generalize w.heap.size + 1 + 1 = g7 at *
    generalize w.heap.size + 1 = g5 at *
    generalize w.heap.size = g2 at *
    have HN : Hid (Calls Tryz.prog 27 #[.pointer (some ⟨g, 0, none⟩)] w0 (fun e w4 =>
        (∃ f Q2, e = .returned (.tuple #[.agg recZero, .bool false, .agg (fltCells f)]) ∧ Sat w4 (rcP g7 r7 * (rdrP Q2 g m (xs.take 4194304) * (Q2 * (recsP (.slice B l.length k) l * (plP g2 .zero * (flP g5 ⟨0, 0⟩ * (plP g9 p * R))))))) ∧ Same w0 w4 ∧ res = .ok (p, l, m.size)) ∨
        (∃ x m' Q2, e = .returned (.tuple #[.agg (recCells x), .bool true, .agg (fltCells ⟨0, 0⟩)]) ∧ Sat w4 (rcP g7 r7 * (rdrP Q2 g m' (xs.take 4194304) * (Q2 * (recsP (.slice B l.length k) l * (plP g2 .zero * (flP g5 ⟨0, 0⟩ * (plP g9 p * R))))))) ∧ Same w0 w4 ∧ ReadTo (xs.take 4194304) p m' (l ++ [x]) ∧ m'.records = m.records + 1))) := Lib.hid (by
      refine (tnext_any w0 Q1 (recsP (.slice B l.length k) l * (rcP g7 r7 * (plP g2 .zero * (flP g5 ⟨0, 0⟩ * (plP g9 p * R))))) g m (xs.take 4194304) hrt.ok (s3.perm (by ac_rfl)) hrt.sz hyl).mono ?_
      intro e w4 hq
      unfold ScnOk at hok
      cases hn : m.next (xs.take 4194304) with
      | none_ =>
        rw [hn] at hq
        obtain ⟨rfl, Q2, x2, s4, z4⟩ := hq
        rw [hrt.stop hn] at hok
        exact .inl ⟨⟨0, 0⟩, Q2, rfl, s4.perm (by ac_rfl), z4, hok⟩
      | fault f =>
        rw [hn] at hq
        obtain ⟨rfl, Q2, x2, s4, z4⟩ := hq
        rw [hrt.fall hn] at hok
        exact .inl ⟨f, Q2, rfl, s4.perm (by ac_rfl), z4, hok⟩
      | some x m' =>
        rw [hn] at hq
        obtain ⟨rfl, Q2, x2, s4, z4⟩ := hq
        exact .inr ⟨x, m', Q2, rfl, s4.perm (by ac_rfl), z4, hrt.step hyl hn, (Rv.Maker.next_records hn).1⟩)
    have HOK := Lib.hid hok
    have HRC := Lib.hid hrc
    have ZJ := Lib.hid z3
    have hll : l.length ≤ 10000 := by rw [hrt.len]; exact hrt.ok.n1
    have hmr := hrt.ok.n1
    clear s3 z3 hrt hok hrc S0 Z0 HRES hyl
    go_wp2_with fail
    refine HN.out.mono ?_
    clear HN
    rintro e w4 (⟨f, Q2, rfl, s4, z4, hres⟩ | ⟨x, m', Q2, rfl, s4, z4, hrt2, hrec⟩)
    · subst hres
      have S4 := Lib.hid s4
      have S5 : Hid (Sat (w4.setRow g7 recZero) (rcP g7 ⟨0, ⟨#[]⟩, 0, 0⟩ * (rdrP Q2 g m (xs.take 4194304) * (Q2 * (recsP (.slice B l.length k) l * (plP g2 .zero * (flP g5 ⟨0, 0⟩ * (plP g9 p * R)))))))) := Lib.hid (sat_setRow (n := recZero) s4)
      have Z5 : Hid (Same w (w4.setRow g7 recZero)) := Lib.hid ((ZJ.out.then z4).then (same_setRow _ _ _))
      clear s4 z4 HOK
      go_upto_region 11 with ((with_reducible refine at_store 44 7 37 ?_); refine wpList_store_row rfl 44 (.tmp 7) (.tmp 37) rfl g7 recZero (by rfl) (by rfl) 44 (recCells r7) S4.out.heap info_rec (by rfl) one_rec0 ?_; simp only [Act.put])
      generalize w4.setRow g7 recZero = w5 at *
      have ZR : Hid (Sat w5.drew (plP g2 .zero * (flP g5 ⟨0, 0⟩ * (plP g9 p * (rcP g7 ⟨0, ⟨#[]⟩, 0, 0⟩ * (rdrP Q2 g m (xs.take 4194304) * (Q2 * (recsP (.slice B l.length k) l * R)))))))) := Lib.hid (S5.out.drew.perm (by ac_rfl))
      have HAT := Lib.hid (rdr_at S5.out.swap.drew)
      obtain ⟨T1, T2, T3⟩ := two_sets (n2 := polCells p) (n4 := fltCells ⟨0, 0⟩) ZR.out
      have T1 := Lib.hid T1
      have T2 := Lib.hid T2
      have T3 := Lib.hid T3
      have K0 := Lib.hid ZR.out.third.heap
      clear S4
      refine wp_region_held_drew (S := fun w' => w'.heap[g9]? = some (.cells (polCells p) 33 (0, 0))) (by kernel_rfl) K0.out (fun hHeld => ?_)
      refine wpAnyH_take (i := 0) (oi := ⟨some 45, .load 33 (.tmp 9), 33, "salvage.go:29", #[], none⟩) rfl (by kernel_rfl) (by kernel_rfl) (by kernel_rfl) (fun _ _ _ h => h) (yields_load_row rfl 33 (.tmp 9) rfl g9 (by rfl) 33 (polCells p) (0, 0) _ (fun _ h => h) Tryz.underlying33 (by rfl) info_pol) (by assumption) ?_
      try simp only [Act.put, List.setIfInBounds_toArray, List.set_cons_zero, List.set_cons_succ]
      refine wpAnyH_take (i := 1) (oi := ⟨some 46, .move (.tmp 6), 34, "salvage.go:29", #[⟨5, .gcOnly .lateStores⟩], none⟩) (v := ?_) rfl (by kernel_rfl) (by kernel_rfl) (by kernel_rfl) (fun _ _ _ h => h) (Or.inl ⟨by rfl, ?_⟩) (by assumption) ?_
      rotate_left
      · intro w hSw
        try dsimp only at hSw
        go_simp
        try with_reducible rfl
      try simp only [Act.put, List.setIfInBounds_toArray, List.set_cons_zero, List.set_cons_succ]
      refine wpAnyH_take (i := 2) (oi := ⟨some 47, .move (.tmp 12), 78, "salvage.go:29", #[], none⟩) (v := ?_) rfl (by kernel_rfl) (by kernel_rfl) (by kernel_rfl) (fun _ _ _ h => h) (Or.inl ⟨by rfl, ?_⟩) (by assumption) ?_
      rotate_left
      · intro w hSw
        try dsimp only at hSw
        go_simp
        try with_reducible rfl
      try simp only [Act.put, List.setIfInBounds_toArray, List.set_cons_zero, List.set_cons_succ]
      refine wpAnyH_take (i := 4) (oi := ⟨some 49, .build 27 #[], 27, "salvage.go:29", #[⟨7, .gcOnly .lateStores⟩], none⟩) (v := ?_) rfl (by kernel_rfl) (by kernel_rfl) (by kernel_rfl) (fun _ _ _ h => h) (Or.inl ⟨by rfl, ?_⟩) (by assumption) ?_
      rotate_left
      · intro w hSw
        try dsimp only at hSw
        go_simp
        try with_reducible rfl
      try simp only [Act.put, List.setIfInBounds_toArray, List.set_cons_zero, List.set_cons_succ]
      refine wpAnyH_ready (rs := [3]) (by kernel_rfl) (by simp) ?_
      refine AllReadyH.cons (o := ⟨some 48, .call { callee := .value (.func 29), args := #[.tmp 47], argTypes := #[78] }, 3, "salvage.go:29", #[⟨2, .data⟩], none⟩) rfl (fun K hK => ?_) AllReadyH.nil
      go_simp
      refine HAT.out.mono ?_
      rintro e w6 ⟨rfl, rfl⟩
      refine hK.out _ _ K0.out (fun hHeld2 => ?_)
      clear hK K hHeld
      try simp only [Act.put, List.setIfInBounds_toArray, List.set_cons_zero, List.set_cons_succ]
      refine wpAnyH_ready (rs := [5]) (by kernel_rfl) (by simp) ?_
      refine AllReadyH.cons (o := ⟨none, .store 33 (.tmp 2) (.tmp 45), 0, "salvage.go:29", #[⟨0, .data⟩, ⟨3, .chain⟩, ⟨0, .phase⟩, ⟨1, .textOnly .lateStores⟩, ⟨2, .textOnly .lateStores⟩, ⟨3, .textOnly .lateStoresUnsure⟩, ⟨4, .textOnly .lateStores⟩], none⟩) rfl (fun K hK => ?_) AllReadyH.nil
      have K1 := Lib.hid T1.out.third.heap
      refine step_store_row rfl 33 (.tmp 2) (.tmp 45) rfl g2 (polCells p) (by rfl) (by rfl) 33 (polCells .zero) ZR.out.heap info_pol (by rfl) (one_pol _) ?_
      refine hK.out _ _ K1.out (fun hHeld => ?_)
      clear hK K hHeld2
      try simp only [Act.put, List.setIfInBounds_toArray, List.set_cons_zero, List.set_cons_succ]
      refine wpAnyH_take (i := 6) (oi := ⟨some 3, .assign (.tmp 46), 34, "salvage.go:29", #[⟨1, .data⟩, ⟨5, .chain⟩, ⟨0, .phase⟩, ⟨1, .phase⟩, ⟨2, .textOnly .lateStores⟩, ⟨3, .textOnly .lateStoresUnsure⟩, ⟨4, .textOnly .lateStores⟩, ⟨5, .phase⟩], none⟩) (v := ?_) rfl (by kernel_rfl) (by kernel_rfl) (by kernel_rfl) (fun _ _ _ h => h) (Or.inl ⟨by rfl, ?_⟩) (by assumption) ?_
      rotate_left
      · intro w hSw
        try dsimp only at hSw
        go_simp
        try with_reducible rfl
      try simp only [Act.put, List.setIfInBounds_toArray, List.set_cons_zero, List.set_cons_succ]
      refine wpAnyH_take (i := 7) (oi := ⟨some 4, .assign (.tmp 48), 3, "salvage.go:29", #[⟨3, .data⟩, ⟨6, .chain⟩, ⟨0, .phase⟩, ⟨1, .phase⟩, ⟨2, .phase⟩, ⟨3, .phase⟩, ⟨4, .textOnly .lateStores⟩, ⟨5, .phase⟩, ⟨6, .phase⟩], none⟩) (v := ?_) rfl (by kernel_rfl) (by kernel_rfl) (by kernel_rfl) (fun _ _ _ h => h) (Or.inl ⟨by rfl, ?_⟩) (by assumption) ?_
      rotate_left
      · intro w hSw
        try dsimp only at hSw
        go_simp
        try with_reducible rfl
      try simp only [Act.put, List.setIfInBounds_toArray, List.set_cons_zero, List.set_cons_succ]
      refine wpAnyH_ready (rs := [8]) (by kernel_rfl) (by simp) ?_
      refine AllReadyH.cons (o := ⟨none, .store 27 (.tmp 5) (.tmp 49), 0, "salvage.go:29", #[⟨4, .data⟩, ⟨7, .chain⟩, ⟨0, .phase⟩, ⟨1, .phase⟩, ⟨2, .phase⟩, ⟨3, .phase⟩, ⟨4, .phase⟩, ⟨5, .phase⟩, ⟨6, .phase⟩, ⟨7, .phase⟩], none⟩) rfl (fun K hK => ?_) AllReadyH.nil
      have K2 := Lib.hid T2.out.third.heap
      refine step_store_row rfl 27 (.tmp 5) (.tmp 49) rfl g5 (fltCells ⟨0, 0⟩) (by rfl) (by rfl) 27 (fltCells ⟨0, 0⟩) T1.out.swap.heap info_flt (by rfl) (one_flt _) ?_
      refine hK.out _ _ K2.out (fun hHeld2 => ?_)
      clear hK K hHeld
      try simp only [Act.put, List.setIfInBounds_toArray, List.set_cons_zero, List.set_cons_succ]
      refine wpAnyH_done (by kernel_rfl) ?_ _
      clear hHeld2
      go_wp2_with fail
      refine jump_ret ?_
      exact bodyPost_ret (results_cttc Tryz.results18 _ _ g2 g5 33 27 (polCells p) (fltCells ⟨0, 0⟩) (0, 0) (0, 0) _ _ (.slice B l.length k) (.int .i64 (m.size : Int)) (by rfl) (by rfl) (by rfl) (by rfl) T2.out.heap T2.out.swap.heap Tryz.underlying33 (by rfl) info_pol Tryz.underlying27 (by rfl) info_flt) rfl
        ⟨B, k, rfl, (T2.out.right.right.perm (show _ = plP g9 p * (rcP g7 ⟨0, ⟨#[]⟩, 0, 0⟩ * (rdrP Q2 g m (xs.take 4194304) * (Q2 * (recsP (.slice B l.length k) l * R)))) by ac_rfl)).right.right.right.right, Z5.out.drew.then T3.out⟩
    · have S4 := Lib.hid s4
      have S5 : Hid (Sat (w4.setRow g7 (recCells x)) (rcP g7 x * (rdrP Q2 g m' (xs.take 4194304) * (Q2 * (recsP (.slice B l.length k) l * (plP g2 .zero * (flP g5 ⟨0, 0⟩ * (plP g9 p * R)))))))) := Lib.hid (sat_setRow (n := recCells x) s4)
      have S6 : Hid (Sat (w4.setRow g7 (recCells x)) (recsP (.slice B l.length k) l * (rdrP Q2 g m' (xs.take 4194304) * (Q2 * (rcP g7 x * (plP g2 .zero * (flP g5 ⟨0, 0⟩ * (plP g9 p * R)))))))) := Lib.hid (S5.out.perm (by ac_rfl))
      have Z5 : Hid (Same w (w4.setRow g7 (recCells x))) := Lib.hid ((ZJ.out.then z4).then (same_setRow _ _ _))
      have HRT := Lib.hid hrt2
      have HREC := Lib.hid hrec
      clear s4 z4 hrt2 hrec
      go_upto_region 10 with ((with_reducible refine at_store 44 7 37 ?_); refine wpList_store_row rfl 44 (.tmp 7) (.tmp 37) rfl g7 (recCells x) (by rfl) (by rfl) 44 (recCells r7) S4.out.heap info_rec (by rfl) (one_rec x) ?_; simp only [Act.put])
      generalize w4.setRow g7 (recCells x) = w5 at *
      clear S4
      go_wp2_with (first
        | ((with_reducible refine at_slot 42 ?_); refine wpList_load_row rfl 44 (.tmp 7) rfl g7 (by rfl) 44 (recCells x) (0, 0) _ S5.out.heap Tryz.underlying44 (by rfl) info_rec ?_)
        | (at_builtin; refine sapp_rec rfl (.tmp 41) (.tmp 43) rfl (.slice B l.length k) l x (by rfl) (by rfl) S6.out (by omega) ?_; intro B1 c1 w6 h6 z6; have S7 := Lib.hid h6; have Z7 := Lib.hid (Z5.out.then z6); clear h6 z6))
      have h8 : Sat w6 (recsP (.slice B1 (l ++ [x]).length c1) (l ++ [x]) * (rdrP Q2 g m' (xs.take 4194304) * (Q2 * (rcP g7 x * (plP g2 .zero * (flP g5 ⟨0, 0⟩ * (plP g9 p * R))))))) := by
        rw [List.length_append, List.length_singleton]
        exact S7.out
      have hr8 := recsAt_eq h8.right
      have hn8 := HRT.out.ok.n1
      go_step3
      go_wp2_with fail
      refine jump_goto ?_
      refine ⟨⟨p, g, g9, _, _, _, _, _, _, _, _, _, _, _, _, _, _, _, _, _, _, _, _, _, _, _, _, _, _, _, _, _, _, _, _, _, _, _, _, _, _, _, _, _, _, _, _, _, HOK.out, ⟨m', l ++ [x], B1, c1, Q2, x, by rw [List.length_append, List.length_singleton], HRT.out, h8, Z7.out⟩, rfl⟩, ?_⟩
      show 10001 - recsAt w6 g < 10001 - recsAt w0 g
      rw [hr8, HRC.out, HREC.out]
      have := HREC.out
      omega
  · intro hpass
    have HPASS := Lib.hid hpass
    clear hpass
    go_upto_region 4 with (fail)
    obtain ⟨w1, hw1⟩ : ∃ w1, w1 = ((((w.alloc (.cells (polCells .zero) 33)).alloc (.cells (fltCells ⟨0, 0⟩) 27))).alloc (.cells recZero 44)) := ⟨_, rfl⟩
    change Code.wp _ _ _ _ ((((w.alloc (.cells (polCells .zero) 33)).alloc (.cells (fltCells ⟨0, 0⟩) 27))).alloc (.cells recZero 44))
    rw [← hw1] at S0 Z0 ⊢
    clear hw1
    generalize w.heap.size + 1 + 1 = g7 at *
    generalize w.heap.size + 1 = g5 at *
    generalize w.heap.size = g2 at *
    go_wp2_with fail
    refine (pread_any A xs c w1 (rdV_u8 (HRD.out w1 S0.out.right.right.right)) hm hc).mono ?_
    rintro e w2 ⟨rfl, b2⟩
    have S2 := Lib.hid (S0.out.below b2)
    have Z2 := Lib.hid (Z0.out.then (Rv.Same.below b2))
    clear b2 S0 Z0
    cases hp : Rv.Pol.read xs with
    | error f =>
      have e3 : preadRes (.error f) = .returned (.tuple #[.agg (polCells .zero), .int .i64 0, .agg (fltCells f)]) := rfl
      rw [e3]
      clear e3
      have S5 : Hid (Sat ((w2.alloc (.cells (polCells .zero) 33)).alloc (.cells (fltCells f) 27)) (plP g2 .zero * (flP g5 ⟨0, 0⟩ * (flP (w2.heap.size + 1) f * (plP w2.heap.size .zero * (rcP g7 ⟨0, ⟨#[]⟩, 0, 0⟩ * R)))))) := Lib.hid (by
        have h1 := (S2.out.alloc (.cells (polCells .zero) 33)).alloc (.cells (fltCells f) 27)
        simp only [World.size_alloc] at h1
        exact (show Sat _ (flP (w2.heap.size + 1) f * (plP w2.heap.size .zero * (plP g2 .zero * (flP g5 ⟨0, 0⟩ * (rcP g7 ⟨0, ⟨#[]⟩, 0, 0⟩ * R))))) from h1).perm (by ac_rfl))
      have Z5 : Hid (Same w ((w2.alloc (.cells (polCells .zero) 33)).alloc (.cells (fltCells f) 27))) := Lib.hid (Z2.out.then (Same.of (((Kept.refl (fun _ => False) w2).alloc _).alloc _)))
      go_upto_region 5 with (fail)
      obtain ⟨w5, hw5⟩ : ∃ w5, w5 = ((w2.alloc (.cells (polCells .zero) 33)).alloc (.cells (fltCells f) 27)) := ⟨_, rfl⟩
      change Code.wp _ _ _ _ ((w2.alloc (.cells (polCells .zero) 33)).alloc (.cells (fltCells f) 27))
      rw [← hw5] at S5 Z5 ⊢
      clear hw5 S2 Z2
      generalize w2.heap.size + 1 = g11 at *
      generalize w2.heap.size = g9 at *
      obtain ⟨l0, l1⟩ := flt_facts S5.out.third
      have hfc := pread_code hp
      have e1 : (f.code != 0) = true := by simpa using hfc
      have he : Rv.scanned xs = .error f := by unfold Rv.scanned; rw [hp]
      obtain rfl := he.symm.trans HRES.out
      have K0 := Lib.hid (And.intro l0 l1)
      have ZR : Hid (Sat w5.drew (plP g2 .zero * (flP g5 ⟨0, 0⟩ * (flP g11 f * (plP g9 .zero * (rcP g7 ⟨0, ⟨#[]⟩, 0, 0⟩ * R)))))) := Lib.hid S5.out.drew
      obtain ⟨T1, T2, T3⟩ := two_sets (n2 := polCells .zero) (n4 := fltCells f) ZR.out
      have T1 := Lib.hid T1
      have T2 := Lib.hid T2
      have T3 := Lib.hid T3
      clear HRES he hfc hp
      go_upto_region 6 with (fail)
      refine wp_region_held_drew (S := fun w => w.cell? ⟨g11, 0, none⟩ = some (.int .i64 f.code) ∧ w.cell? ⟨g11, 1, none⟩ = some (.int .i64 f.at_)) (by kernel_rfl) K0.out (fun hHeld => ?_)
      refine wpAnyH_take (i := 0) (oi := ⟨some 23, .build 33 #[], 33, "salvage.go:20", #[], none⟩) (v := ?_) rfl (by kernel_rfl) (by kernel_rfl) (by kernel_rfl) (fun _ _ _ h => h) (Or.inl ⟨by rfl, ?_⟩) (by assumption) ?_
      rotate_left
      · intro w hSw
        try dsimp only at hSw
        go_simp
        try with_reducible rfl
      try simp only [Act.put, List.setIfInBounds_toArray, List.set_cons_zero, List.set_cons_succ]
      refine wpAnyH_take (i := 1) (oi := ⟨some 24, .load 27 (.tmp 11), 27, "salvage.go:20", #[⟨4, .gcOnly .lateStores⟩], none⟩) (v := ?_) rfl (by kernel_rfl) (by kernel_rfl) (by kernel_rfl) (fun _ _ _ h => h) (Or.inl ⟨by rfl, ?_⟩) (by assumption) ?_
      rotate_left
      · intro w hSw
        try dsimp only at hSw
        go_simp
        try with_reducible rfl
      try simp only [Act.put, List.setIfInBounds_toArray, List.set_cons_zero, List.set_cons_succ]
      refine wpAnyH_ready (rs := [2]) (by kernel_rfl) (by simp) ?_
      refine AllReadyH.cons (o := ⟨none, .store 33 (.tmp 2) (.tmp 23), 0, "salvage.go:20", #[⟨0, .data⟩, ⟨0, .phase⟩, ⟨1, .textOnly .lateStores⟩], none⟩) rfl (fun K hK => ?_) AllReadyH.nil
      have K1 := Lib.hid (flt_facts T1.out.third)
      refine step_store_row rfl 33 (.tmp 2) (.tmp 23) rfl g2 (polCells .zero) (by rfl) (by rfl) 33 (polCells .zero) ZR.out.heap info_pol (by rfl) (one_pol _) ?_
      refine hK.out _ _ K1.out (fun hHeld2 => ?_)
      clear hK K hHeld
      try simp only [Act.put, List.setIfInBounds_toArray, List.set_cons_zero, List.set_cons_succ]
      refine wpAnyH_take (i := 3) (oi := ⟨some 3, .assign (.const (.slice none 0 0)), 34, "salvage.go:20", #[⟨2, .chain⟩, ⟨0, .phase⟩, ⟨1, .textOnly .lateStores⟩, ⟨2, .phase⟩], none⟩) (v := ?_) rfl (by kernel_rfl) (by kernel_rfl) (by kernel_rfl) (fun _ _ _ h => h) (Or.inl ⟨by rfl, ?_⟩) (by assumption) ?_
      rotate_left
      · intro w hSw
        try dsimp only at hSw
        go_simp
        try with_reducible rfl
      try simp only [Act.put, List.setIfInBounds_toArray, List.set_cons_zero, List.set_cons_succ]
      refine wpAnyH_take (i := 4) (oi := ⟨some 4, .assign (.const (.int .i64 0)), 3, "salvage.go:20", #[⟨3, .chain⟩, ⟨0, .phase⟩, ⟨1, .textOnly .lateStores⟩, ⟨2, .phase⟩, ⟨3, .phase⟩], none⟩) (v := ?_) rfl (by kernel_rfl) (by kernel_rfl) (by kernel_rfl) (fun _ _ _ h => h) (Or.inl ⟨by rfl, ?_⟩) (by assumption) ?_
      rotate_left
      · intro w hSw
        try dsimp only at hSw
        go_simp
        try with_reducible rfl
      try simp only [Act.put, List.setIfInBounds_toArray, List.set_cons_zero, List.set_cons_succ]
      refine wpAnyH_ready (rs := [5]) (by kernel_rfl) (by simp) ?_
      refine AllReadyH.cons (o := ⟨none, .store 27 (.tmp 5) (.tmp 24), 0, "salvage.go:20", #[⟨1, .data⟩, ⟨4, .chain⟩, ⟨0, .phase⟩, ⟨1, .phase⟩, ⟨2, .phase⟩, ⟨3, .phase⟩, ⟨4, .phase⟩], none⟩) rfl (fun K hK => ?_) AllReadyH.nil
      have K2 := Lib.hid (flt_facts T2.out.third)
      refine step_store_row rfl 27 (.tmp 5) (.tmp 24) rfl g5 (fltCells f) (by rfl) (by rfl) 27 (fltCells ⟨0, 0⟩) T1.out.swap.heap info_flt (by rfl) (one_flt _) ?_
      refine hK.out _ _ K2.out (fun hHeld => ?_)
      clear hK K hHeld2
      try simp only [Act.put, List.setIfInBounds_toArray, List.set_cons_zero, List.set_cons_succ]
      refine wpAnyH_done (by kernel_rfl) ?_ _
      clear hHeld
      go_wp2_with fail
      refine jump_ret ?_
      exact bodyPost_ret (results_cttc Tryz.results18 _ _ g2 g5 33 27 (polCells .zero) (fltCells f) (0, 0) (0, 0) _ _ (.slice none 0 0) (.int .i64 0) (by rfl) (by rfl) (by rfl) (by rfl) T2.out.heap T2.out.swap.heap Tryz.underlying33 (by rfl) info_pol Tryz.underlying27 (by rfl) info_flt) rfl
        ⟨rfl, T2.out.right.right.right.right.right, Z5.out.drew.then T3.out⟩
    | ok q =>
      obtain ⟨p, tt⟩ := q
      have e3 : preadRes (.ok (p, tt)) = .returned (.tuple #[.agg (polCells p), .int .i64 (tt : Int), .agg (fltCells ⟨0, 0⟩)]) := rfl
      rw [e3]
      clear e3
      have S5 : Hid (Sat ((w2.alloc (.cells (polCells p) 33)).alloc (.cells (fltCells ⟨0, 0⟩) 27)) (plP g2 .zero * (flP g5 ⟨0, 0⟩ * (flP (w2.heap.size + 1) ⟨0, 0⟩ * (plP w2.heap.size p * (rcP g7 ⟨0, ⟨#[]⟩, 0, 0⟩ * R)))))) := Lib.hid (by
        have h1 := (S2.out.alloc (.cells (polCells p) 33)).alloc (.cells (fltCells ⟨0, 0⟩) 27)
        simp only [World.size_alloc] at h1
        exact (show Sat _ (flP (w2.heap.size + 1) ⟨0, 0⟩ * (plP w2.heap.size p * (plP g2 .zero * (flP g5 ⟨0, 0⟩ * (rcP g7 ⟨0, ⟨#[]⟩, 0, 0⟩ * R))))) from h1).perm (by ac_rfl))
      have Z5 : Hid (Same w ((w2.alloc (.cells (polCells p) 33)).alloc (.cells (fltCells ⟨0, 0⟩) 27))) := Lib.hid (Z2.out.then (Same.of (((Kept.refl (fun _ => False) w2).alloc _).alloc _)))
      go_upto_region 5 with (fail)
      obtain ⟨w5, hw5⟩ : ∃ w5, w5 = ((w2.alloc (.cells (polCells p) 33)).alloc (.cells (fltCells ⟨0, 0⟩) 27)) := ⟨_, rfl⟩
      change Code.wp _ _ _ _ ((w2.alloc (.cells (polCells p) 33)).alloc (.cells (fltCells ⟨0, 0⟩) 27))
      rw [← hw5] at S5 Z5 ⊢
      clear hw5 S2 Z2
      generalize w2.heap.size + 1 = g11 at *
      generalize w2.heap.size = g9 at *
      obtain ⟨l0, l1⟩ := flt_facts S5.out.third
      have hfm := Rv.Pol.read_form hp
      have hok := Rv.Pol.read_ok hp
      have hhl := Rv.Pol.header_len p
      have hyl : (xs.take 4194304).length = min 4194304 xs.length := List.length_take
      have hpy : Rv.Pol.read (xs.take 4194304) = .ok (p, tt) := hok.2.2 _ tt ⟨hok.2.1, by omega, by rw [List.take_take]; congr 1; omega⟩ (Nat.le_refl _)
      have hop : Rv.openR (xs.take 4194304) = .ok (Rv.Maker.begun p) := by
        unfold Rv.openR
        rw [if_neg (by omega), hpy]
      have hrt := ReadTo.begin hpy
      have HOK : Hid (ScnOk res (xs.take 4194304) p) := Lib.hid (by
        unfold ScnOk
        rw [← HRES.out]
        exact Rv.scanned_eq hp)
      have HO : Hid (Calls Tryz.prog 26 #[.slice A (xs.take 4194304).length c] w5 (fun e w6 => ∃ g, e = .returned (.tuple #[.pointer (some ⟨g, 0, none⟩), .agg (fltCells ⟨0, 0⟩)]) ∧ Sat w6 (rdrP 1 g (Rv.Maker.begun p) (xs.take 4194304) * (1 * (plP g2 .zero * (flP g5 ⟨0, 0⟩ * (flP g11 ⟨0, 0⟩ * (plP g9 p * (rcP g7 ⟨0, ⟨#[]⟩, 0, 0⟩ * R))))))) ∧ Same w5 w6)) := Lib.hid (by
        have h1 := topen_any w5 _ A (xs.take 4194304) c S5.out (Rv.RdIn.right (Rv.RdIn.right (Rv.RdIn.right (Rv.RdIn.right (Rv.RdIn.right (by have := HRD.out.take 4194304; unfold u8s at this ⊢; rw [List.map_take]; exact this)))))) HNIL.out (by omega) (by omega)
        rw [hop] at h1
        exact h1)
      rw [hyl] at HO
      have HRT := Lib.hid hrt
      clear HRES hp hpy hop hrt hok hfm hhl hyl
      have hc1 : (xs.length : Int) ≤ (c : Int) := by omega
      go_wp2_with fail
      rw [show (min (xs.length : Int) 4194304).toNat = min 4194304 xs.length from by omega]
      refine HO.out.mono ?_
      rintro e w6 ⟨g, rfl, s6, z6⟩
      have S6 : Hid (Sat (w6.alloc (.cells (fltCells ⟨0, 0⟩) 27)) (rdrP 1 g (Rv.Maker.begun p) (xs.take 4194304) * (1 * (rcP g7 ⟨0, ⟨#[]⟩, 0, 0⟩ * (plP g2 .zero * (flP g5 ⟨0, 0⟩ * (plP g9 p * R))))))) := Lib.hid ((show Sat _ (flP w6.heap.size ⟨0, 0⟩ * (flP g11 ⟨0, 0⟩ * (rdrP 1 g (Rv.Maker.begun p) (xs.take 4194304) * (1 * (rcP g7 ⟨0, ⟨#[]⟩, 0, 0⟩ * (plP g2 .zero * (flP g5 ⟨0, 0⟩ * (plP g9 p * R)))))))) from (s6.alloc (.cells (fltCells ⟨0, 0⟩) 27)).perm (show pt w6.heap.size (.cells (fltCells ⟨0, 0⟩) 27) * _ = pt w6.heap.size (.cells (fltCells ⟨0, 0⟩) 27) * _ by ac_rfl)).right.right)
      have Z6 := Lib.hid ((Z5.out.then z6).then (Same.of ((Kept.refl (fun _ => False) w6).alloc (.cells (fltCells ⟨0, 0⟩) 27))))
      clear s6 z6 S5 Z5 HO l0 l1
      go_wp2_with fail
      go_step3
      rename_i hK
      refine hK _ _ (HPASS.out _ _ ?_)
      exact ⟨p, g, g9, _, _, _, _, _, _, _, _, _, _, _, _, _, _, _, _, _, _, _, _, _, _, _, _, _, _, _, _, _, _, _, _, _, _, _, _, _, _, _, _, _, _, _, _, _, HOK.out, ⟨_, [], none, 0, 1, ⟨0, ⟨#[]⟩, 0, 0⟩, rfl, HRT.out, recsP_nil S6.out, Z6.out⟩, rfl⟩
end Go.Proofs.YtcmndglhileeoaaGreat

/- The walks of package salvage: Scan. -/
set_option linter.unusedSimpArgs false
set_option linter.unusedVariables false
namespace Go.Proofs.YtcmndglhileeoaaGreat
open Go.RowKit
open Rv (HP Sat Same pt allOf sat_all RdIn row own Lcl)

theorem results_ttc {P : Program} {fn : Func} {q s r : Tmp} {ty2 : TypeId} (h : fn.results = #[.tmp q, .tmp s, .cell r ty2]) (tmps : Array Value) (w : World) (g2 : Nat) (t2 : TypeId) (c2 : Array Value) (f2 : Nat × Nat) (d2 : TypeDesc) (v u : Value)
    (hq : tmps.getD q undef = v) (hs : tmps.getD s undef = u) (hr : tmps.getD r undef = .pointer (some ⟨g2, 0, none⟩)) (hg2 : w.heap[g2]? = some (.cells c2 t2 f2))
    (hu2 : P.underlying ty2 = some d2) (hd2 : (match d2 with | .struct _ | .array _ _ => true | _ => false) = true) (hi2 : (P.info? ty2).map (·.size) = some c2.size) :
    (results fn tmps).run P w = .ok (.tuple #[v, u, .agg c2]) w := by
  have hq' : tmps[q]?.getD undef = v := by simpa using hq
  have hs' : tmps[s]?.getD undef = u := by simpa using hs
  have hr' : tmps[r]?.getD undef = .pointer (some ⟨g2, 0, none⟩) := by simpa using hr
  simp [results, h, hq', hs', hr', asAddr, run_loadVar_row w g2 t2 ty2 c2 f2 d2 hg2 hu2 hd2 hi2]

/-- What Scan tells. -/
def scanN (xs : Rv.Bs) : Nat := match Rv.scanned xs with | .error _ => 0 | .ok (_, _, n) => n
def scanK (xs : Rv.Bs) : Nat := match Rv.scanned xs with | .error _ => 0 | .ok (_, l, _) => l.length
def scanF (xs : Rv.Bs) : Rv.Fault := match Rv.scanned xs with | .error f => f | .ok _ => ⟨0, 0⟩

set_option maxHeartbeats 4000000 in
set_option maxRecDepth 100000 in
theorem scan_any (w : World) (R : HP) (A : Option Addr) (xs : List UInt8) (c : Nat) (hR : Sat w R) (hr : RdIn R A (u8s xs)) (hnil : A = none → c = 0) (hc : xs.length ≤ c) (hm : xs.length ≤ 140737488355328) :
    Calls Tryz.prog 9 #[.slice A xs.length c] w fun e w' => e = .returned (.tuple #[.int .i64 (scanN xs : Int), .int .i64 (scanK xs : Int), .agg (fltCells (scanF xs))]) ∧ Sat w' R ∧ Same w w' := by
  have S0 : Hid (Sat (w.alloc (.cells (fltCells ⟨0, 0⟩) 27)) (flP w.heap.size ⟨0, 0⟩ * R)) := Lib.hid (hR.alloc (.cells (fltCells ⟨0, 0⟩) 27))
  have Z0 : Hid (Same w (w.alloc (.cells (fltCells ⟨0, 0⟩) 27))) := Lib.hid (Same.of ((Kept.refl (fun _ => False) w).alloc _))
  have HS : Hid (∀ (w1 : World) (X : HP), Sat w1 (X * R) → Calls Tryz.prog 18 #[.slice A xs.length c] w1 (fun e w2 => ∃ (p : Rv.Pol) (B : Option Addr) (k : Nat), e = .returned (.tuple #[.agg (polCells p), .slice B (scanK xs) k, .int .i64 (scanN xs : Int), .agg (fltCells (scanF xs))]) ∧ Sat w2 (X * R) ∧ Same w1 w2)) := Lib.hid (fun w1 X h1 => by
    refine (scanned_any w1 (X * R) A xs c h1 (Rv.RdIn.right hr) hnil hc hm).mono ?_
    intro e w2 hq
    unfold scanK scanN scanF
    cases hs : Rv.scanned xs with
    | error f =>
      rw [hs] at hq
      obtain ⟨rfl, s2, z2⟩ := hq
      exact ⟨.zero, none, 0, rfl, s2, z2⟩
    | ok q =>
      obtain ⟨p, l, n⟩ := q
      rw [hs] at hq
      obtain ⟨B, k, rfl, s2, z2⟩ := hq
      exact ⟨p, B, k, rfl, s2.right, z2⟩)
  clear hR hr hnil
  generalize scanK xs = nk at *
  generalize scanN xs = nn at *
  generalize scanF xs = f at *
  go_enter Tryz.func9, Tryz.ntmps9
  go_upto_region 1 with (fail)
  generalize w.alloc (.cells (fltCells ⟨0, 0⟩) 27) = w1 at *
  generalize w.heap.size = g4 at *
  go_wp2_with fail
  refine (HS.out w1 _ S0.out).mono ?_
  rintro e w2 ⟨p, B, k, rfl, s2, z2⟩
  have S2 : Hid (Sat ((w2.alloc (.cells (polCells p) 33)).alloc (.cells (fltCells f) 27)) (flP g4 ⟨0, 0⟩ * (flP (w2.heap.size + 1) f * (plP w2.heap.size p * R)))) := Lib.hid (by
    have h1 := (s2.alloc (.cells (polCells p) 33)).alloc (.cells (fltCells f) 27)
    simp only [World.size_alloc] at h1
    exact (show Sat _ (flP (w2.heap.size + 1) f * (plP w2.heap.size p * (flP g4 ⟨0, 0⟩ * R))) from h1).perm (by ac_rfl))
  have Z2 : Hid (Same w ((w2.alloc (.cells (polCells p) 33)).alloc (.cells (fltCells f) 27))) := Lib.hid ((Z0.out.then z2).then (Same.of (((Kept.refl (fun _ => False) w2).alloc _).alloc _)))
  clear s2 z2 S0 Z0 HS
  go_upto_region 2 with (fail)
  obtain ⟨w3, hw3⟩ : ∃ w3, w3 = ((w2.alloc (.cells (polCells p) 33)).alloc (.cells (fltCells f) 27)) := ⟨_, rfl⟩
  change Code.wp _ _ _ _ ((w2.alloc (.cells (polCells p) 33)).alloc (.cells (fltCells f) 27))
  rw [← hw3] at S2 Z2 ⊢
  clear hw3
  generalize w2.heap.size + 1 = g8 at *
  obtain ⟨l0, l1⟩ := flt_facts S2.out.swap
  have q4 := Rv.Sat.heap S2.out
  have k0 : w3.cell? ⟨g4, 0, none⟩ = some (.int .i64 0) := (cells_of q4 0).trans rfl
  have k1 : w3.cell? ⟨g4, 1, none⟩ = some (.int .i64 0) := (cells_of q4 1).trans rfl
  have f0 : w3.frozen? ⟨g4, 0, none⟩ = false := frozen_of q4 0
  have f1 : w3.frozen? ⟨g4, 1, none⟩ = false := frozen_of q4 1
  have S3 : Hid (Sat (((w3.setCell ⟨g4, 0, none⟩ (.int .i64 f.code)).setCell ⟨g4, 1, none⟩ (.int .i64 f.at_)).drew) (flP g4 f * (flP g8 f * (plP w2.heap.size p * R)))) := Lib.hid ((S2.out.setCell (i := 0) (.int .i64 f.code)).setCell (i := 1) (.int .i64 f.at_)).drew
  clear q4
  go_region
  go_wp2_with fail
  exact bodyPost_ret (results_ttc Tryz.results9 _ _ g4 27 (fltCells f) (0, 0) _ (.int .i64 (nn : Int)) (.int .i64 (nk : Int)) (by rfl) (by rfl) (by rfl) S3.out.heap Tryz.underlying27 (by rfl) info_flt) rfl
    ⟨rfl, S3.out.right.right.right, ((Z2.out.then (Kept.setCell (Kept.refl _ _) _ _ (.inl trivial))).then (Kept.setCell (Kept.refl _ _) _ _ (.inl trivial))).drew⟩
end Go.Proofs.YtcmndglhileeoaaGreat

/- The walk of the laws' own check 'awake'. -/
set_option linter.unusedSimpArgs false
set_option linter.unusedVariables false
namespace Go.Proofs.YtcmndglhileeoaaGreat
open Go.RowKit
open Rv (HP Sat Same pt allOf sat_all RdIn row own Lcl)

/-! ### the plain part: the document's example, reckoned -/
def exP : Rv.Pol := ⟨1, 9, 1, 1, 0, 0, 3, 2, 2, 2⟩
def exA : Rv.Rec := ⟨5, ⟨#[97]⟩, 3, 1⟩
def exC : Rv.Rec := ⟨7, ⟨#[98]⟩, 1, 0⟩
def encB : Rv.Bs := match Rv.encode exP [exA, exA, exC] with
  | .ok b => b
  | .error _ => []
theorem enc_len43 : encB.length = 43 := by decide +kernel
theorem enc_ok : Rv.encode exP [exA, exA, exC] = .ok encB := by
  have h := enc_len43
  unfold encB at h ⊢
  split at h
  · rename_i b hb; rw [hb]
  · cases h
theorem ex_a : scanN (encB.take 42) = 38 ∧ scanK (encB.take 42) = 2 ∧ scanF (encB.take 42) = ⟨0, 0⟩ := by decide +kernel
theorem ex_b : scanN (encB.take 37) = 23 ∧ scanK (encB.take 37) = 1 ∧ scanF (encB.take 37) = ⟨0, 0⟩ := by decide +kernel
theorem ex_c : scanN [] = 0 ∧ scanK [] = 0 ∧ scanF [] = ⟨41, 0⟩ := by decide +kernel

set_option maxHeartbeats 1000000 in
set_option maxRecDepth 100000 in
theorem plain_any (w : World) : Calls Tryz.prog 17 #[] w fun e w' => e = .returned (.agg #[.int .i64 1, .int .i64 9, .int .i64 1, .int .i64 1, .int .i64 0, .int .i64 0, .int .i64 3, .int .i64 2, .int .i64 2, .int .i64 2]) ∧ Below w.heap.size w w' := by
  go_enter Tryz.func17, Tryz.ntmps17
  go_wp2_with fail
  exact bodyPost_ret (results_cell_row Tryz.results17 _ _ w.heap.size 33 #[.int .i64 1, .int .i64 9, .int .i64 1, .int .i64 1, .int .i64 0, .int .i64 0, .int .i64 3, .int .i64 2, .int .i64 2, .int .i64 2] (0, 0) _ (by rfl) (heap_alloc_new w _) Tryz.underlying33 (by rfl) info_pol) rfl ⟨rfl, (Below.refl _ _).alloc (Nat.le_refl _) _⟩

theorem pt_rd {g : Nat} {cs : Array Value} {t : TypeId} {vs : List Value} (h : cs.toList = vs) : RdIn (pt g (.cells cs t)) (some ⟨g, 0, none⟩) vs := fun w hw j u hu => by
  have q := Rv.Sat.heap hw.one
  refine ⟨_, rfl, ?_⟩
  rw [add_off, cells_of q j]
  rw [← h] at hu
  simpa using hu
def awkP (g1 g2 : Nat) : HP := pt g1 (.cells #[.int .i64 5, .string ⟨#[97]⟩, .int .i64 3, .int .i64 1] 44) * pt g2 (.cells #[.int .i64 7, .string ⟨#[98]⟩, .int .i64 1, .int .i64 0] 44)
theorem awk_facts {w : World} {R : HP} {g1 g2 : Nat} (h : Sat w (awkP g1 g2 * R)) :
    w.cell? ⟨g1, 0, none⟩ = some (.int .i64 5) ∧ w.cell? ⟨g1, 1, none⟩ = some (.string ⟨#[97]⟩) ∧ w.cell? ⟨g1, 2, none⟩ = some (.int .i64 3) ∧ w.cell? ⟨g1, 3, none⟩ = some (.int .i64 1) ∧
    w.cell? ⟨g2, 0, none⟩ = some (.int .i64 7) ∧ w.cell? ⟨g2, 1, none⟩ = some (.string ⟨#[98]⟩) ∧ w.cell? ⟨g2, 2, none⟩ = some (.int .i64 1) ∧ w.cell? ⟨g2, 3, none⟩ = some (.int .i64 0) := by
  unfold awkP at h
  rw [Rv.star_assoc] at h
  have q1 := h.heap
  have q2 := h.right.heap
  exact ⟨(cells_of q1 0).trans rfl, (cells_of q1 1).trans rfl, (cells_of q1 2).trans rfl, (cells_of q1 3).trans rfl, (cells_of q2 0).trans rfl, (cells_of q2 1).trans rfl, (cells_of q2 2).trans rfl, (cells_of q2 3).trans rfl⟩
def AwkMid (R : HP) (w wx : World) (g1 g2 : Nat) (v4 v3 v5 : Value) : Prop :=
  ∃ B C, v3 = .slice B 43 C ∧ v4 = .int .i64 0 ∧ v5 = .int .i64 0 ∧ Sat wx (awkP g1 g2 * (bytesP (.slice B 43 C) encB * R)) ∧ Same w wx

set_option maxHeartbeats 4000000 in
set_option maxRecDepth 100000 in
theorem awake_any (R : HP) (w : World) (hR : Sat w R) : Calls Tryz.prog 7 #[] w fun e w' => e = .returned (.bool true) ∧ Sat w' R ∧ Same w w' := by
  have S3 : Hid (Sat ((w.alloc (.cells #[.int .i64 5, .string ⟨#[97]⟩, .int .i64 3, .int .i64 1] 44)).alloc (.cells #[.int .i64 7, .string ⟨#[98]⟩, .int .i64 1, .int .i64 0] 44)) (awkP w.heap.size (w.heap.size + 1) * R)) := Lib.hid (by
    have h1 := (hR.alloc (.cells #[.int .i64 5, .string ⟨#[97]⟩, .int .i64 3, .int .i64 1] 44)).alloc (.cells #[.int .i64 7, .string ⟨#[98]⟩, .int .i64 1, .int .i64 0] 44)
    rw [World.size_alloc] at h1
    unfold awkP
    exact h1.perm (by ac_rfl))
  have Z3 : Hid (Same w ((w.alloc (.cells #[.int .i64 5, .string ⟨#[97]⟩, .int .i64 3, .int .i64 1] 44)).alloc (.cells #[.int .i64 7, .string ⟨#[98]⟩, .int .i64 1, .int .i64 0] 44))) := Lib.hid (Same.of (((Kept.refl (fun _ => False) w).alloc _).alloc _))
  have HENC : Hid (∀ (wx : World) (gR : Nat) (X : HP), Sat wx (pt gR (.cells #[.int .i64 5, .string ⟨#[97]⟩, .int .i64 3, .int .i64 1, .int .i64 5, .string ⟨#[97]⟩, .int .i64 3, .int .i64 1, .int .i64 7, .string ⟨#[98]⟩, .int .i64 1, .int .i64 0] 44) * X) → Calls Tryz.prog 16 #[.agg #[.int .i64 1, .int .i64 9, .int .i64 1, .int .i64 1, .int .i64 0, .int .i64 0, .int .i64 3, .int .i64 2, .int .i64 2, .int .i64 2], .slice (some ⟨gR, 0, none⟩) 3 3] wx fun e w' => ∃ B C, e = .returned (.tuple #[.slice B 43 C, .int .i64 0, .int .i64 0]) ∧ Sat w' (bytesP (.slice B 43 C) encB * X) ∧ Same wx w') := Lib.hid (by
    intro wx gR X h1
    refine (tencode_any wx (pt gR (.cells #[.int .i64 5, .string ⟨#[97]⟩, .int .i64 3, .int .i64 1, .int .i64 5, .string ⟨#[97]⟩, .int .i64 3, .int .i64 1, .int .i64 7, .string ⟨#[98]⟩, .int .i64 1, .int .i64 0] 44) * X) exP (some ⟨gR, 0, none⟩) [exA, exA, exC] 3 h1 (Rv.RdIn.left (pt_rd rfl)) (by simp) (by simp)).mono ?_
    intro e w' hq
    rw [enc_ok] at hq
    obtain ⟨B, C, rfl, s1, z1⟩ := hq
    rw [enc_len43] at s1 ⊢
    exact ⟨B, C, rfl, s1.drop2, z1⟩)
  clear hR
  go_enter Tryz.func7, Tryz.ntmps7
  go_upto_region 3 with (fail)
  generalize ((w.alloc (.cells #[.int .i64 5, .string ⟨#[97]⟩, .int .i64 3, .int .i64 1] 44)).alloc (.cells #[.int .i64 7, .string ⟨#[98]⟩, .int .i64 1, .int .i64 0] 44)) = w3 at *
  generalize w.heap.size + 1 = g2 at *
  generalize w.heap.size = g1 at *
  have S3d := Lib.hid S3.out.drew
  have Z3d := Lib.hid Z3.out.drew
  have K0 := Lib.hid (awk_facts S3.out)
  go_cut [3, 4, 5] (fun v3 v4 v5 wx => AwkMid R w wx g1 g2 v4 v3 v5)
  case first =>
    refine wp_region_held_drew (S := fun w => w.cell? ⟨g1, 0, none⟩ = some (.int .i64 5) ∧ w.cell? ⟨g1, 1, none⟩ = some (.string ⟨#[97]⟩) ∧ w.cell? ⟨g1, 2, none⟩ = some (.int .i64 3) ∧ w.cell? ⟨g1, 3, none⟩ = some (.int .i64 1) ∧
      w.cell? ⟨g2, 0, none⟩ = some (.int .i64 7) ∧ w.cell? ⟨g2, 1, none⟩ = some (.string ⟨#[98]⟩) ∧ w.cell? ⟨g2, 2, none⟩ = some (.int .i64 1) ∧ w.cell? ⟨g2, 3, none⟩ = some (.int .i64 0)) (by kernel_rfl) K0.out (fun hHeld => ?_)
    refine wpAnyH_take (i := 1) (oi := ⟨some 20, .load 44 (.tmp 1), 44, "law.go:23", #[], none⟩) (v := ?_) rfl (by kernel_rfl) (by kernel_rfl) (by kernel_rfl) (fun _ _ _ h => h) (Or.inl ⟨by rfl, ?_⟩) (by assumption) ?_
    rotate_left
    · intro w hSw
      try dsimp only at hSw
      go_simp
      try with_reducible rfl
    try simp only [Act.put, List.setIfInBounds_toArray, List.set_cons_zero, List.set_cons_succ]
    refine wpAnyH_take (i := 2) (oi := ⟨some 21, .load 44 (.tmp 1), 44, "law.go:23", #[], none⟩) (v := ?_) rfl (by kernel_rfl) (by kernel_rfl) (by kernel_rfl) (fun _ _ _ h => h) (Or.inl ⟨by rfl, ?_⟩) (by assumption) ?_
    rotate_left
    · intro w hSw
      try dsimp only at hSw
      go_simp
      try with_reducible rfl
    try simp only [Act.put, List.setIfInBounds_toArray, List.set_cons_zero, List.set_cons_succ]
    refine wpAnyH_take (i := 3) (oi := ⟨some 22, .load 44 (.tmp 2), 44, "law.go:23", #[], none⟩) (v := ?_) rfl (by kernel_rfl) (by kernel_rfl) (by kernel_rfl) (fun _ _ _ h => h) (Or.inl ⟨by rfl, ?_⟩) (by assumption) ?_
    rotate_left
    · intro w hSw
      try dsimp only at hSw
      go_simp
      try with_reducible rfl
    try simp only [Act.put, List.setIfInBounds_toArray, List.set_cons_zero, List.set_cons_succ]
    refine wpAnyH_ready (rs := [0, 4]) (by kernel_rfl) (by simp) ?_
    refine AllReadyH.cons (o := ⟨some 19, .call { callee := .value (.func 17), args := #[], argTypes := #[] }, 33, "law.go:23", #[], none⟩) rfl (fun K hK => ?_) (AllReadyH.cons (o := ⟨some 23, .buildSlice 34 3 #[(0, .tmp 20), (1, .tmp 21), (2, .tmp 22)], 34, "law.go:23", #[⟨1, .data⟩, ⟨2, .data⟩, ⟨3, .data⟩], none⟩) rfl (fun K hK => ?_) AllReadyH.nil)
    · go_simp
      refine (plain_any _).mono ?_
      rintro e w4 ⟨rfl, b4⟩
      have S4 := Lib.hid (S3d.out.below b4)
      have Z4 := Lib.hid (Z3d.out.then (Rv.Same.below b4))
      have K1 := Lib.hid (awk_facts S4.out)
      refine hK.out _ _ K1.out (fun hHeld2 => ?_)
      clear hK K hHeld b4
      try simp only [Act.put, List.setIfInBounds_toArray, List.set_cons_zero, List.set_cons_succ]
      refine wpAnyH_ready (rs := [4]) (by kernel_rfl) (by simp) ?_
      refine AllReadyH.cons (o := ⟨some 23, .buildSlice 34 3 #[(0, .tmp 20), (1, .tmp 21), (2, .tmp 22)], 34, "law.go:23", #[⟨1, .data⟩, ⟨2, .data⟩, ⟨3, .data⟩], none⟩) rfl (fun K hK => ?_) AllReadyH.nil
      have S5a := S4.out.alloc (.cells #[.int .i64 5, .string ⟨#[97]⟩, .int .i64 3, .int .i64 1, .int .i64 5, .string ⟨#[97]⟩, .int .i64 3, .int .i64 1, .int .i64 7, .string ⟨#[98]⟩, .int .i64 1, .int .i64 0] 44)
      have S5 : Hid (Sat (w4.alloc (.cells #[.int .i64 5, .string ⟨#[97]⟩, .int .i64 3, .int .i64 1, .int .i64 5, .string ⟨#[97]⟩, .int .i64 3, .int .i64 1, .int .i64 7, .string ⟨#[98]⟩, .int .i64 1, .int .i64 0] 44)) (awkP g1 g2 * (pt w4.heap.size (.cells #[.int .i64 5, .string ⟨#[97]⟩, .int .i64 3, .int .i64 1, .int .i64 5, .string ⟨#[97]⟩, .int .i64 3, .int .i64 1, .int .i64 7, .string ⟨#[98]⟩, .int .i64 1, .int .i64 0] 44) * R))) := Lib.hid (S5a.perm (by ac_rfl))
      have Z5 : Hid (Same w (w4.alloc (.cells #[.int .i64 5, .string ⟨#[97]⟩, .int .i64 3, .int .i64 1, .int .i64 5, .string ⟨#[97]⟩, .int .i64 3, .int .i64 1, .int .i64 7, .string ⟨#[98]⟩, .int .i64 1, .int .i64 0] 44))) := Lib.hid (Z4.out.then (Same.of ((Kept.refl (fun _ => False) w4).alloc _)))
      clear S5a
      have K2 := Lib.hid (awk_facts S5.out)
      go_simp
      refine hK.out _ _ K2.out (fun hHeld => ?_)
      clear hK K hHeld2
      try simp only [Act.put, List.setIfInBounds_toArray, List.set_cons_zero, List.set_cons_succ]
      refine wpAnyH_ready (rs := [5]) (by kernel_rfl) (by simp) ?_
      refine AllReadyH.cons (o := ⟨some 24, .call { callee := .value (.func 16), args := #[.tmp 19, .tmp 23], argTypes := #[33, 34] }, 49, "law.go:23", #[⟨0, .data⟩, ⟨4, .data⟩, ⟨0, .chain⟩], none⟩) rfl (fun K hK => ?_) AllReadyH.nil
      go_simp
      refine (HENC.out _ _ _ (S5.out.swap)).mono ?_
      rintro e w6 ⟨B, C, rfl, s6, z6⟩
      have S6 : Hid (Sat w6 (awkP g1 g2 * (bytesP (.slice B 43 C) encB * R))) := Lib.hid (s6.perm (by ac_rfl))
      have Z6 := Lib.hid (Z5.out.then z6)
      have K3 := Lib.hid (awk_facts S6.out)
      refine hK.out _ _ K3.out (fun hHeld2 => ?_)
      clear hK K hHeld s6 z6
      try simp only [Act.put, List.setIfInBounds_toArray, List.set_cons_zero, List.set_cons_succ]
      refine wpAnyH_take (i := 6) (oi := ⟨some 18, .move (.tmp 24), 49, "law.go:23", #[⟨5, .data⟩], none⟩) (v := ?_) rfl (by kernel_rfl) (by kernel_rfl) (by kernel_rfl) (fun _ _ _ h => h) (Or.inl ⟨by rfl, ?_⟩) (by assumption) ?_
      rotate_left
      · intro w hSw
        try dsimp only at hSw
        go_simp
        try with_reducible rfl
      try simp only [Act.put, List.setIfInBounds_toArray, List.set_cons_zero, List.set_cons_succ]
      refine wpAnyH_take (i := 7) (oi := ⟨some 25, .extract (.tmp 18) 0, 22, "law.go:23", #[⟨6, .data⟩], none⟩) (v := ?_) rfl (by kernel_rfl) (by kernel_rfl) (by kernel_rfl) (fun _ _ _ h => h) (Or.inl ⟨by rfl, ?_⟩) (by assumption) ?_
      rotate_left
      · intro w hSw
        try dsimp only at hSw
        go_simp
        try with_reducible rfl
      try simp only [Act.put, List.setIfInBounds_toArray, List.set_cons_zero, List.set_cons_succ]
      refine wpAnyH_take (i := 8) (oi := ⟨some 26, .extract (.tmp 18) 1, 3, "law.go:23", #[⟨6, .data⟩, ⟨10, .gcOnly .lateStores⟩], none⟩) (v := ?_) rfl (by kernel_rfl) (by kernel_rfl) (by kernel_rfl) (fun _ _ _ h => h) (Or.inl ⟨by rfl, ?_⟩) (by assumption) ?_
      rotate_left
      · intro w hSw
        try dsimp only at hSw
        go_simp
        try with_reducible rfl
      try simp only [Act.put, List.setIfInBounds_toArray, List.set_cons_zero, List.set_cons_succ]
      refine wpAnyH_take (i := 9) (oi := ⟨some 27, .extract (.tmp 18) 2, 25, "law.go:23", #[⟨6, .data⟩, ⟨11, .gcOnly .lateStores⟩], none⟩) (v := ?_) rfl (by kernel_rfl) (by kernel_rfl) (by kernel_rfl) (fun _ _ _ h => h) (Or.inl ⟨by rfl, ?_⟩) (by assumption) ?_
      rotate_left
      · intro w hSw
        try dsimp only at hSw
        go_simp
        try with_reducible rfl
      try simp only [Act.put, List.setIfInBounds_toArray, List.set_cons_zero, List.set_cons_succ]
      refine wpAnyH_take (i := 10) (oi := ⟨some 3, .assign (.tmp 25), 22, "law.go:23", #[⟨7, .data⟩, ⟨5, .chain⟩, ⟨0, .phase⟩, ⟨1, .phase⟩, ⟨2, .phase⟩, ⟨3, .phase⟩, ⟨4, .phase⟩, ⟨5, .phase⟩, ⟨6, .phase⟩, ⟨7, .phase⟩, ⟨8, .textOnly .lateStores⟩, ⟨9, .textOnly .lateStores⟩], none⟩) (v := ?_) rfl (by kernel_rfl) (by kernel_rfl) (by kernel_rfl) (fun _ _ _ h => h) (Or.inl ⟨by rfl, ?_⟩) (by assumption) ?_
      rotate_left
      · intro w hSw
        try dsimp only at hSw
        go_simp
        try with_reducible rfl
      try simp only [Act.put, List.setIfInBounds_toArray, List.set_cons_zero, List.set_cons_succ]
      refine wpAnyH_take (i := 11) (oi := ⟨some 4, .assign (.tmp 26), 3, "law.go:23", #[⟨8, .data⟩, ⟨10, .chain⟩, ⟨0, .phase⟩, ⟨1, .phase⟩, ⟨2, .phase⟩, ⟨3, .phase⟩, ⟨4, .phase⟩, ⟨5, .phase⟩, ⟨6, .phase⟩, ⟨7, .phase⟩, ⟨8, .phase⟩, ⟨9, .textOnly .lateStores⟩, ⟨10, .phase⟩], none⟩) (v := ?_) rfl (by kernel_rfl) (by kernel_rfl) (by kernel_rfl) (fun _ _ _ h => h) (Or.inl ⟨by rfl, ?_⟩) (by assumption) ?_
      rotate_left
      · intro w hSw
        try dsimp only at hSw
        go_simp
        try with_reducible rfl
      try simp only [Act.put, List.setIfInBounds_toArray, List.set_cons_zero, List.set_cons_succ]
      refine wpAnyH_take (i := 12) (oi := ⟨some 5, .assign (.tmp 27), 25, "law.go:23", #[⟨9, .data⟩, ⟨11, .chain⟩, ⟨0, .phase⟩, ⟨1, .phase⟩, ⟨2, .phase⟩, ⟨3, .phase⟩, ⟨4, .phase⟩, ⟨5, .phase⟩, ⟨6, .phase⟩, ⟨7, .phase⟩, ⟨8, .phase⟩, ⟨9, .phase⟩, ⟨10, .phase⟩, ⟨11, .phase⟩], none⟩) (v := ?_) rfl (by kernel_rfl) (by kernel_rfl) (by kernel_rfl) (fun _ _ _ h => h) (Or.inl ⟨by rfl, ?_⟩) (by assumption) ?_
      rotate_left
      · intro w hSw
        try dsimp only at hSw
        go_simp
        try with_reducible rfl
      try simp only [Act.put, List.setIfInBounds_toArray, List.set_cons_zero, List.set_cons_succ]
      refine wpAnyH_done (by kernel_rfl) ?_ _
      clear hHeld2
      go_wp2_with fail
      go_meet
      case rel => exact ⟨B, C, rfl, rfl, rfl, S6.out, Z6.out⟩
    · have S4a := S3d.out.alloc (.cells #[.int .i64 5, .string ⟨#[97]⟩, .int .i64 3, .int .i64 1, .int .i64 5, .string ⟨#[97]⟩, .int .i64 3, .int .i64 1, .int .i64 7, .string ⟨#[98]⟩, .int .i64 1, .int .i64 0] 44)
      have S4 : Hid (Sat (w3.drew.alloc (.cells #[.int .i64 5, .string ⟨#[97]⟩, .int .i64 3, .int .i64 1, .int .i64 5, .string ⟨#[97]⟩, .int .i64 3, .int .i64 1, .int .i64 7, .string ⟨#[98]⟩, .int .i64 1, .int .i64 0] 44)) (awkP g1 g2 * (pt w3.drew.heap.size (.cells #[.int .i64 5, .string ⟨#[97]⟩, .int .i64 3, .int .i64 1, .int .i64 5, .string ⟨#[97]⟩, .int .i64 3, .int .i64 1, .int .i64 7, .string ⟨#[98]⟩, .int .i64 1, .int .i64 0] 44) * R))) := Lib.hid (S4a.perm (by ac_rfl))
      have Z4 : Hid (Same w (w3.drew.alloc (.cells #[.int .i64 5, .string ⟨#[97]⟩, .int .i64 3, .int .i64 1, .int .i64 5, .string ⟨#[97]⟩, .int .i64 3, .int .i64 1, .int .i64 7, .string ⟨#[98]⟩, .int .i64 1, .int .i64 0] 44))) := Lib.hid (Z3d.out.then (Same.of ((Kept.refl (fun _ => False) w3.drew).alloc _)))
      clear S4a
      have K1 := Lib.hid (awk_facts S4.out)
      go_simp
      refine hK.out _ _ K1.out (fun hHeld2 => ?_)
      clear hK K hHeld
      try simp only [Act.put, List.setIfInBounds_toArray, List.set_cons_zero, List.set_cons_succ]
      refine wpAnyH_ready (rs := [0]) (by kernel_rfl) (by simp) ?_
      refine AllReadyH.cons (o := ⟨some 19, .call { callee := .value (.func 17), args := #[], argTypes := #[] }, 33, "law.go:23", #[], none⟩) rfl (fun K hK => ?_) AllReadyH.nil
      go_simp
      refine (plain_any _).mono ?_
      rintro e w5 ⟨rfl, b4⟩
      have S5 := Lib.hid (S4.out.below b4)
      have Z5 := Lib.hid (Z4.out.then (Rv.Same.below b4))
      have K2 := Lib.hid (awk_facts S5.out)
      refine hK.out _ _ K2.out (fun hHeld => ?_)
      clear hK K hHeld2 b4
      try simp only [Act.put, List.setIfInBounds_toArray, List.set_cons_zero, List.set_cons_succ]
      refine wpAnyH_ready (rs := [5]) (by kernel_rfl) (by simp) ?_
      refine AllReadyH.cons (o := ⟨some 24, .call { callee := .value (.func 16), args := #[.tmp 19, .tmp 23], argTypes := #[33, 34] }, 49, "law.go:23", #[⟨0, .data⟩, ⟨4, .data⟩, ⟨0, .chain⟩], none⟩) rfl (fun K hK => ?_) AllReadyH.nil
      go_simp
      refine (HENC.out _ _ _ (S5.out.swap)).mono ?_
      rintro e w6 ⟨B, C, rfl, s6, z6⟩
      have S6 : Hid (Sat w6 (awkP g1 g2 * (bytesP (.slice B 43 C) encB * R))) := Lib.hid (s6.perm (by ac_rfl))
      have Z6 := Lib.hid (Z5.out.then z6)
      have K3 := Lib.hid (awk_facts S6.out)
      refine hK.out _ _ K3.out (fun hHeld2 => ?_)
      clear hK K hHeld s6 z6
      try simp only [Act.put, List.setIfInBounds_toArray, List.set_cons_zero, List.set_cons_succ]
      refine wpAnyH_take (i := 6) (oi := ⟨some 18, .move (.tmp 24), 49, "law.go:23", #[⟨5, .data⟩], none⟩) (v := ?_) rfl (by kernel_rfl) (by kernel_rfl) (by kernel_rfl) (fun _ _ _ h => h) (Or.inl ⟨by rfl, ?_⟩) (by assumption) ?_
      rotate_left
      · intro w hSw
        try dsimp only at hSw
        go_simp
        try with_reducible rfl
      try simp only [Act.put, List.setIfInBounds_toArray, List.set_cons_zero, List.set_cons_succ]
      refine wpAnyH_take (i := 7) (oi := ⟨some 25, .extract (.tmp 18) 0, 22, "law.go:23", #[⟨6, .data⟩], none⟩) (v := ?_) rfl (by kernel_rfl) (by kernel_rfl) (by kernel_rfl) (fun _ _ _ h => h) (Or.inl ⟨by rfl, ?_⟩) (by assumption) ?_
      rotate_left
      · intro w hSw
        try dsimp only at hSw
        go_simp
        try with_reducible rfl
      try simp only [Act.put, List.setIfInBounds_toArray, List.set_cons_zero, List.set_cons_succ]
      refine wpAnyH_take (i := 8) (oi := ⟨some 26, .extract (.tmp 18) 1, 3, "law.go:23", #[⟨6, .data⟩, ⟨10, .gcOnly .lateStores⟩], none⟩) (v := ?_) rfl (by kernel_rfl) (by kernel_rfl) (by kernel_rfl) (fun _ _ _ h => h) (Or.inl ⟨by rfl, ?_⟩) (by assumption) ?_
      rotate_left
      · intro w hSw
        try dsimp only at hSw
        go_simp
        try with_reducible rfl
      try simp only [Act.put, List.setIfInBounds_toArray, List.set_cons_zero, List.set_cons_succ]
      refine wpAnyH_take (i := 9) (oi := ⟨some 27, .extract (.tmp 18) 2, 25, "law.go:23", #[⟨6, .data⟩, ⟨11, .gcOnly .lateStores⟩], none⟩) (v := ?_) rfl (by kernel_rfl) (by kernel_rfl) (by kernel_rfl) (fun _ _ _ h => h) (Or.inl ⟨by rfl, ?_⟩) (by assumption) ?_
      rotate_left
      · intro w hSw
        try dsimp only at hSw
        go_simp
        try with_reducible rfl
      try simp only [Act.put, List.setIfInBounds_toArray, List.set_cons_zero, List.set_cons_succ]
      refine wpAnyH_take (i := 10) (oi := ⟨some 3, .assign (.tmp 25), 22, "law.go:23", #[⟨7, .data⟩, ⟨5, .chain⟩, ⟨0, .phase⟩, ⟨1, .phase⟩, ⟨2, .phase⟩, ⟨3, .phase⟩, ⟨4, .phase⟩, ⟨5, .phase⟩, ⟨6, .phase⟩, ⟨7, .phase⟩, ⟨8, .textOnly .lateStores⟩, ⟨9, .textOnly .lateStores⟩], none⟩) (v := ?_) rfl (by kernel_rfl) (by kernel_rfl) (by kernel_rfl) (fun _ _ _ h => h) (Or.inl ⟨by rfl, ?_⟩) (by assumption) ?_
      rotate_left
      · intro w hSw
        try dsimp only at hSw
        go_simp
        try with_reducible rfl
      try simp only [Act.put, List.setIfInBounds_toArray, List.set_cons_zero, List.set_cons_succ]
      refine wpAnyH_take (i := 11) (oi := ⟨some 4, .assign (.tmp 26), 3, "law.go:23", #[⟨8, .data⟩, ⟨10, .chain⟩, ⟨0, .phase⟩, ⟨1, .phase⟩, ⟨2, .phase⟩, ⟨3, .phase⟩, ⟨4, .phase⟩, ⟨5, .phase⟩, ⟨6, .phase⟩, ⟨7, .phase⟩, ⟨8, .phase⟩, ⟨9, .textOnly .lateStores⟩, ⟨10, .phase⟩], none⟩) (v := ?_) rfl (by kernel_rfl) (by kernel_rfl) (by kernel_rfl) (fun _ _ _ h => h) (Or.inl ⟨by rfl, ?_⟩) (by assumption) ?_
      rotate_left
      · intro w hSw
        try dsimp only at hSw
        go_simp
        try with_reducible rfl
      try simp only [Act.put, List.setIfInBounds_toArray, List.set_cons_zero, List.set_cons_succ]
      refine wpAnyH_take (i := 12) (oi := ⟨some 5, .assign (.tmp 27), 25, "law.go:23", #[⟨9, .data⟩, ⟨11, .chain⟩, ⟨0, .phase⟩, ⟨1, .phase⟩, ⟨2, .phase⟩, ⟨3, .phase⟩, ⟨4, .phase⟩, ⟨5, .phase⟩, ⟨6, .phase⟩, ⟨7, .phase⟩, ⟨8, .phase⟩, ⟨9, .phase⟩, ⟨10, .phase⟩, ⟨11, .phase⟩], none⟩) (v := ?_) rfl (by kernel_rfl) (by kernel_rfl) (by kernel_rfl) (fun _ _ _ h => h) (Or.inl ⟨by rfl, ?_⟩) (by assumption) ?_
      rotate_left
      · intro w hSw
        try dsimp only at hSw
        go_simp
        try with_reducible rfl
      try simp only [Act.put, List.setIfInBounds_toArray, List.set_cons_zero, List.set_cons_succ]
      refine wpAnyH_done (by kernel_rfl) ?_ _
      clear hHeld2
      go_wp2_with fail
      go_meet
      case rel => exact ⟨B, C, rfl, rfl, rfl, S6.out, Z6.out⟩
  case rest =>
    rename World => w4
    obtain ⟨B, C, rfl, rfl, rfl, s4, z4⟩ := hcut
    have S4 := Lib.hid s4.swap
    have Z4 := Lib.hid z4
    obtain ⟨A', C', e1, h1, h2, h3⟩ := bytesP_shape s4.right
    injection e1 with e2 e3 e4
    subst e4
    rw [enc_len43] at h1
    have hC : (43 : Int) ≤ (C : Int) := by omega
    clear s4 z4 S3 Z3 S3d Z3d K0 HENC h2 h3 e2 e3
    have HSC : Hid (∀ (wx : World) (n : Nat) (X : HP), n ≤ 43 → Sat wx (bytesP (.slice B 43 C) encB * X) → Calls Tryz.prog 9 #[.slice B n C] wx fun e w' => e = .returned (.tuple #[.int .i64 (scanN (encB.take n) : Int), .int .i64 (scanK (encB.take n) : Int), .agg (fltCells (scanF (encB.take n)))]) ∧ Sat w' (bytesP (.slice B 43 C) encB * X) ∧ Same wx w') := Lib.hid (by
      intro wx n X hn h4
      have hl : (encB.take n).length = n := by rw [List.length_take, enc_len43]; omega
      have h5 := scan_any wx (bytesP (.slice B 43 C) encB * X) B (encB.take n) C h4 (Rv.RdIn.left (by have := (Rv.RdIn.row (e := 5) (A := B) (n := 43) (c := C) (vs := u8s encB)).take n; unfold u8s at this ⊢; rw [List.map_take]; exact this)) (bytesP_own h4).nilcap (by omega) (by omega)
      rw [hl] at h5
      exact h5)
    have HS42 : Hid (∀ (wx : World) (X : HP), Sat wx (bytesP (.slice B 43 C) encB * X) → Calls Tryz.prog 9 #[.slice B 42 C] wx fun e w' => e = .returned (.tuple #[.int .i64 38, .int .i64 2, .agg (fltCells ⟨0, 0⟩)]) ∧ Sat w' (bytesP (.slice B 43 C) encB * X) ∧ Same wx w') := Lib.hid (by
      intro wx X h4
      have h5 := HSC.out wx 42 X (by omega) h4
      rw [ex_a.1, ex_a.2.1, ex_a.2.2] at h5
      exact h5)
    have HS37 : Hid (∀ (wx : World) (X : HP), Sat wx (bytesP (.slice B 43 C) encB * X) → Calls Tryz.prog 9 #[.slice B 37 C] wx fun e w' => e = .returned (.tuple #[.int .i64 23, .int .i64 1, .agg (fltCells ⟨0, 0⟩)]) ∧ Sat w' (bytesP (.slice B 43 C) encB * X) ∧ Same wx w') := Lib.hid (by
      intro wx X h4
      have h5 := HSC.out wx 37 X (by omega) h4
      rw [ex_b.1, ex_b.2.1, ex_b.2.2] at h5
      exact h5)
    have HS0 : Hid (∀ (wx : World) (X : HP), Sat wx X → Calls Tryz.prog 9 #[.slice none 0 0] wx fun e w' => e = .returned (.tuple #[.int .i64 0, .int .i64 0, .agg (fltCells ⟨41, 0⟩)]) ∧ Sat w' X ∧ Same wx w') := Lib.hid (by
      intro wx X h4
      have h5 := scan_any wx X none [] 0 h4 (fun w hw j u hu => by cases hu) (by simp) (by simp) (by simp)
      rw [ex_c.1, ex_c.2.1, ex_c.2.2] at h5
      exact h5)
    clear HSC
    go_wp2_with fail
    refine (HS42.out _ _ S4.out).mono ?_
    rintro e w5 ⟨rfl, s5, z5⟩
    have S5 : Hid (Sat (w5.alloc (.cells (fltCells ⟨0, 0⟩) 27)) (bytesP (.slice B 43 C) encB * (flP w5.heap.size ⟨0, 0⟩ * (awkP g1 g2 * R)))) := Lib.hid ((show Sat _ (flP w5.heap.size ⟨0, 0⟩ * _) from s5.alloc (.cells (fltCells ⟨0, 0⟩) 27)).perm (by ac_rfl))
    have Z5 := Lib.hid ((Z4.out.then z5).then (Same.of ((Kept.refl (fun _ => False) w5).alloc (.cells (fltCells ⟨0, 0⟩) 27))))
    clear s5 z5 S4 Z4
    go_upto_region 8 with (fail)
    generalize w5.alloc (.cells (fltCells ⟨0, 0⟩) 27) = w6 at *
    generalize w5.heap.size = g9 at *
    go_wp2_with fail
    refine (HS37.out _ _ S5.out).mono ?_
    rintro e w7 ⟨rfl, s5, z5⟩
    have S7 : Hid (Sat (w7.alloc (.cells (fltCells ⟨0, 0⟩) 27)) (bytesP (.slice B 43 C) encB * (flP w7.heap.size ⟨0, 0⟩ * (flP g9 ⟨0, 0⟩ * (awkP g1 g2 * R))))) := Lib.hid ((show Sat _ (flP w7.heap.size ⟨0, 0⟩ * _) from s5.alloc (.cells (fltCells ⟨0, 0⟩) 27)).perm (by ac_rfl))
    have Z7 := Lib.hid ((Z5.out.then z5).then (Same.of ((Kept.refl (fun _ => False) w7).alloc (.cells (fltCells ⟨0, 0⟩) 27))))
    clear s5 z5 S5 Z5
    go_upto_region 9 with (fail)
    generalize w7.alloc (.cells (fltCells ⟨0, 0⟩) 27) = w8 at *
    generalize w7.heap.size = g12 at *
    go_wp2_with fail
    refine (HS0.out _ _ S7.out).mono ?_
    rintro e w9 ⟨rfl, s5, z5⟩
    have S9 : Hid (Sat (w9.alloc (.cells (fltCells ⟨41, 0⟩) 27)) (flP w9.heap.size ⟨41, 0⟩ * (flP g12 ⟨0, 0⟩ * (flP g9 ⟨0, 0⟩ * (bytesP (.slice B 43 C) encB * (awkP g1 g2 * R)))))) := Lib.hid ((show Sat _ (flP w9.heap.size ⟨41, 0⟩ * _) from s5.alloc (.cells (fltCells ⟨41, 0⟩) 27)).perm (by ac_rfl))
    have Z9 := Lib.hid ((Z7.out.then z5).then (Same.of ((Kept.refl (fun _ => False) w9).alloc (.cells (fltCells ⟨41, 0⟩) 27))))
    clear s5 z5 S7 Z7
    go_upto_region 10 with (fail)
    generalize w9.alloc (.cells (fltCells ⟨41, 0⟩) 27) = wa at *
    generalize w9.heap.size = g15 at *
    obtain ⟨a0, a1⟩ := flt_facts S9.out
    obtain ⟨b0, b1⟩ := flt_facts S9.out.right
    obtain ⟨c0, c1⟩ := flt_facts S9.out.right.right
    go_wp2_with fail
    go_ret
    exact ⟨rfl, S9.out.right.right.right.right.right, Z9.out⟩
end Go.Proofs.YtcmndglhileeoaaGreat

/- The walk of the law SalvageMore. -/
set_option linter.unusedSimpArgs false
set_option linter.unusedVariables false
namespace Go.Proofs.YtcmndglhileeoaaGreat
open Go.RowKit
open Rv (HP Sat Same pt allOf sat_all RdIn row own Lcl)

theorem scan_code {xs : Rv.Bs} {f : Rv.Fault} (h : Rv.scanned xs = .error f) : f.code ≠ 0 := by
  unfold Rv.scanned at h
  split at h
  · rename_i f' hf
    injection h with h; subst h
    exact pread_code hf
  · cases h
/-- Scan of a beginning. -/
theorem scan_take (wx : World) (R : HP) (A : Option Addr) (xs : Rv.Bs) (c n : Nat) (hR : Sat wx R) (hr : RdIn R A (u8s xs)) (hnil : A = none → c = 0) (hc : xs.length ≤ c) (hm : xs.length ≤ 140737488355328) (hn : n ≤ xs.length) :
    Calls Tryz.prog 9 #[.slice A n c] wx fun e w' => e = .returned (.tuple #[.int .i64 (scanN (xs.take n) : Int), .int .i64 (scanK (xs.take n) : Int), .agg (fltCells (scanF (xs.take n)))]) ∧ Sat w' R ∧ Same wx w' := by
  have hl : (xs.take n).length = n := by rw [List.length_take]; omega
  have h5 := scan_any wx R A (xs.take n) c hR (by have := hr.take n; unfold u8s at this ⊢; rw [List.map_take]; exact this) hnil (by omega) (by omega)
  rw [hl] at h5
  exact h5
theorem decode_take (wx : World) (R : HP) (A : Option Addr) (xs : Rv.Bs) (c n : Nat) (hR : Sat wx R) (hr : RdIn R A (u8s xs)) (hnil : A = none → c = 0) (hc : xs.length ≤ c) (hm : xs.length ≤ 140737488355328) (hn : n ≤ xs.length) :
    Calls Tryz.prog 15 #[.slice A n c] wx (DecRes R wx (Rv.decode (xs.take n))) := by
  have hl : (xs.take n).length = n := by rw [List.length_take]; omega
  have h5 := tdecode_any wx R A (xs.take n) c hR (by have := hr.take n; unfold u8s at this ⊢; rw [List.map_take]; exact this) hnil (by omega) (by omega)
  rw [hl] at h5
  exact h5
def NonNeg (v : Value) (wx w1 : World) : Prop := ∃ n : Int, 0 ≤ n ∧ n ≤ 9223372036854775807 ∧ v = .int .i64 n ∧ wx = w1
theorem rem_nat {n : Int} {len : Nat} (h : 0 ≤ n) : ∃ x : Nat, n % ((len : Int) + 1) = (x : Int) ∧ x ≤ len := by
  have h1 := Int.emod_nonneg n (show ((len : Int) + 1) ≠ 0 by omega)
  have h2 := Int.emod_lt_of_pos n (show 0 < ((len : Int) + 1) by omega)
  exact ⟨(n % ((len : Int) + 1)).toNat, by omega, by omega⟩

set_option maxHeartbeats 4000000 in
set_option maxRecDepth 100000 in
theorem smore_any (R : HP) (A : Option Addr) (xs : Rv.Bs) (c : Nat) (a b : Int) (w : World) (hR : Sat w R) (hr : RdIn R A (u8s xs)) (hnil : A = none → c = 0) (hc : xs.length ≤ c) (hm : xs.length ≤ 140737488355328)
    (ha0 : -9223372036854775808 ≤ a) (ha1 : a ≤ 9223372036854775807) (hb0 : -9223372036854775808 ≤ b) (hb1 : b ≤ 9223372036854775807) (hcm : c ≤ 9223372036854775807) :
    Calls Tryz.prog 5 #[.slice A xs.length c, .int .i64 a, .int .i64 b] w fun e w' => e = .returned (.bool true) ∧ Sat w' R ∧ Same w w' := by
  have HRD := Lib.hid hr
  have HNIL := Lib.hid hnil
  have HR := Lib.hid hR
  clear hr hnil hR
  go_enter Tryz.func5, Tryz.ntmps5
  go_wp2_with fail
  refine (awake_any R w HR.out).mono ?_
  rintro e w1 ⟨rfl, s1, z1⟩
  have S1 := Lib.hid s1
  have Z1 := Lib.hid z1
  clear s1 z1 HR
  go_upto_if 18 with (fail)
  go_cut [1] (fun v wx => NonNeg v wx w1)
  case first =>
    by_cases h : a < 0
    · have e1 : decide (a < 0) = true := by simpa using h
      go_wp2_with fail
      go_meet
      case rel => exact ⟨_, by omega, by omega, rfl, rfl⟩
    · have e1 : decide (a < 0) = false := by simpa using h
      go_wp2_with fail
      go_meet
      case rel => exact ⟨_, by omega, by omega, rfl, rfl⟩
  case rest =>
    rename World => wz
    obtain ⟨n1, hn0, hn1, rfl, rfl⟩ := hcut
    go_upto_if 23 with (fail)
    go_cut [2] (fun v wx => NonNeg v wx wz)
    case first =>
      by_cases h : b < 0
      · have e1 : decide (b < 0) = true := by simpa using h
        go_wp2_with fail
        go_meet
        case rel => exact ⟨_, by omega, by omega, rfl, rfl⟩
      · have e1 : decide (b < 0) = false := by simpa using h
        go_wp2_with fail
        go_meet
        case rel => exact ⟨_, by omega, by omega, rfl, rfl⟩
    case rest =>
      rename World => w2
      obtain ⟨n2, hn2, hn3, rfl, rfl⟩ := hcut
      clear ha0 ha1 hb0 hb1
      obtain ⟨x, hx, hxl⟩ := rem_nat (len := xs.length) hn0
      obtain ⟨y, hy, hyl⟩ := rem_nat (len := xs.length) hn2
      go_upto_region 8 with (fail)
      rw [hx, hy]
      have HX := Lib.hid hx
      have HY := Lib.hid hy
      clear hx hy
      have hcI : (xs.length : Int) ≤ (c : Int) := by omega
      -- the plain part
      have hplain : (scanF (xs.take (min x y))).code ≠ 0 ∧ scanN (xs.take (min x y)) = 0 ∧ scanK (xs.take (min x y)) = 0 ∨
          (scanF (xs.take (min x y))).code = 0 ∧ (scanF (xs.take (max x y))).code = 0 ∧ scanN (xs.take (min x y)) ≤ scanN (xs.take (max x y)) ∧ scanK (xs.take (min x y)) ≤ scanK (xs.take (max x y)) ∧ scanN (xs.take (min x y)) ≤ min x y ∧ scanN (xs.take (max x y)) ≤ max x y ∧
            (scanN (xs.take (min x y)) = scanN (xs.take (max x y)) ↔ scanK (xs.take (min x y)) = scanK (xs.take (max x y))) := by
        cases hs : Rv.scanned (xs.take (min x y)) with
        | error f =>
          left
          unfold scanF scanN scanK
          rw [hs]
          exact ⟨scan_code hs, rfl, rfl⟩
        | ok q =>
          obtain ⟨p, l, n⟩ := q
          obtain ⟨l2, m, h1, h2, h3, h4, h5⟩ := Rv.scan_more (b := xs) (x := min x y) (y := max x y) (by omega) (by omega) hs
          right
          unfold scanF scanN scanK
          rw [hs, h1]
          refine ⟨rfl, rfl, h2, by simp, h3, h4, ?_⟩
          simp only [List.length_append]
          rw [h5]
          constructor
          · rintro rfl; simp
          · intro h; exact List.length_eq_zero_iff.1 (by omega)
      have HSLO := Lib.hid (scan_take w2 R A xs c (min x y) S1.out HRD.out HNIL.out hc hm (by omega))
      have HSHI := Lib.hid (fun (wx : World) (X : HP) (h : Sat wx (X * R)) => scan_take wx (X * R) A xs c (max x y) h (Rv.RdIn.right HRD.out) HNIL.out hc hm (by omega))
      generalize scanN (xs.take (min x y)) = n at *
      generalize scanK (xs.take (min x y)) = k at *
      generalize scanF (xs.take (min x y)) = f at *
      generalize scanN (xs.take (max x y)) = n' at *
      generalize scanK (xs.take (max x y)) = k' at *
      generalize scanF (xs.take (max x y)) = f' at *
      have HPL := Lib.hid hplain
      clear hplain
      go_wp2_with fail
      rw [show (min (x : Int) (y : Int)).toNat = min x y from by omega]
      refine HSLO.out.mono ?_
      rintro e w3 ⟨rfl, s3, z3⟩
      have S3 := Lib.hid (s3.alloc (.cells (fltCells f) 27))
      have Z3 := Lib.hid ((Z1.out.then z3).then (Same.of ((Kept.refl (fun _ => False) w3).alloc (.cells (fltCells f) 27))))
      clear s3 z3 S1 Z1 HSLO
      go_upto_region 9 with (fail)
      generalize w3.alloc (.cells (fltCells f) 27) = w4 at *
      generalize w3.heap.size = g12 at *
      go_wp2_with fail
      rw [show (max (x : Int) (y : Int)).toNat = max x y from by omega]
      refine (HSHI.out w4 _ S3.out).mono ?_
      rintro e w5 ⟨rfl, s5, z5⟩
      have S5 := Lib.hid ((s5.alloc (.cells (fltCells f') 27)))
      have Z5 := Lib.hid ((Z3.out.then z5).then (Same.of ((Kept.refl (fun _ => False) w5).alloc (.cells (fltCells f') 27))))
      clear s5 z5 S3 Z3 HSHI
      go_upto_region 10 with (fail)
      generalize w5.alloc (.cells (fltCells f') 27) = w6 at *
      generalize w5.heap.size = g15 at *
      obtain ⟨a0, a1⟩ := flt_facts S5.out
      obtain ⟨b0, b1⟩ := flt_facts S5.out.right
      rcases HPL.out with ⟨h1, h2, h3⟩ | ⟨h1, h2, h3, h4, h5, h6, h7⟩
      · have e1 : (f.code != 0) = true := by simpa using h1
        subst h2; subst h3
        clear h1
        go_wp2_with fail
        go_ret
        exact ⟨rfl, S5.out.right.right, Z5.out⟩
      · have e1 : (f.code != 0) = false := by rw [h1]; rfl
        have e2 : (f'.code == 0) = true := by rw [h2]; rfl
        have e3 : decide ((n : Int) ≤ (n' : Int)) = true := by simp; omega
        have e4 : decide ((k : Int) ≤ (k' : Int)) = true := by simp; omega
        have e5 : decide ((n : Int) ≤ min (x : Int) (y : Int)) = true := by simp; omega
        have e6 : decide ((n' : Int) ≤ max (x : Int) (y : Int)) = true := by simp; omega
        have e7 : (((n : Int) == (n' : Int)) == ((k : Int) == (k' : Int))) = true := by
          by_cases hn : n = n'
          · have hk := h7.1 hn
            subst hn; subst hk; simp
          · have hk : ¬ k = k' := fun h => hn (h7.2 h)
            have q1 : ((n : Int) == (n' : Int)) = false := by simp; omega
            have q2 : ((k : Int) == (k' : Int)) = false := by simp; omega
            rw [q1, q2]; rfl
        clear h1 h2 h7
        go_wp2_with fail
        go_ret
        exact ⟨rfl, S5.out.right.right, Z5.out⟩
end Go.Proofs.YtcmndglhileeoaaGreat
