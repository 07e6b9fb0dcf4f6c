/- What a row's arguments are: a policy, a slice of records that came in. No walk. -/
import Derived.Test.YtcmndglhileeoaaGreatQRow
import Derived.Test.YtcmndglhileeoaaGreatQTapeQ
import Derived.Deep.Slices
import Derived.Deep.Fields
set_option linter.unusedSimpArgs false
set_option linter.unusedVariables false
namespace Go.Proofs.YtcmndglhileeoaaGreat
open Go.ChangeShapes Go.WideShapes Go.ChangeAt Go.RowKit
open Rv (HP)

/-- The kinds of a struct's fields: whole numbers of 64 bits, or a string. -/
def fieldKinds (P : Program) (fs : Array Field) : List Nat := fs.toList.map fun f => match P.underlying f.type with | some (.int .i64) => 1 | some .string => 2 | _ => 0
theorem trod_field {H : Type} {enc : TypeId × Value → H} {P : Program} {w : World} {base : Nat} {spare : Nat → Bool} {held : Bool} {fuel : Nat} {t : TypeId} {cs : List Value} {x : DataW H × List MemPlace} {fs : Array Field}
    (hs : P.underlying t = some (.struct fs)) (hone : Deep.oneCellFields P fs = true) (hz : cs.length = fs.size) (h : DataW.trod enc P w base spare held fuel t cs = some x) (i : Nat) (hi : i < fs.size) :
    ∃ f v y n, fs[i]? = some f ∧ cs[i]? = some v ∧ DataW.trod enc P w base spare held n f.type [v] = some y := by
  obtain ⟨xs, n, rfl, rfl, _, hl, hf⟩ := DataW.trod_struct hs h
  have hfi : fs[i]? = some fs[i] := Array.getElem?_eq_getElem hi
  obtain ⟨o, k⟩ := Deep.hone_of hone i _ hfi
  have h1 := hf i _ hfi
  rw [o, k, List.drop_eq_getElem_cons (by omega), List.take_succ_cons, List.take_zero, List.getElem?_eq_getElem (show i < xs.length by omega)] at h1
  exact ⟨_, _, _, n, hfi, List.getElem?_eq_getElem (by omega), h1⟩
theorem kind_at {P : Program} {fs : Array Field} {ks : List Nat} (h : fieldKinds P fs = ks) {i : Nat} {f : Field} (hf : fs[i]? = some f) : ks[i]? = some (match P.underlying f.type with | some (.int .i64) => 1 | some .string => 2 | _ => 0) := by
  rw [← h]
  unfold fieldKinds
  rw [List.getElem?_map, Array.getElem?_toList, hf]
  rfl
theorem int_field {H : Type} {enc : TypeId × Value → H} {P : Program} {w : World} {base : Nat} {spare : Nat → Bool} {held : Bool} {fuel : Nat} {t : TypeId} {cs : List Value} {x : DataW H × List MemPlace} {fs : Array Field} {ks : List Nat}
    (hs : P.underlying t = some (.struct fs)) (hone : Deep.oneCellFields P fs = true) (hz : cs.length = fs.size) (hk : fieldKinds P fs = ks) (h : DataW.trod enc P w base spare held fuel t cs = some x) (i : Nat) (hi : ks[i]? = some 1) :
    ∃ n, cs[i]? = some (.int .i64 n) := by
  have hl : ks.length = fs.size := by rw [← hk]; simp [fieldKinds]
  obtain ⟨f, v, y, n, hf, hv, ht⟩ := trod_field hs hone hz h i (by have := (List.getElem?_eq_some_iff.1 hi).1; omega)
  have h1 := kind_at hk hf
  rw [hi] at h1
  injection h1 with h1
  split at h1
  · rename_i e
    obtain ⟨m, h2, _⟩ := DataW.trod_int e ht
    injection h2 with h2
    exact ⟨m, by rw [hv, h2]⟩
  · cases h1
  · cases h1
theorem string_field {H : Type} {enc : TypeId × Value → H} {P : Program} {w : World} {base : Nat} {spare : Nat → Bool} {held : Bool} {fuel : Nat} {t : TypeId} {cs : List Value} {x : DataW H × List MemPlace} {fs : Array Field} {ks : List Nat}
    (hs : P.underlying t = some (.struct fs)) (hone : Deep.oneCellFields P fs = true) (hz : cs.length = fs.size) (hk : fieldKinds P fs = ks) (h : DataW.trod enc P w base spare held fuel t cs = some x) (i : Nat) (hi : ks[i]? = some 2) :
    ∃ s, cs[i]? = some (.string s) := by
  have hl : ks.length = fs.size := by rw [← hk]; simp [fieldKinds]
  obtain ⟨f, v, y, n, hf, hv, ht⟩ := trod_field hs hone hz h i (by have := (List.getElem?_eq_some_iff.1 hi).1; omega)
  have h1 := kind_at hk hf
  rw [hi] at h1
  injection h1 with h1
  split at h1
  · cases h1
  · rename_i e
    obtain ⟨m, h2, _⟩ := DataW.trod_string e ht
    injection h2 with h2
    exact ⟨m, by rw [hv, h2]⟩
  · cases h1
theorem list4 {cs : List Value} {a b c d : Value} (hz : cs.length = 4) (h0 : cs[0]? = some a) (h1 : cs[1]? = some b) (h2 : cs[2]? = some c) (h3 : cs[3]? = some d) : cs = [a, b, c, d] := by
  match cs, hz with
  | [x0, x1, x2, x3], _ => simp at h0 h1 h2 h3; subst h0 h1 h2 h3; rfl
theorem list10 {cs : List Value} {a b c d e f g h i j : Value} (hz : cs.length = 10) (h0 : cs[0]? = some a) (h1 : cs[1]? = some b) (h2 : cs[2]? = some c) (h3 : cs[3]? = some d) (h4 : cs[4]? = some e) (h5 : cs[5]? = some f) (h6 : cs[6]? = some g) (h7 : cs[7]? = some h) (h8 : cs[8]? = some i) (h9 : cs[9]? = some j) :
    cs = [a, b, c, d, e, f, g, h, i, j] := by
  match cs, hz with
  | [x0, x1, x2, x3, x4, x5, x6, x7, x8, x9], _ => simp at h0 h1 h2 h3 h4 h5 h6 h7 h8 h9; subst h0 h1 h2 h3 h4 h5 h6 h7 h8 h9; rfl
theorem cells_pol : Tryz.prog.cellsOf 33 = 10 := by kernel_rfl
theorem cells_rec : Tryz.prog.cellsOf 44 = 4 := by kernel_rfl
def fieldsAt (P : Program) (t : TypeId) : Array Field := match P.underlying t with | some (.struct fs) => fs | _ => #[]
theorem fieldsAt_of {P : Program} {t : TypeId} (h : (match P.underlying t with | some (.struct _) => true | _ => false) = true) : P.underlying t = some (.struct (fieldsAt P t)) := by
  unfold fieldsAt
  split at h
  · rename_i fs e; rw [e]
  · cases h
theorem pol_fields : Tryz.prog.underlying 33 = some (.struct (fieldsAt Tryz.prog 33)) := fieldsAt_of (by kernel_rfl)
theorem pol_one : Deep.oneCellFields Tryz.prog (fieldsAt Tryz.prog 33) = true := by kernel_rfl
theorem pol_size : (fieldsAt Tryz.prog 33).size = 10 := by kernel_rfl
theorem pol_kinds : fieldKinds Tryz.prog (fieldsAt Tryz.prog 33) = [1, 1, 1, 1, 1, 1, 1, 1, 1, 1] := by kernel_rfl
theorem rec_fields : Tryz.prog.underlying 44 = some (.struct (fieldsAt Tryz.prog 44)) := fieldsAt_of (by kernel_rfl)
theorem rec_one : Deep.oneCellFields Tryz.prog (fieldsAt Tryz.prog 44) = true := by kernel_rfl
theorem rec_size : (fieldsAt Tryz.prog 44).size = 4 := by kernel_rfl
theorem rec_kinds : fieldKinds Tryz.prog (fieldsAt Tryz.prog 44) = [1, 2, 1, 1] := by kernel_rfl

set_option maxRecDepth 100000 in
/-- A policy that came in. -/
theorem open_pol {H : Type} {enc : TypeId × Value → H} {W : World} {base : Nat} {d : DataW H} {ps : List MemPlace} {v : Value} (hv : Value.okWide Tryz.prog W .any base 33 v)
    (h : DataW.Trod enc Tryz.prog W 0 (fun _ => true) true 33 v d ps) : ∃ p, v = .agg (polCells p) := by
  obtain ⟨cs, rfl, hz⟩ := okWide_struct pol_fields hv
  obtain ⟨fuel, hf⟩ := h
  have hl : cs.toList.length = 10 := by rw [Array.length_toList, hz, cells_pol]
  have key := fun i hi => int_field (i := i) pol_fields pol_one (by rw [pol_size]; exact hl) pol_kinds (cs := cs.toList) hf hi
  obtain ⟨n0, h0⟩ := key 0 rfl
  obtain ⟨n1, h1⟩ := key 1 rfl
  obtain ⟨n2, h2⟩ := key 2 rfl
  obtain ⟨n3, h3⟩ := key 3 rfl
  obtain ⟨n4, h4⟩ := key 4 rfl
  obtain ⟨n5, h5⟩ := key 5 rfl
  obtain ⟨n6, h6⟩ := key 6 rfl
  obtain ⟨n7, h7⟩ := key 7 rfl
  obtain ⟨n8, h8⟩ := key 8 rfl
  obtain ⟨n9, h9⟩ := key 9 rfl
  have e := list10 hl h0 h1 h2 h3 h4 h5 h6 h7 h8 h9
  exact ⟨⟨n0, n1, n2, n3, n4, n5, n6, n7, n8, n9⟩, congrArg Value.agg (Array.toList_inj.1 (by rw [e]))⟩

theorem recsV_inv : ∀ (l : List Rv.Rec) (j : Nat) (u : Value), (recsV l)[j]? = some u → ∃ r, l[j / 4]? = some r ∧ (recCells r).toList[j % 4]? = some u
  | [], j, u, h => by simp [recsV] at h
  | r :: l, j, u, h => by
    have e : recsV (r :: l) = (recCells r).toList ++ recsV l := by unfold recsV; simp
    rw [e] at h
    by_cases hj : j < 4
    · rw [List.getElem?_append_left (by simpa using hj)] at h
      refine ⟨r, ?_, ?_⟩
      · rw [Nat.div_eq_of_lt hj]; rfl
      · rw [Nat.mod_eq_of_lt hj]; exact h
    · rw [List.getElem?_append_right (by simp; omega)] at h
      obtain ⟨r', h1, h2⟩ := recsV_inv l _ u h
      have e4 : (recCells r).toList.length = 4 := rfl
      rw [e4] at h1 h2
      refine ⟨r', ?_, ?_⟩
      · rw [show j / 4 = (j - 4) / 4 + 1 by omega]; exact h1
      · rw [show j % 4 = (j - 4) % 4 by omega]; exact h2

instance : Inhabited Rv.Rec := inferInstance
set_option maxRecDepth 100000 in
/-- Records that came in. -/
theorem open_recs {H : Type} {enc : TypeId × Value → H} {W : World} {base : Nat} {d : DataW H} {ps : List MemPlace} {v : Value} (hv : Value.okWide Tryz.prog W .any base 34 v)
    (h : DataW.Trod enc Tryz.prog W 0 (fun _ => true) true 34 v d ps) :
    ∃ A l c, v = .slice A (l : List Rv.Rec).length c ∧ RdV W A (recsV l) ∧ (A = none → c = 0) ∧ l.length ≤ c ∧ (d = .nil ∧ l = [] ∨ ∃ el sp, d = .slice el sp ∧ el.length = l.length) := by
  obtain ⟨a, len, cap, rfl⟩ := okWide_slice Tryz.underlying34 hv
  obtain ⟨fuel, hf⟩ := h
  rcases Deep.open_slice Tryz.underlying34 hf with ⟨hcs, hx⟩ | ⟨x, ln, c, m, n, D, Pl, hcs, _, hl, _, hmm, hx, hel⟩
  · simp [Value.cells] at hcs
    obtain ⟨rfl, rfl, rfl⟩ := hcs
    exact ⟨none, [], 0, rfl, fun j u hu => by simp [recsV] at hu, fun _ => rfl, Nat.le_refl _, Or.inl ⟨(Prod.mk.inj hx).1, rfl⟩⟩
  · simp [Value.cells] at hcs
    obtain ⟨rfl, rfl, rfl⟩ := hcs
    simp only [if_true] at hmm
    subst hmm
    obtain ⟨rs, hrs⟩ := Deep.choose_lt (α := Rv.Rec) (n := len) (p := fun i r => ∀ j u, (recCells r).toList[j]? = some u → W.cell? (x.add (i * 4 + j)) = some u) (fun i hi => by
      obtain ⟨cs', h1, h2⟩ := hel i (by omega)
      rw [cells_rec] at h1
      obtain ⟨_, hlen, hcell⟩ := World.cells?_some h1
      have hz : cs'.length = (fieldsAt Tryz.prog 44).size := by rw [rec_size]; exact hlen
      obtain ⟨n0, g0⟩ := int_field rec_fields rec_one hz rec_kinds h2 0 rfl
      obtain ⟨n1, g1⟩ := string_field rec_fields rec_one hz rec_kinds h2 1 rfl
      obtain ⟨n2, g2⟩ := int_field rec_fields rec_one hz rec_kinds h2 2 rfl
      obtain ⟨n3, g3⟩ := int_field rec_fields rec_one hz rec_kinds h2 3 rfl
      have e := list4 hlen g0 g1 g2 g3
      refine ⟨⟨n0, n1, n2, n3⟩, fun j u hu => ?_⟩
      have hj : j < 4 := (List.getElem?_eq_some_iff.1 hu).1
      rw [← Deep.add_add, hcell j hj, e]
      exact hu)
    refine ⟨some x, (List.range len).map rs, m, by rw [List.length_map, List.length_range], ?_, by simp, by simpa using hl, Or.inr ⟨_, _, (Prod.mk.inj hx).1, by simp⟩⟩
    intro j u hu
    obtain ⟨r, h1, h2⟩ := recsV_inv _ j u hu
    have hi : j / 4 < len := by simpa using (List.getElem?_eq_some_iff.1 h1).1
    rw [List.getElem?_map, List.getElem?_range hi, Option.map_some] at h1
    injection h1 with h1
    have h3 := hrs (j / 4) hi (j % 4) u (by rw [h1]; exact h2)
    rw [show j / 4 * 4 + j % 4 = j by omega] at h3
    exact ⟨x, rfl, h3⟩
end Go.Proofs.YtcmndglhileeoaaGreat
