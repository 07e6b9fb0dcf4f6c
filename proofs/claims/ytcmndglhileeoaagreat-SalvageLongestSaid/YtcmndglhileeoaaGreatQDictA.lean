/- Walks: slices.Index, dict.ahead. -/
import Derived.Test.YtcmndglhileeoaaGreatQHeap
import Derived.Deep.RegionLaw
set_option linter.unusedSimpArgs false
set_option linter.unusedVariables false
namespace Go.Proofs.YtcmndglhileeoaaGreat
open Go.RowKit

abbrev intv (n : Nat) : Value := .int .i64 (n : Int)

set_option maxHeartbeats 400000 in
theorem index_any (A : Option Addr) (l : List Nat) (c x p : Nat) (w : World) (hr : RdV w A (l.map intv)) (hl : l.length ≤ 4096) (hp : l[p]? = some x) (hno : ∀ j, j < p → l[j]? ≠ some x) :
    Calls Tryz.prog 117 #[.slice A l.length c, .int .i64 (x : Int)] w fun e w' => e = .returned (.int .i64 (p : Int)) ∧ w = w' := by
  have hpl : p < l.length := (List.getElem?_eq_some_iff.1 hp).1
  have Hp := Lib.hid hp
  have Hno := Lib.hid hno
  clear hp hno
  go_enter Tryz.func117, Tryz.ntmps117
  go_wp2
  go_loop [8] (fun i => ∃ k : Nat, i = .int .i64 (k : Int) ∧ k ≤ p) (fun i => p - (intOf i).toNat)
  case atStart => exact ⟨0, rfl, by omega⟩
  case round =>
    obtain ⟨k, rfl, hk⟩ := hrel
    have hkl : k < l.length := by omega
    obtain ⟨y, hy⟩ := some_at hkl
    obtain ⟨ad, rfl, hcell⟩ := hr k (intv y) (by simp [hy])
    by_cases hkp : k = p
    · subst hkp
      have hxy : ((x : Int) == (y : Int)) = true := by
        rw [Hp.out] at hy
        injection hy with hy
        subst hy
        simp
      go_wp2
      go_ret
      exact ⟨rfl, rfl⟩
    · have hxy : ((x : Int) == (y : Int)) = false := by
        rw [beq_eq_false_iff_ne]
        intro e
        exact Hno.out k (by omega) (by rw [hy]; congr 1; omega)
      go_wp2
      exact ⟨⟨k + 1, rfl, by omega⟩, by simp only [intOf]; omega⟩

theorem Kept.of_drew {S : Nat → Prop} {a b : World} {g : Nat} (h : a.drew.grownBy b (some g)) (hS : S g) : Kept S a b :=
  ⟨h.os, h.tape, h.output, h.size, fun i hi hn => h.block i hi (fun e => hn (by injection e with e; rw [e]; exact hS))⟩

/-- copy into a row that is known whole, as one step of a region that draws. -/
theorem step_copy_kept {P : Program} {ops : Array Oper} {o : Oper} {a : Act} {w : World} {K : Act → World → Prop} {Q : Exit → Act → World → Prop} {E : Prop} (hgd : o.guard = none) (d s : Operand) (dT sT : TypeId)
    (ho : o.op = .call { callee := .builtin .copy, args := #[d, s], argTypes := #[dT, sT] }) (elem : TypeId) (hu : P.underlying dT = some (.slice elem)) (hsz : (P.info? elem).map (·.size) = some 1)
    (dp sp : Option Addr) (dLen dCap sLen sCap : Nat) (hd : a.eval d = .slice dp dLen dCap) (hs : a.eval s = .slice sp sLen sCap)
    (g off : Nat) (cur : Array Value) (t : TypeId) (hg : w.heap[g]? = some (.cells cur t (0, 0))) (cs : List Value) (hn : cs.length = Nat.min sLen dLen)
    (hpos : 0 < cs.length → dp = some ⟨g, off, none⟩ ∧ ∃ ad, sp = some ad ∧ ∀ j v, cs[j]? = some v → w.cell? (ad.add j) = some v)
    (hfit : off + cs.length ≤ cur.size) (h1 : ∀ v ∈ cs, v.oneCell' = true)
    (h : ∀ w', RowKit.Hid (w'.heap[g]? = some (.cells (splice cur.toList off cs).toArray t (0, 0))) → RowKit.Hid (w.grownBy w' (some g)) → K (a.put o.dst (goInt cs.length)) w') :
    if Region.wanted o (yielded ops a.tmps) = true then Oper.wp P o a w K Q else E := by
  have hw : Region.wanted o (yielded ops a.tmps) = true := by simp [Region.wanted, hgd]
  rw [if_pos hw]
  by_cases h0 : cs.length = 0
  · obtain rfl : cs = [] := List.eq_nil_of_length_eq_zero h0
    have hrun := run_copy_none (P := P) w dT sT o.type elem dp sp dLen dCap sLen sCap hu hsz (by simpa using hn.symm)
    unfold Oper.wp
    simp [execOp, ho, resolve, invoke, builtin, hd, hs, hrun, Result.andThen]
    exact h w (show _ = _ by simpa [splice] using hg) (show World.grownBy _ _ _ from ⟨rfl, rfl, rfl, Nat.le_refl _, fun _ _ _ => rfl⟩)
  · obtain ⟨rfl, ad, rfl, hsrc⟩ := hpos (by omega)
    have hrun := run_copy_row (P := P) w dT sT o.type elem g off dLen dCap ad sLen sCap cur t cs hu hsz hg hn hsrc (by simpa using hfit) h1
    unfold Oper.wp
    simp [execOp, ho, resolve, invoke, builtin, hd, hs, hrun, Result.andThen]
    exact h _ (show _ = _ by simpa [splice] using setRow_heap w g _ _ t _ hg) (show World.grownBy _ _ _ from ⟨rfl, rfl, rfl, by simp, fun k _ hk => setRow_other w g k _ (fun e => hk (by rw [e]))⟩)

theorem map_eraseIdx {α β : Type} (f : α → β) : ∀ (l : List α) (p : Nat), (l.map f).eraseIdx p = (l.eraseIdx p).map f
  | [], _ => by simp
  | _ :: _, 0 => by simp
  | _ :: r, p + 1 => by simp [map_eraseIdx f r p]

theorem ahead_list {α : Type} (cur : List α) (n p : Nat) (x : α) (hn : n ≤ cur.length) (hp : p < n) (hx : cur[p]? = some x) :
    ((splice cur 1 ((cur.take n).take p)).set 0 x).take n = x :: (cur.take n).eraseIdx p := by
  have hl : ((cur.take n).take p).length = p := by simp; omega
  apply List.ext_getElem?
  intro i
  rw [List.getElem?_take]
  cases i with
  | zero => 
    rw [if_pos (by omega), List.getElem?_set]
    rw [if_pos rfl, if_pos (by rw [length_splice _ _ _ (by rw [hl]; omega)]; omega)]
    rfl
  | succ i =>
    rw [List.getElem?_cons_succ, List.getElem?_set_ne (by omega), List.getElem?_eraseIdx]
    unfold splice
    rw [hl]
    have e1 : (cur.take 1).length = 1 := by simp; omega
    rw [List.getElem?_append_right (by omega), e1]
    simp only [Nat.add_sub_cancel]
    by_cases hip : i < p
    · rw [List.getElem?_append_left (by omega), if_pos hip, List.getElem?_take, if_pos hip, if_pos (by omega)]
    · rw [List.getElem?_append_right (by omega), hl, if_neg hip, List.getElem?_drop, List.getElem?_take, show 1 + p + (i - p) = i + 1 by omega]

set_option maxHeartbeats 4000000 in
set_option maxRecDepth 100000 in
theorem ahead_any (v : Value) (l : List Nat) (p x : Nat) (w : World) (ho : OwnV w 0 3 v (l.map intv)) (hl : l.length ≤ 64) (hx : l[p]? = some x) :
    Calls Tryz.prog 116 #[v, .int .i64 (p : Int)] w fun e w' => e = .returned (.tuple #[]) ∧ OwnV w' 0 3 v ((x :: l.eraseIdx p).map intv) ∧ Kept (fun k => v.ownBlock = some k) w w' := by
  have hp : p < l.length := (List.getElem?_eq_some_iff.1 hx).1
  obtain ⟨A, c, rfl, hc, hcm, hr⟩ := ho.shape
  obtain ⟨g, cur, rfl, _, hg', hg, _, _, _, hs, ht⟩ := ho.row (by simp; omega)
  have hcx : cur.toList[p]? = some (intv x) := by
    have h1 : (cur.toList.take (l.map intv).length)[p]? = some (intv x) := by rw [ht]; simp [hx]
    rw [List.getElem?_take, if_pos (by simpa using hp)] at h1
    exact h1
  have Hx : w.cell? ⟨g, p, none⟩ = some (intv x) := by rw [cells_of hg p, ← Array.getElem?_toList]; exact hcx
  rw [List.length_map] at *
  have Ho := Lib.hid ho
  have Hr := Lib.hid hr
  have Ht := Lib.hid ht
  have Hg := Lib.hid hg
  have Hs := Lib.hid hs
  have Hcx := Lib.hid hcx
  have Hxx := Lib.hid hx
  clear ho hr ht hs hcx hx hg
  have Hfin : ∀ w' : World, w'.heap[g]? = some (.cells ((splice cur.toList 1 ((l.map intv).take p)).set 0 (intv x)).toArray 3 (0, 0)) → OwnV w' 0 3 (.slice (some ⟨g, 0, none⟩) l.length c) ((x :: l.eraseIdx p).map intv) := by
    intro w' hw
    have e : ((x :: l.eraseIdx p).map intv).length = l.length := by simp [List.length_eraseIdx, hp]; omega
    have hcl : l.length ≤ cur.toList.length := by have := Hs.out; simp only [Array.length_toList]; omega
    have := ahead_list cur.toList l.length p (intv x) hcl hp Hcx.out
    rw [Ht.out] at this
    have h2 : ((l.map intv).take p).length = p := by simp; omega
    have r := OwnV.of_row (w := w') (vs := (x :: l.eraseIdx p).map intv) (Nat.zero_le g) hw (by rw [e]; exact hc) hcm (by simp only [List.size_toArray, List.length_set]; rw [length_splice _ _ _ (by rw [h2]; omega), Array.length_toList, Hs.out])
      (by rw [e, List.toList_toArray, this]; simp [map_eraseIdx])
    rw [e] at r
    exact r
  have Hl : Hid (((l.map intv).take p).length = p) := Lib.hid (by simp; omega)
  have h1c : ∀ u ∈ (l.map intv).take p, u.oneCell' = true := fun u hu => by
    obtain ⟨y, _, rfl⟩ := List.mem_map.1 (List.mem_of_mem_take hu)
    rfl
  obtain ⟨cs, hcs⟩ : ∃ cs, cs = (l.map intv).take p := ⟨_, rfl⟩
  rw [← hcs] at Hfin Hl h1c
  have Hcs := Lib.hid hcs
  clear hcs
  go_enter Tryz.func116, Tryz.ntmps116
  go_wp2_with fail
  have hgc : Hid (∀ j v, cs[j]? = some v → w.cell? ((⟨g, 0, none⟩ : Addr).add j) = some v) := Lib.hid (fun j v hv => by
    rw [Hcs.out, List.getElem?_take] at hv
    split at hv
    · obtain ⟨ad, e, hc⟩ := Hr.out j v hv
      injection e with e
      rw [e]; exact hc
    · cases hv)
  have hw1 : IntKind.i64.wrap ((p : Int) + 1) = (p : Int) + 1 := IntWalk.i64_in _ (by omega)
  have hw2 : (0 : Int) ≤ (p : Int) + 1 := by omega
  have hw3 : (p : Int) + 1 ≤ (c : Int) := by omega
  have hw4 : (1 : Int) ≤ max ((p : Int) + 1) 0 := by omega
  have hw10 : (1 : Int) ≤ (p : Int) + 1 := by omega
  have hw5 : ((p : Int) + 1).toNat = p + 1 := by omega
  have hw6 : (p : Int) ≤ (c : Int) := by omega
  have hw7 : p ≤ c := by omega
  by_cases hc1 : c = 1
  · have hp0 : p = 0 := by omega
    subst hp0
    subst hc1
    have hw8 : (IntKind.i64.wrap 1 : Int) = 1 := by decide
    have hw9 : (0 : Int) < (l.length : Int) := by omega
    go_region_law (refine step_copy_kept rfl (.tmp 12) (.tmp 15) 39 39 rfl 3 Tryz.underlying39 (by rfl) _ _ _ _ _ _ (by rfl) (by rfl) g 1 cur 3 Hg.out cs (by rw [Hl.out]; simp) (fun h => by rw [Hl.out] at h; omega) (by rw [Hl.out, Hs.out]; omega) h1c ?_; intro w2 hw2 hk2)
    obtain ⟨y, ys, hy⟩ : ∃ y ys, splice cur.toList 1 cs = y :: ys := by
      cases h : splice cur.toList 1 cs with
      | nil =>
        have h3 := Hs.out
        have h4 := length_splice cur.toList 1 cs (by rw [Hl.out]; simp only [Array.length_toList]; omega)
        rw [h] at h4
        simp only [Array.length_toList, List.length_nil] at h4
        omega
      | cons y ys => exact ⟨y, ys, rfl⟩
    have hy0 : w2.cell? ⟨g, 0, none⟩ = some y := by rw [cells_of hw2.out 0, hy]; rfl
    have hf0 : w2.frozen? ⟨g, 0, none⟩ = false := frozen_of hw2.out 0
    clear hy
    go_wp2_with fail
    exact bodyPost_end (v := .tuple #[]) (by simp [results, Tryz.results116, go_sem]) rfl ⟨rfl, Hfin _ (by
        rw [set_at hw2.out 0]; simp),
      (Kept.of_drew hk2.out (show Value.ownBlock _ = some g from rfl)).setCell ⟨g, 0, none⟩ _ (.inl rfl)⟩
  · have hp1 : 1 < c := by omega
    have hc2 : ¬ c = 1 := hc1
    have hw9 : (0 : Int) < (l.length : Int) := by omega
    go_region_law (refine step_copy_kept rfl (.tmp 12) (.tmp 15) 39 39 rfl 3 Tryz.underlying39 (by rfl) _ _ _ _ _ _ (by rfl) (by rfl) g 1 cur 3 Hg.out cs (by rw [Hl.out]; simp) (fun h => ⟨rfl, _, rfl, hgc.out⟩) (by rw [Hl.out, Hs.out]; omega) h1c ?_; intro w2 hw2 hk2)
    obtain ⟨y, ys, hy⟩ : ∃ y ys, splice cur.toList 1 cs = y :: ys := by
      cases h : splice cur.toList 1 cs with
      | nil =>
        have h3 := Hs.out
        have h4 := length_splice cur.toList 1 cs (by rw [Hl.out]; simp only [Array.length_toList]; omega)
        rw [h] at h4
        simp only [Array.length_toList, List.length_nil] at h4
        omega
      | cons y ys => exact ⟨y, ys, rfl⟩
    have hy0 : w2.cell? ⟨g, 0, none⟩ = some y := by rw [cells_of hw2.out 0, hy]; rfl
    have hf0 : w2.frozen? ⟨g, 0, none⟩ = false := frozen_of hw2.out 0
    clear hy
    go_wp2_with fail
    exact bodyPost_end (v := .tuple #[]) (by simp [results, Tryz.results116, go_sem]) rfl ⟨rfl, Hfin _ (by
        rw [set_at hw2.out 0]; simp),
      (Kept.of_drew hk2.out (show Value.ownBlock _ = some g from rfl)).setCell ⟨g, 0, none⟩ _ (.inl rfl)⟩
end Go.Proofs.YtcmndglhileeoaaGreat
