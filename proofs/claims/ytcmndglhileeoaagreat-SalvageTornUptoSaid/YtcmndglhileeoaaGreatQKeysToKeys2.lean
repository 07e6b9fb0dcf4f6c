/- A part of the proof: its texts in a row: Keys, Keys2. Each text's own remark stands at its head. -/
import Derived.Test.YtcmndglhileeoaaGreatQLedgerFToLedgerG
import Derived.Test.YtcmndglhileeoaaGreatLay
/- The walks of package ledger: Keys: over the shelf's contracts of maps.Keys and slices.Sorted. -/
set_option linter.unusedSimpArgs false
set_option linter.unusedVariables false
namespace Go.Proofs.YtcmndglhileeoaaGreat
open Go.RowKit Go.Maps Go.Sort Go.Shelf Go.Proofs
open Rv (HP Sat Same pt allOf sat_all RdIn row own findE SMap)

/-- slices.Sort's two contracts at this dump, at the fence that asks nothing. -/
theorem sorts_all (m : Nat) : AnyZ.SortsIn Tryz.prog Tryz.sorted121_ren Fence.wide m :=
  ⟨fun blk off cap ss W hH hblk hsz => callsIn_wide.2 (AnyM.slices_Sort_string Tryz.sort144 blk off cap ss W hH hblk hsz),
   fun p cap W => callsIn_wide.2 (AnyM.slices_Sort_string_none Tryz.sort144 p cap W)⟩

/-- **maps.Keys[map[string]reeve/ledger.debt,string,reeve/ledger.debt], at whatever map, the nil one too:** a function value over ONE NEW BLOCK, which holds the map. -/
theorem maps_Keys_all (mb : Option Nat) (W : World) : CallsIn Fence.wide 5 Tryz.prog 122 #[.map mb] W fun e w' => e = .returned (.func (.func 145) #[] #[.pointer (some ⟨W.heap.size, 0, none⟩)]) ∧ w' = W.alloc (.cells #[.map mb] 154) :=
  AnyZ.keys_in Tryz.keys122 Fence.wide 5 trivial rfl mb W

set_option maxHeartbeats 1000000 in
/-- **slices.Sorted[string] AT WHAT maps.Keys[map[string]reeve/ledger.debt,string,reeve/ledger.debt] HANDED BACK FOR A MAP THAT IS NOT nil** ('w': the world AHEAD of maps.Keys' call): A NEW SLICE THAT HOLDS THE MAP's KEYS, SORTED; nil just where it has none; nothing that lay before has turned. -/
theorem slices_Sorted_keys_all {H : Type} (b nn : Nat) (D0 : DataW H) (R : Value → Option (DataW H × List MemPlace)) (w : World) (hown : w.ownsMap Tryz.prog 9 R b nn D0) (hmax : Maps.size D0 ≤ maxLen) (hbytes : Maps.size D0 * 16 ≤ 140737488355328) :
    CallsIn Fence.wide 5 Tryz.prog 121 #[.func (.func 145) #[] #[.pointer (some ⟨w.heap.size, 0, none⟩)]] (w.alloc (.cells #[.map (some b)] 154)) fun e w' => ∃ (v : Value) (ss : List (List UInt8)), e = .returned v ∧ ss.Perm (strKeys D0) ∧
      w'.ownsRow (w.alloc (.cells #[.map (some b)] 154)).heap.size 9 1 v ss.length ((ss.mergeSort (fun x y => decide (x ≤ y))).map encStr) ∧ (v = .slice none 0 0 ↔ ss = []) ∧ Below (w.alloc (.cells #[.map (some b)] 154)).heap.size (w.alloc (.cells #[.map (some b)] 154)) w' := by
  have hbl := hown.lt
  have hseq : SeqGives Fence.wide 2 Tryz.prog 145 #[.pointer (some ⟨w.heap.size, 0, none⟩)] encStr (fun ss => ss.Perm (strKeys D0)) (Maps.size D0) (w.alloc (.cells #[.map (some b)] 154)) :=
    AnyZ.keys_gives (ρ := Tryz.keys122_ren) { Tryz.keys122 with } Fence.wide _ trivial rfl (by omega) w.heap.size b nn D0 _ (by simp) (by simp) (by
      obtain ⟨es, clock, hb, Ft, hs, hD⟩ := hown
      exact ⟨es, clock, (Below.heap_alloc _ _ b hbl).trans hb, Ft, hs, hD⟩)
  exact AnyZ.sorted_in Tryz.sorted121 Fence.wide 5 trivial trivial trivial trivial rfl (by omega) (sorts_all _) (enters_of Tryz.func144 (by kernel_rfl) rfl) 145 #[.pointer (some ⟨w.heap.size, 0, none⟩)] trivial (enters_of Tryz.func145 (by kernel_rfl) rfl) _ _ hmax hbytes _ hseq

end Go.Proofs.YtcmndglhileeoaaGreat

/- The walk of package ledger: Keys. -/
set_option linter.unusedSimpArgs false
set_option linter.unusedVariables false
namespace Go.Proofs.YtcmndglhileeoaaGreat
open Go.RowKit Go.Maps Go.Sort Go.Shelf Go.Proofs
open Rv (HP Sat Same pt allOf sat_all RdIn row own findE SMap)

def kb (x : MapEntry) : List UInt8 := match x.key with | .string s => s.data.toList | _ => []
/-- An element is read as nothing: the keys alone are asked for. -/
def noElem : Value → Option (DataW Unit × List MemPlace) := fun _ => some (.nil, [])

theorem mem_es_iff {Q : HP} {l : Rv.Ledger} {es : Array MapEntry} {clock : Nat} (h : LOk Q l es clock) (k : List UInt8) : k ∈ es.toList.map kb ↔ k ∈ l.of.map (fun e => e.1.data.toList) := by
  constructor
  · intro hk
    obtain ⟨x, hx, rfl⟩ := List.mem_map.1 hk
    obtain ⟨s, hs⟩ := h.fit.keys x hx
    have hr := h.rel s
    rw [Rv.findE_of h.fit.nodup hx hs] at hr
    cases hg : l.of.get? s with
    | none => rw [hg] at hr; exact hr.elim
    | some d =>
      refine List.mem_map.2 ⟨(s, d), Rv.get_mem hg, ?_⟩
      unfold kb; rw [hs]
  · intro hk
    obtain ⟨⟨s, d⟩, hx, rfl⟩ := List.mem_map.1 hk
    have hg := Rv.get_of h.sorted hx
    have hr := h.rel s
    rw [hg] at hr
    cases hf : findE es.toList s with
    | none => rw [hf] at hr; exact hr.elim
    | some v =>
      obtain ⟨y, hy, hs, -⟩ := Rv.findE_some hf
      refine List.mem_map.2 ⟨y, hy, ?_⟩
      unfold kb; rw [hs]
theorem es_nodup {es : Array MapEntry} {clock : Nat} (h : SMap es clock) : (es.toList.map kb).Nodup := by
  rw [List.nodup_iff_pairwise_ne, List.pairwise_map]
  refine List.Pairwise.imp_of_mem ?_ h.nodup
  intro a b ha hb hne e
  obtain ⟨s, hs⟩ := h.keys a ha
  obtain ⟨t, ht⟩ := h.keys b hb
  unfold kb at e
  rw [hs, ht] at e
  exact hne (by rw [hs, ht, Rv.key_ext e])
theorem of_nodup {l : Rv.Owed} (h : Rv.Sorted l) : (l.map (fun e => e.1.data.toList)).Nodup := by
  rw [List.nodup_iff_pairwise_ne, List.pairwise_map]
  refine List.Pairwise.imp ?_ h
  intro a b hab e
  rw [Rv.key_ext e, Rv.keyLt_irrefl] at hab
  cases hab
theorem es_perm {Q : HP} {l : Rv.Ledger} {es : Array MapEntry} {clock : Nat} (h : LOk Q l es clock) : (es.toList.map kb).Perm (l.of.map (fun e => e.1.data.toList)) :=
  (List.perm_ext_iff_of_nodup (es_nodup h.fit) (of_nodup h.sorted)).2 (mem_es_iff h)
theorem es_size {Q : HP} {l : Rv.Ledger} {es : Array MapEntry} {clock : Nat} (h : LOk Q l es clock) : es.size = l.of.length := by
  have := (es_perm h).length_eq
  simpa using this
theorem of_merge {l : Rv.Owed} (h : Rv.Sorted l) : (l.map (fun e => e.1.data.toList)).mergeSort leB = l.map (fun e => e.1.data.toList) := by
  refine List.mergeSort_of_pairwise ?_
  rw [List.pairwise_map]
  refine List.Pairwise.imp ?_ h
  intro a b hab
  have h1 := (Rv.keyLt_iff _ _).1 hab
  simp only [leB, decide_eq_true_eq]
  exact List.le_of_lt h1
theorem owns_keys {Q : HP} {l : Rv.Ledger} {es : Array MapEntry} {clock : Nat} (h : LOk Q l es clock) {w : World} {bm : Nat} (hb : w.heap[bm]? = some (.map es clock)) (hn : l.of.length ≤ 100000) :
    w.ownsMap Tryz.prog 9 noElem bm es.size (.map ((es.toList.map (Go.WideElems.rg Tryz.prog 9 noElem)).foldr DataW.insert [])) := by
  have hsz := es_size h
  refine ⟨es, clock, hb, ⟨by simp only [maxLen]; omega, ?_, fun x hx => ?_⟩, Nat.le_refl _, rfl⟩
  · rw [Go.MapKept.stamped_iff]
    exact ⟨h.fit.low, List.nodup_iff_pairwise_ne.2 (List.Pairwise.map _ (fun a b h => Nat.ne_of_lt h) h.fit.born), h.fit.nodup⟩
  · obtain ⟨s, hs⟩ := h.fit.keys x hx
    have hm : kb x ∈ l.of.map (fun e => e.1.data.toList) := (mem_es_iff h _).1 (List.mem_map.2 ⟨x, hx, rfl⟩)
    obtain ⟨⟨t, d⟩, hy, he⟩ := List.mem_map.1 hm
    have hst : t = s := by unfold kb at he; rw [hs] at he; exact Rv.key_ext he
    have hl := (h.keys _ hy).2
    simp only [hst] at hl
    refine ⟨(.string s.data.toList, .nil), ?_⟩
    unfold Go.WideElems.rd
    rw [hs]
    simp only [keyOf, Tryz.underlying9, mapKey]
    rw [if_pos (by simp only [maxLen]; omega)]
    rfl
theorem str_keys {Q : HP} {l : Rv.Ledger} {es : Array MapEntry} {clock : Nat} (h : LOk Q l es clock) :
    (strKeys (H := Unit) (.map ((es.toList.map (Go.WideElems.rg Tryz.prog 9 noElem)).foldr DataW.insert []))).Perm (l.of.map (fun e => e.1.data.toList)) := by
  unfold strKeys
  refine ((Go.WideShapes.sorted_perm _).map _).trans ?_
  rw [List.map_map]
  refine List.Perm.trans (List.Perm.of_eq ?_) (es_perm h)
  refine List.map_congr_left (fun x hx => ?_)
  obtain ⟨s, hs⟩ := h.fit.keys x hx
  have hm : kb x ∈ l.of.map (fun e => e.1.data.toList) := (mem_es_iff h _).1 (List.mem_map.2 ⟨x, hx, rfl⟩)
  obtain ⟨⟨t, d⟩, hy, he⟩ := List.mem_map.1 hm
  have hst : t = s := by unfold kb at he; rw [hs] at he; exact Rv.key_ext he
  have hl := (h.keys _ hy).2
  simp only [hst] at hl
  have hk : keyOf Tryz.prog 9 (.string s) = some (.string s.data.toList) := by
    simp only [keyOf, Tryz.underlying9, mapKey]
    exact if_pos (by simp only [maxLen]; omega)
  have hr : Go.WideElems.rd Tryz.prog 9 noElem x = some (.string s.data.toList, .nil) := by
    unfold Go.WideElems.rd
    rw [hs, hk]
    rfl
  have hg : Go.WideElems.rg Tryz.prog 9 noElem x = (.string s.data.toList, .nil) := by
    unfold Go.WideElems.rg
    rw [hr]
    rfl
  simp only [Function.comp, hg, strOf]
  unfold kb
  rw [hs]

set_option maxHeartbeats 1000000 in
set_option maxRecDepth 100000 in
theorem lkeys_any (w : World) (Q R : HP) (g bm : Nat) (l : Rv.Ledger) (es : Array MapEntry) (clock : Nat) (hl : LOk Q l es clock) (h : Sat w (ledBox g l bm * (mapBox bm es clock * R))) (hn : l.of.length ≤ 100000) :
    Calls Tryz.prog 91 #[.pointer (some ⟨g, 0, none⟩)] w fun e w' => ∃ B c, e = .returned (.slice B l.of.length c) ∧ Sat w' (row 9 (.slice B l.of.length c) (l.of.map fun e => .string e.1) * (ledBox g l bm * (mapBox bm es clock * R))) ∧ Same w w' := by
  have d11 : w.cell? ⟨g, 11, none⟩ = some (.map (some bm)) := by rw [cells_of (led_cells h)]; rfl
  have hown := owns_keys hl (Rv.Sat.heap (o := .map es clock) h.right) hn
  have hsz : Maps.size (.map ((es.toList.map (Go.WideElems.rg Tryz.prog 9 noElem)).foldr DataW.insert [])) = l.of.length := by
    have := (str_keys hl).length_eq
    simpa [strKeys, Maps.size] using this
  have HS := Lib.hid (callsIn_wide.1 (slices_Sorted_keys_all bm es.size _ noElem w hown (by rw [hsz]; simp only [maxLen]; omega) (by rw [hsz]; omega)))
  have HK := Lib.hid (callsIn_wide.1 (maps_Keys_all (some bm) w))
  have HP := Lib.hid (str_keys hl)
  have HM := Lib.hid (of_merge hl.sorted)
  have H := Lib.hid h
  clear hown hsz h
  go_enter Tryz.func91, Tryz.ntmps91
  go_wp2_with fail
  refine HK.out.mono ?_
  rintro e w' ⟨rfl, rfl⟩
  go_wp2_with fail
  refine HS.out.mono ?_
  rintro e w2 ⟨v, ss, rfl, hp, hrow, -, hb⟩
  have hmm : ss.mergeSort leB = l.of.map (fun e => e.1.data.toList) := by rw [mergeSort_of_perm (hp.trans HP.out)]; exact HM.out
  have hlen : ss.length = l.of.length := by have := (hp.trans HP.out).length_eq; simpa using this
  have hvs : (ss.mergeSort leB).map encStr = l.of.map (fun e => Value.string e.1) := by
    rw [hmm, List.map_map]
    refine List.map_congr_left (fun e _ => ?_)
    simp [encStr]
  have ho : OwnV w2 w.heap.size 9 v (l.of.map (fun e => Value.string e.1)) := by
    unfold OwnV
    rw [List.length_map, ← hvs, ← hlen]
    exact Go.Proofs.ownsRow_base_a hrow (by simp)
  obtain ⟨B, c, rfl, -, -, -⟩ := ho.shape
  rw [List.length_map] at ho ⊢
  have bw : Below w.heap.size w w2 := below_then ((Below.refl _ _).alloc (Nat.le_refl _) _) (by simp) hb
  have S2 := Lib.hid (H.out.row_new bw (ho.mono (Nat.zero_le _)) (fun k hk => (ho.block k hk).1))
  clear ho hvs hlen hmm hp hrow hb
  go_wp2_with fail
  go_ret
  exact ⟨B, c, rfl, S2.out, Rv.Same.below bw⟩
end Go.Proofs.YtcmndglhileeoaaGreat
