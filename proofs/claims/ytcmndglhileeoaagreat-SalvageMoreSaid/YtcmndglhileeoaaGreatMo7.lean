/- A part of the proof (RowMore): its texts in a row: Keys, Keys2, Bytes, TapeA, Read, Read2, Get. Each text's own remark stands at its head. -/
import Derived.Test.YtcmndglhileeoaaGreatMo6
import Derived.Test.YtcmndglhileeoaaGreatLay
/- The walks of package ledger: Keys: over the shelf's contracts of maps.Keys and slices.Sorted. -/
set_option linter.unusedSimpArgs false
set_option linter.unusedVariables false
namespace Go.Proofs.YtcmndglhileeoaaGreat
open Go.RowKit Go.Maps Go.Sort Go.Shelf Go.Proofs
open Rv (HP Sat Same pt allOf sat_all RdIn row own findE SMap)

/-- slices.Sort's two contracts at this dump, at the fence that asks nothing. -/
theorem sorts_all (m : Nat) : AnyZ.SortsIn Tryz.prog Tryz.sorted121_ren Fence.wide m :=
  ⟨fun blk off cap ss W hH hblk hsz => callsIn_wide.2 (AnyM.slices_Sort_string Tryz.sort144 blk off cap ss W hH hblk hsz),
   fun p cap W => callsIn_wide.2 (AnyM.slices_Sort_string_none Tryz.sort144 p cap W)⟩

/-- **maps.Keys[map[string]reeve/ledger.debt,string,reeve/ledger.debt], at whatever map, the nil one too:** a function value over ONE NEW BLOCK, which holds the map. -/
theorem maps_Keys_all (mb : Option Nat) (W : World) : CallsIn Fence.wide 5 Tryz.prog 122 #[.map mb] W fun e w' => e = .returned (.func (.func 145) #[] #[.pointer (some ⟨W.heap.size, 0, none⟩)]) ∧ w' = W.alloc (.cells #[.map mb] 154) :=
  AnyZ.keys_in Tryz.keys122 Fence.wide 5 trivial rfl mb W

set_option maxHeartbeats 1000000 in
/-- **slices.Sorted[string] AT WHAT maps.Keys[map[string]reeve/ledger.debt,string,reeve/ledger.debt] HANDED BACK FOR A MAP THAT IS NOT nil** ('w': the world AHEAD of maps.Keys' call): A NEW SLICE THAT HOLDS THE MAP's KEYS, SORTED; nil just where it has none; nothing that lay before has turned. -/
theorem slices_Sorted_keys_all {H : Type} (b nn : Nat) (D0 : DataW H) (R : Value → Option (DataW H × List MemPlace)) (w : World) (hown : w.ownsMap Tryz.prog 9 R b nn D0) (hmax : Maps.size D0 ≤ maxLen) (hbytes : Maps.size D0 * 16 ≤ 140737488355328) :
    CallsIn Fence.wide 5 Tryz.prog 121 #[.func (.func 145) #[] #[.pointer (some ⟨w.heap.size, 0, none⟩)]] (w.alloc (.cells #[.map (some b)] 154)) fun e w' => ∃ (v : Value) (ss : List (List UInt8)), e = .returned v ∧ ss.Perm (strKeys D0) ∧
      w'.ownsRow (w.alloc (.cells #[.map (some b)] 154)).heap.size 9 1 v ss.length ((ss.mergeSort (fun x y => decide (x ≤ y))).map encStr) ∧ (v = .slice none 0 0 ↔ ss = []) ∧ Below (w.alloc (.cells #[.map (some b)] 154)).heap.size (w.alloc (.cells #[.map (some b)] 154)) w' := by
  have hbl := hown.lt
  have hseq : SeqGives Fence.wide 2 Tryz.prog 145 #[.pointer (some ⟨w.heap.size, 0, none⟩)] encStr (fun ss => ss.Perm (strKeys D0)) (Maps.size D0) (w.alloc (.cells #[.map (some b)] 154)) :=
    AnyZ.keys_gives (ρ := Tryz.keys122_ren) { Tryz.keys122 with } Fence.wide _ trivial rfl (by omega) w.heap.size b nn D0 _ (by simp) (by simp) (by
      obtain ⟨es, clock, hb, Ft, hs, hD⟩ := hown
      exact ⟨es, clock, (Below.heap_alloc _ _ b hbl).trans hb, Ft, hs, hD⟩)
  exact AnyZ.sorted_in Tryz.sorted121 Fence.wide 5 trivial trivial trivial trivial rfl (by omega) (sorts_all _) (enters_of Tryz.func144 (by kernel_rfl) rfl) 145 #[.pointer (some ⟨w.heap.size, 0, none⟩)] trivial (enters_of Tryz.func145 (by kernel_rfl) rfl) _ _ hmax hbytes _ hseq

end Go.Proofs.YtcmndglhileeoaaGreat

/- The walk of package ledger: Keys. -/
set_option linter.unusedSimpArgs false
set_option linter.unusedVariables false
namespace Go.Proofs.YtcmndglhileeoaaGreat
open Go.RowKit Go.Maps Go.Sort Go.Shelf Go.Proofs
open Rv (HP Sat Same pt allOf sat_all RdIn row own findE SMap)

def kb (x : MapEntry) : List UInt8 := match x.key with | .string s => s.data.toList | _ => []
/-- An element is read as nothing: the keys alone are asked for. -/
def noElem : Value → Option (DataW Unit × List MemPlace) := fun _ => some (.nil, [])

theorem mem_es_iff {Q : HP} {l : Rv.Ledger} {es : Array MapEntry} {clock : Nat} (h : LOk Q l es clock) (k : List UInt8) : k ∈ es.toList.map kb ↔ k ∈ l.of.map (fun e => e.1.data.toList) := by
  constructor
  · intro hk
    obtain ⟨x, hx, rfl⟩ := List.mem_map.1 hk
    obtain ⟨s, hs⟩ := h.fit.keys x hx
    have hr := h.rel s
    rw [Rv.findE_of h.fit.nodup hx hs] at hr
    cases hg : l.of.get? s with
    | none => rw [hg] at hr; exact hr.elim
    | some d =>
      refine List.mem_map.2 ⟨(s, d), Rv.get_mem hg, ?_⟩
      unfold kb; rw [hs]
  · intro hk
    obtain ⟨⟨s, d⟩, hx, rfl⟩ := List.mem_map.1 hk
    have hg := Rv.get_of h.sorted hx
    have hr := h.rel s
    rw [hg] at hr
    cases hf : findE es.toList s with
    | none => rw [hf] at hr; exact hr.elim
    | some v =>
      obtain ⟨y, hy, hs, -⟩ := Rv.findE_some hf
      refine List.mem_map.2 ⟨y, hy, ?_⟩
      unfold kb; rw [hs]
theorem es_nodup {es : Array MapEntry} {clock : Nat} (h : SMap es clock) : (es.toList.map kb).Nodup := by
  rw [List.nodup_iff_pairwise_ne, List.pairwise_map]
  refine List.Pairwise.imp_of_mem ?_ h.nodup
  intro a b ha hb hne e
  obtain ⟨s, hs⟩ := h.keys a ha
  obtain ⟨t, ht⟩ := h.keys b hb
  unfold kb at e
  rw [hs, ht] at e
  exact hne (by rw [hs, ht, Rv.key_ext e])
theorem of_nodup {l : Rv.Owed} (h : Rv.Sorted l) : (l.map (fun e => e.1.data.toList)).Nodup := by
  rw [List.nodup_iff_pairwise_ne, List.pairwise_map]
  refine List.Pairwise.imp ?_ h
  intro a b hab e
  rw [Rv.key_ext e, Rv.keyLt_irrefl] at hab
  cases hab
theorem es_perm {Q : HP} {l : Rv.Ledger} {es : Array MapEntry} {clock : Nat} (h : LOk Q l es clock) : (es.toList.map kb).Perm (l.of.map (fun e => e.1.data.toList)) :=
  (List.perm_ext_iff_of_nodup (es_nodup h.fit) (of_nodup h.sorted)).2 (mem_es_iff h)
theorem es_size {Q : HP} {l : Rv.Ledger} {es : Array MapEntry} {clock : Nat} (h : LOk Q l es clock) : es.size = l.of.length := by
  have := (es_perm h).length_eq
  simpa using this
theorem of_merge {l : Rv.Owed} (h : Rv.Sorted l) : (l.map (fun e => e.1.data.toList)).mergeSort leB = l.map (fun e => e.1.data.toList) := by
  refine List.mergeSort_of_pairwise ?_
  rw [List.pairwise_map]
  refine List.Pairwise.imp ?_ h
  intro a b hab
  have h1 := (Rv.keyLt_iff _ _).1 hab
  simp only [leB, decide_eq_true_eq]
  exact List.le_of_lt h1
theorem owns_keys {Q : HP} {l : Rv.Ledger} {es : Array MapEntry} {clock : Nat} (h : LOk Q l es clock) {w : World} {bm : Nat} (hb : w.heap[bm]? = some (.map es clock)) (hn : l.of.length ≤ 100000) :
    w.ownsMap Tryz.prog 9 noElem bm es.size (.map ((es.toList.map (Go.WideElems.rg Tryz.prog 9 noElem)).foldr DataW.insert [])) := by
  have hsz := es_size h
  refine ⟨es, clock, hb, ⟨by simp only [maxLen]; omega, ?_, fun x hx => ?_⟩, Nat.le_refl _, rfl⟩
  · rw [Go.MapKept.stamped_iff]
    exact ⟨h.fit.low, List.nodup_iff_pairwise_ne.2 (List.Pairwise.map _ (fun a b h => Nat.ne_of_lt h) h.fit.born), h.fit.nodup⟩
  · obtain ⟨s, hs⟩ := h.fit.keys x hx
    have hm : kb x ∈ l.of.map (fun e => e.1.data.toList) := (mem_es_iff h _).1 (List.mem_map.2 ⟨x, hx, rfl⟩)
    obtain ⟨⟨t, d⟩, hy, he⟩ := List.mem_map.1 hm
    have hst : t = s := by unfold kb at he; rw [hs] at he; exact Rv.key_ext he
    have hl := (h.keys _ hy).2
    simp only [hst] at hl
    refine ⟨(.string s.data.toList, .nil), ?_⟩
    unfold Go.WideElems.rd
    rw [hs]
    simp only [keyOf, Tryz.underlying9, mapKey]
    rw [if_pos (by simp only [maxLen]; omega)]
    rfl
theorem str_keys {Q : HP} {l : Rv.Ledger} {es : Array MapEntry} {clock : Nat} (h : LOk Q l es clock) :
    (strKeys (H := Unit) (.map ((es.toList.map (Go.WideElems.rg Tryz.prog 9 noElem)).foldr DataW.insert []))).Perm (l.of.map (fun e => e.1.data.toList)) := by
  unfold strKeys
  refine ((Go.WideShapes.sorted_perm _).map _).trans ?_
  rw [List.map_map]
  refine List.Perm.trans (List.Perm.of_eq ?_) (es_perm h)
  refine List.map_congr_left (fun x hx => ?_)
  obtain ⟨s, hs⟩ := h.fit.keys x hx
  have hm : kb x ∈ l.of.map (fun e => e.1.data.toList) := (mem_es_iff h _).1 (List.mem_map.2 ⟨x, hx, rfl⟩)
  obtain ⟨⟨t, d⟩, hy, he⟩ := List.mem_map.1 hm
  have hst : t = s := by unfold kb at he; rw [hs] at he; exact Rv.key_ext he
  have hl := (h.keys _ hy).2
  simp only [hst] at hl
  have hk : keyOf Tryz.prog 9 (.string s) = some (.string s.data.toList) := by
    simp only [keyOf, Tryz.underlying9, mapKey]
    exact if_pos (by simp only [maxLen]; omega)
  have hr : Go.WideElems.rd Tryz.prog 9 noElem x = some (.string s.data.toList, .nil) := by
    unfold Go.WideElems.rd
    rw [hs, hk]
    rfl
  have hg : Go.WideElems.rg Tryz.prog 9 noElem x = (.string s.data.toList, .nil) := by
    unfold Go.WideElems.rg
    rw [hr]
    rfl
  simp only [Function.comp, hg, strOf]
  unfold kb
  rw [hs]

set_option maxHeartbeats 1000000 in
set_option maxRecDepth 100000 in
theorem lkeys_any (w : World) (Q R : HP) (g bm : Nat) (l : Rv.Ledger) (es : Array MapEntry) (clock : Nat) (hl : LOk Q l es clock) (h : Sat w (ledBox g l bm * (mapBox bm es clock * R))) (hn : l.of.length ≤ 100000) :
    Calls Tryz.prog 91 #[.pointer (some ⟨g, 0, none⟩)] w fun e w' => ∃ B c, e = .returned (.slice B l.of.length c) ∧ Sat w' (row 9 (.slice B l.of.length c) (l.of.map fun e => .string e.1) * (ledBox g l bm * (mapBox bm es clock * R))) ∧ Same w w' := by
  have d11 : w.cell? ⟨g, 11, none⟩ = some (.map (some bm)) := by rw [cells_of (led_cells h)]; rfl
  have hown := owns_keys hl (Rv.Sat.heap (o := .map es clock) h.right) hn
  have hsz : Maps.size (.map ((es.toList.map (Go.WideElems.rg Tryz.prog 9 noElem)).foldr DataW.insert [])) = l.of.length := by
    have := (str_keys hl).length_eq
    simpa [strKeys, Maps.size] using this
  have HS := Lib.hid (callsIn_wide.1 (slices_Sorted_keys_all bm es.size _ noElem w hown (by rw [hsz]; simp only [maxLen]; omega) (by rw [hsz]; omega)))
  have HK := Lib.hid (callsIn_wide.1 (maps_Keys_all (some bm) w))
  have HP := Lib.hid (str_keys hl)
  have HM := Lib.hid (of_merge hl.sorted)
  have H := Lib.hid h
  clear hown hsz h
  go_enter Tryz.func91, Tryz.ntmps91
  go_wp2_with fail
  refine HK.out.mono ?_
  rintro e w' ⟨rfl, rfl⟩
  go_wp2_with fail
  refine HS.out.mono ?_
  rintro e w2 ⟨v, ss, rfl, hp, hrow, -, hb⟩
  have hmm : ss.mergeSort leB = l.of.map (fun e => e.1.data.toList) := by rw [mergeSort_of_perm (hp.trans HP.out)]; exact HM.out
  have hlen : ss.length = l.of.length := by have := (hp.trans HP.out).length_eq; simpa using this
  have hvs : (ss.mergeSort leB).map encStr = l.of.map (fun e => Value.string e.1) := by
    rw [hmm, List.map_map]
    refine List.map_congr_left (fun e _ => ?_)
    simp [encStr]
  have ho : OwnV w2 w.heap.size 9 v (l.of.map (fun e => Value.string e.1)) := by
    unfold OwnV
    rw [List.length_map, ← hvs, ← hlen]
    exact Go.Proofs.ownsRow_base_a hrow (by simp)
  obtain ⟨B, c, rfl, -, -, -⟩ := ho.shape
  rw [List.length_map] at ho ⊢
  have bw : Below w.heap.size w w2 := below_then ((Below.refl _ _).alloc (Nat.le_refl _) _) (by simp) hb
  have S2 := Lib.hid (H.out.row_new bw (ho.mono (Nat.zero_le _)) (fun k hk => (ho.block k hk).1))
  clear ho hvs hlen hmm hp hrow hb
  go_wp2_with fail
  go_ret
  exact ⟨B, c, rfl, S2.out, Rv.Same.below bw⟩
end Go.Proofs.YtcmndglhileeoaaGreat

/- The walks of package ledger: Bytes and its closure. -/
set_option linter.unusedSimpArgs false
set_option linter.unusedVariables false
namespace Go.Proofs.YtcmndglhileeoaaGreat
open Go.RowKit
open Rv (HP Sat Same pt allOf sat_all RdIn row own findE SMap)

/-- A variable that holds bytes of its own. -/
def outP (g : Nat) (xs : List UInt8) : HP := fun h => ∃ B C, (pt g (.cells #[.slice B xs.length C] 22) * bytesP (.slice B xs.length C) xs) h
theorem outP_open {w : World} {R : HP} {g : Nat} {xs : List UInt8} (h : Sat w (outP g xs * R)) : ∃ B C, Sat w (pt g (.cells #[.slice B xs.length C] 22) * (bytesP (.slice B xs.length C) xs * R)) := by
  obtain ⟨a, b, ⟨B, C, ha⟩, hb, hd, h1, h2⟩ := h.parts
  exact ⟨B, C, (Rv.Sat.of_parts ha hb hd h1 h2).perm (Rv.star_assoc _ _ _)⟩
theorem outP_shut {w : World} {R : HP} {g : Nat} {xs : List UInt8} {B : Option Addr} {C : Nat} (h : Sat w (pt g (.cells #[.slice B xs.length C] 22) * (bytesP (.slice B xs.length C) xs * R))) : Sat w (outP g xs * R) := by
  rw [← Rv.star_assoc] at h
  exact h.imp (fun a ha => ⟨B, C, ha⟩)

set_option maxHeartbeats 1000000 in
set_option maxRecDepth 100000 in
theorem bput_any (w : World) (R : HP) (g : Nat) (xs : List UInt8) (n : Int) (ys : List UInt8) (hy : xs ++ Rv.numB n = ys) (h : Sat w (outP g xs * R)) (hl : xs.length ≤ 1099511627776) :
    Calls Tryz.prog 90 #[.int .i64 n, .pointer (some ⟨g, 0, none⟩)] w fun e w' => e = .returned (.tuple #[]) ∧ Sat w' (outP g ys * R) ∧ Same w w' := by
  obtain ⟨B, C, hs⟩ := outP_open h
  have H := Lib.hid hs
  have HY := Lib.hid hy
  clear h hs hy
  go_enter Tryz.func90, Tryz.ntmps90
  go_wp2_with fail
  refine (number_any n w).mono ?_
  rintro e w2 ⟨v, rfl, ho, hb⟩
  generalize (if Rv.mayN n = true then (0 : Int) else 1) = er
  have S2 : Hid (Sat w2 (bytesP (.slice B xs.length C) xs * (pt g (.cells #[.slice B xs.length C] 22) * (bytesP v (Rv.numB n) * R)))) := Lib.hid ((bytesP_new H.out ho hb).perm (by ac_rfl))
  have Z2 := Lib.hid (Rv.Same.below hb)
  obtain ⟨A1, c1, rfl, -, -, hr1⟩ := ho.shape
  have HR1 := Lib.hid hr1
  have HN1 := Lib.hid ho.nilcap
  have hl2 := Rv.numB_len n
  have d0 : w2.cell? ⟨g, 0, none⟩ = some (.slice B xs.length C) := (cells_of S2.out.right.heap 0).trans rfl
  clear ho hb hr1
  go_wp2_with (at_builtin; refine sapp rfl (.tmp 10) (.tmp 11) 22 rfl Tryz.underlying22 infoB (.slice B xs.length C) xs (Rv.numB n) A1 _ c1 (by rfl) (by rfl) rfl S2.out HR1.out HN1.out ys.length (by rw [← HY.out, List.length_append]) (by rw [← HY.out, List.length_append]; omega) ?_; intro B3 c3 w3 h3 z3; rw [HY.out] at h3; have S3 := Lib.hid h3; have Z3 := Lib.hid z3; have d0 : w3.cell? ⟨g, 0, none⟩ = some (.slice B xs.length C) := (cells_of S3.out.right.heap 0).trans rfl; have f0 : w3.frozen? ⟨g, 0, none⟩ = false := frozen_of S3.out.right.heap 0; clear h3 z3)
  refine bodyPost_end (v := .tuple #[]) (by simp [results, Tryz.results90, go_sem]) rfl ⟨rfl, ?_, (Z2.out.then Z3.out).then (Kept.setCell (Kept.refl _ _) _ _ (.inl trivial))⟩
  exact outP_shut ((S3.out.swap.setCell (i := 0) (.slice B3 ys.length c3)).perm (show _ = pt g (.cells #[.slice B3 ys.length c3] 22) * (bytesP (.slice B3 ys.length c3) ys * (bytesP (.slice A1 _ c1) _ * R)) by rfl)).drop3

/-! ### Bytes -/
theorem len_map {w : World} {bm : Nat} {es : Array MapEntry} {clock : Nat} (hb : w.heap[bm]? = some (.map es clock)) (n : Nat) (hn : es.size = n) (ty : TypeId) : (Builtin.len_ #[154] ty #[.map (some bm)]).run Tryz.prog w = .ok (.int .i64 (n : Int)) w := by
  subst hn
  have : Tryz.prog.underlying 154 = some (.map _ _) := Tryz.underlying154
  simp [Builtin.len_, run_underlying this, Go.MapKept.run_getObj_map hb, goInt]
def entB (e : ByteArray × Rv.Debt) : List UInt8 := Rv.numB e.1.size ++ Rv.bytesOf e.1 ++ (e.2.numbers.map Rv.numB).flatten
def outK (l : Rv.Ledger) (k : Nat) : List UInt8 := Rv.numB l.of.length ++ ((l.of.take k).map entB).flatten
theorem outK_succ {l : Rv.Ledger} {k : Nat} {e : ByteArray × Rv.Debt} (h : l.of[k]? = some e) : outK l (k + 1) = outK l k ++ entB e := by
  obtain ⟨hk, he⟩ := List.getElem?_eq_some_iff.1 h
  unfold outK
  rw [List.take_succ_eq_append_getElem hk, he]
  simp
theorem outK_all (l : Rv.Ledger) : outK l l.of.length = l.bytes := by
  unfold outK Rv.Ledger.bytes
  rw [List.take_of_length_le (Nat.le_refl _)]
  rfl
theorem entB_len {e : ByteArray × Rv.Debt} (h : e.1.size ≤ 64) (hn : e.2.numbers.length ≤ 32) : (entB e).length ≤ 400 := by
  unfold entB
  have h1 := Rv.numB_len e.1.size
  have h2 := Rv.flat_len e.2.numbers
  have h3 : (Rv.bytesOf e.1).length = e.1.size := rfl
  simp only [List.length_append]
  omega
theorem outK_len {l : Rv.Ledger} (hk : ∀ e ∈ l.of, e.1.size ≤ 64 ∧ e.2.numbers.length ≤ 32) (k : Nat) (hkl : k ≤ l.of.length) : (outK l k).length ≤ 9 + 400 * k := by
  induction k with
  | zero => unfold outK; simp; exact Rv.numB_len _
  | succ k ih =>
    obtain ⟨e, he⟩ := some_at (xs := l.of) (i := k) (by omega)
    rw [outK_succ he, List.length_append]
    have := entB_len (hk e (List.mem_of_getElem? he)).1 (hk e (List.mem_of_getElem? he)).2
    have := ih (by omega)
    omega

theorem led_small {Q : HP} {l : Rv.Ledger} {es : Array MapEntry} {clock : Nat} (h : LOk Q l es clock) : ∀ e ∈ l.of, e.1.size ≤ 64 ∧ e.2.numbers.length ≤ 32 := by
  intro e he
  refine ⟨(h.keys e he).2, ?_⟩
  have hr := h.rel e.1
  rw [Rv.get_of h.sorted (show (e.1, e.2) ∈ l.of from he)] at hr
  cases hf : findE es.toList e.1 with
  | none => rw [hf] at hr; exact hr.elim
  | some v =>
    rw [hf] at hr
    have hd : DebtIn Q l.p v e.2 := hr
    cases hx : e.2 with
    | level n => simp [Rv.Debt.numbers]
    | sums s =>
      rw [hx] at hd
      obtain ⟨h1, h2, _⟩ := hd
      have := width_ok h.ok h1
      have := h2.len
      show s.l.length ≤ 32
      omega
theorem nums_succ {ys : List UInt8} {l : List Int} {j : Nat} {m : Int} (h : l[j]? = some m) : ys ++ ((l.take j).map Rv.numB).flatten ++ Rv.numB m = ys ++ ((l.take (j + 1)).map Rv.numB).flatten := by
  obtain ⟨hj, he⟩ := List.getElem?_eq_some_iff.1 h
  rw [List.take_succ_eq_append_getElem hj, he]
  simp
theorem led_entry {Q : HP} {l : Rv.Ledger} {es : Array MapEntry} {clock : Nat} (h : LOk Q l es clock) {key : ByteArray} {d : Rv.Debt} (he : (key, d) ∈ l.of) : ∃ v, DebtIn Q l.p v d ∧ findE es.toList key = some v := by
  have hr := h.rel key
  rw [Rv.get_of h.sorted he] at hr
  cases hf : findE es.toList key with
  | none => rw [hf] at hr; exact hr.elim
  | some v => rw [hf] at hr; exact ⟨v, hr, rfl⟩
/-- What stands in the outer loop of Bytes. -/
def ByMid (Q R : HP) (w wr : World) (g bm g3 : Nat) (l : Rv.Ledger) (es : Array MapEntry) (clock : Nat) (B : Option Addr) (c : Nat) (xs : List UInt8) (N : HP) : Prop :=
  Sat wr (outP g3 xs * (N * (row 9 (.slice B l.of.length c) (l.of.map fun e => .string e.1) * (ledBox g l bm * (mapBox bm es clock * (Q * R)))))) ∧ Same w wr

set_option maxHeartbeats 4000000 in
set_option maxRecDepth 100000 in
theorem lbytes_led (w : World) (Q R : HP) (g bm : Nat) (l : Rv.Ledger) (es : Array MapEntry) (clock : Nat) (hl : LOk Q l es clock) (h : Sat w (ledBox g l bm * (mapBox bm es clock * (Q * R)))) (hn : l.of.length ≤ 100000) :
    Calls Tryz.prog 45 #[.pointer (some ⟨g, 0, none⟩)] w fun e w' => ∃ B C, e = .returned (.slice B l.bytes.length C) ∧ Sat w' (bytesP (.slice B l.bytes.length C) l.bytes * (ledBox g l bm * (mapBox bm es clock * (Q * R)))) ∧ Same w w' := by
  have HL := Lib.hid hl
  have H := Lib.hid h
  have S0 : Hid (Sat (w.alloc (.cells #[.slice none 0 0] 22)) (outP w.heap.size [] * (ledBox g l bm * (mapBox bm es clock * (Q * R))))) := Lib.hid (outP_shut (B := none) (C := 0) (((h.row_nil 5).alloc (.cells #[.slice none 0 0] 22))))
  have Z0 : Hid (Same w (w.alloc (.cells #[.slice none 0 0] 22))) := Lib.hid (Same.of (Kept.alloc (Kept.refl (fun _ => False) _) _))
  have hlen := es_size hl
  clear h hl
  go_enter Tryz.func45, Tryz.ntmps45
  go_upto_region 3 with (fail)
  obtain ⟨w1, hw1⟩ : ∃ w1, w1 = w.alloc (.cells #[.slice none 0 0] 22) := ⟨_, rfl⟩
  rw [← hw1] at S0 Z0 ⊢
  clear hw1
  generalize w.heap.size = g3 at *
  obtain ⟨_, _, _, _, _, _, _, _, _, _, -, d11⟩ := led_twelve S0.out.right
  have hb1 := len_map (Rv.Sat.heap (o := .map es clock) S0.out.right.right) l.of.length hlen
  go_wp2_with fail
  refine (bput_any w1 _ g3 [] l.of.length (outK l 0) (by unfold outK; simp) S0.out (by simp)).mono ?_
  rintro e w2 ⟨rfl, s2, z2⟩
  have S2 := Lib.hid s2
  have Z2 := Lib.hid (Z0.out.then z2)
  clear s2 z2 S0 Z0 d11 hb1
  go_wp2_with fail
  refine (lkeys_any w2 Q (outP g3 (outK l 0) * (Q * R)) g bm l es clock HL.out (S2.out.perm (by ac_rfl)) hn).mono ?_
  rintro e w3 ⟨B, c, rfl, s3, z3⟩
  have M3 : Hid (ByMid Q R w w3 g bm g3 l es clock B c (outK l 0) 1) := Lib.hid ⟨by rw [Rv.one_star]; exact s3.perm (by ac_rfl), Z2.out.then z3⟩
  clear s3 z3 S2 Z2
  go_wp2_with fail
  have hkey : Hid (∀ e ∈ l.of, e.1.size ≤ 64 ∧ e.2.numbers.length ≤ 32) := Lib.hid (led_small HL.out)
  go_loopw [20] (fun i wr => ∃ k : Nat, k ≤ l.of.length ∧ i = .int .i64 k ∧ ∃ N, ByMid Q R w wr g bm g3 l es clock B c (outK l k) N) (fun i _ => l.of.length - (intOf i).toNat)
  case atStart => exact ⟨0, by omega, rfl, 1, M3.out⟩
  case round =>
    obtain ⟨k, hk, rfl, N0, hm⟩ := hrel
    have Hm := Lib.hid hm
    clear hm M3
    by_cases hlt : k < l.of.length
    · obtain ⟨⟨key, d⟩, he⟩ := some_at hlt
      have He := Lib.hid he
      have hkl := (hkey.out _ (List.mem_of_getElem? he)).1
      have hol := outK_len hkey.out k hk
      obtain ⟨A1, c1, he1, -, -, hr1⟩ := (Rv.Sat.row_own Hm.out.1.right.right).shape
      injection he1 with he1 he2 he3
      subst he1; subst he3
      obtain ⟨ad, rfl, hc⟩ := hr1 k (.string key) (by simp [he])
      clear he hr1 he2
      simp only at hkl
      obtain ⟨ys1, hys1⟩ : ∃ ys, outK l k ++ Rv.numB key.size = ys := ⟨_, rfl⟩
      obtain ⟨ys2, hys2⟩ : ∃ ys, ys1 ++ Rv.bytesOf key = ys := ⟨_, rfl⟩
      have hb1 := Rv.numB_len key.size
      have hl1 : ys1.length ≤ 1000000000 := by rw [← hys1, List.length_append]; omega
      have hl2 : ys1.length + key.size = ys2.length := by rw [← hys2, List.length_append]; rfl
      have Hys1 := Lib.hid hys1.symm
      have Hys2 := Lib.hid hys2.symm
      clear hys1 hys2
      go_wp2_with fail
      refine (bput_any wr _ g3 (outK l k) key.size ys1 Hys1.out.symm Hm.out.1 (by omega)).mono ?_
      rintro e w4 ⟨rfl, s4, z4⟩
      obtain ⟨B4, C4, s4⟩ := outP_open s4.drop2
      have S4 := Lib.hid s4
      have Z4 := Lib.hid (Hm.out.2.then z4)
      have d28 : w4.cell? ⟨g3, 0, none⟩ = some (.slice B4 ys1.length C4) := (cells_of S4.out.heap 0).trans rfl
      clear s4 z4 Hm hc
      go_upto_region 9 with (at_builtin; refine sapp_str rfl (.tmp 28) (.tmp 29) 22 9 rfl Tryz.underlying22 Tryz.underlying9 infoB (.slice B4 ys1.length C4) ys1 key (by rfl) (by rfl) S4.out.swap ys2.length hl2 (by omega) ?_; intro B5 c5 w5 h5 z5; rw [← Hys2.out] at h5; have S5 := Lib.hid h5; have Z5 := Lib.hid (Z4.out.then z5); have d28' : w5.cell? ⟨g3, 0, none⟩ = some (.slice B4 ys1.length C4) := (cells_of S5.out.right.heap 0).trans rfl; have f28 : w5.frozen? ⟨g3, 0, none⟩ = false := frozen_of S5.out.right.heap 0; clear h5 z5)
      have S6 : Hid (Sat (w5.setCell ⟨g3, 0, none⟩ (.slice B5 ys2.length c5)) (outP g3 ys2 * (row 9 (.slice (some ad) l.of.length c) (l.of.map fun e => .string e.1) * (ledBox g l bm * (mapBox bm es clock * (Q * R)))))) := Lib.hid (outP_shut (B := B5) (C := c5) ((S5.out.swap.setCell (i := 0) (.slice B5 ys2.length c5))))
      have Z6 : Hid (Same w (w5.setCell ⟨g3, 0, none⟩ (.slice B5 ys2.length c5))) := Lib.hid (Z5.out.then (Kept.setCell (Kept.refl _ _) _ _ (.inl trivial)))
      clear d28 d28' f28 S4 Z4 S5 Z5
      generalize w5.setCell ⟨g3, 0, none⟩ (.slice B5 ys2.length c5) = w5' at *
      clear w5
      obtain ⟨w5, rfl⟩ : ∃ w5 : World, w5 = w5' := ⟨_, rfl⟩
      have S5 := S6
      have Z5 := Z6
      clear S6 Z6
      have hlook := Rv.run_look (P := Tryz.prog) (w := w5) (t := 154) (k := 9) (e := 175) Tryz.underlying154 Tryz.underlying9 (Rv.Sat.heap (o := .map es clock) S5.out.right.right.right) HL.out.fit key zero_debt false
      obtain ⟨v, hdr, hfe⟩ := led_entry HL.out (List.mem_of_getElem? He.out)
      rw [hfe] at hlook
      simp only [Option.getD_some, Bool.false_eq_true, if_false] at hlook
      obtain ⟨_, _, _, _, _, _, _, _, _, _, -, d11⟩ := led_twelve S5.out.right.right
      clear hfe
      cases hd : d with
      | level n =>
        rw [hd] at hdr
        obtain ⟨a1, a2, a3, a4⟩ := hdr
        rw [a4] at hlook
        have hm := fun v w => meth_level v w "reeve/ledger.numbers" _ (.inl rfl)
        go_wp2_with fail
        refine (lnum_any n w5).mono ?_
        rintro e w' ⟨rfl, rfl⟩
        have S6 : Hid (Sat (w5.alloc (.cells #[.int .i64 n] 3)) (outP g3 ys2 * (pt w5.heap.size (.cells #[.int .i64 n] 3) * (row 9 (.slice (some ad) l.of.length c) (l.of.map fun e => .string e.1) * (ledBox g l bm * (mapBox bm es clock * (Q * R))))))) := Lib.hid ((S5.out.alloc (.cells #[.int .i64 n] 3)).swap)
        have Z6 : Hid (Same w (w5.alloc (.cells #[.int .i64 n] 3))) := Lib.hid (Z5.out.then (Same.of (Kept.alloc (Kept.refl (fun _ => False) _) _)))
        have HRd : Hid (RdIn (pt w5.heap.size (.cells #[.int .i64 n] 3) * (row 9 (.slice (some ad) l.of.length c) (l.of.map fun e => .string e.1) * (ledBox g l bm * (mapBox bm es clock * (Q * R))))) (some ⟨w5.heap.size, 0, none⟩) ([n].map intI)) := Lib.hid (Rv.RdIn.left (fun w' hw' j u hu => ⟨_, rfl, by
          have hj : j = 0 := by have := (List.getElem?_eq_some_iff.1 hu).1; simp at this; exact this
          subst hj
          cases hu
          rw [add_zero_off, cells_of hw'.one.heap]
          rfl⟩))
        generalize (w5.alloc (.cells #[.int .i64 n] 3)) = w6 at *
        generalize w5.heap.size = gn at *
        have HE : Hid (outK l (k + 1) = ys2 ++ ([n].map Rv.numB).flatten) := Lib.hid (by rw [outK_succ He.out, hd, Hys2.out, Hys1.out]; unfold entB; simp [Rv.Debt.numbers])
        have hnl : [n].length ≤ 32 := by have := (hkey.out _ (List.mem_of_getElem? He.out)).2; rw [hd] at this; exact this
        clear hlook S5 Z5 d11 hm hd
        go_wp2_with fail
        go_loopw [39] (fun i wr2 => ∃ j : Nat, j ≤ [n].length ∧ i = .int .i64 j ∧ Sat wr2 (outP g3 (ys2 ++ (([n].take j).map Rv.numB).flatten) * ((pt gn (.cells #[.int .i64 n] 3)) * (row 9 (.slice (some ad) l.of.length c) (l.of.map fun e => .string e.1) * (ledBox g l bm * (mapBox bm es clock * (Q * R)))))) ∧ Same w wr2) (fun i _ => [n].length - (intOf i).toNat)
        case atStart => exact ⟨0, by omega, rfl, by simpa using S6.out, Z6.out⟩
        case round =>
          obtain ⟨j, hj, rfl, hs7, hz7⟩ := hrel
          have S7 := Lib.hid hs7
          have Z7 := Lib.hid hz7
          clear hs7 hz7 S6 Z6
          by_cases hjl : j < [n].length
          · have hj1 : j < 1 := hjl
            obtain ⟨m, hm⟩ := some_at hjl
            obtain ⟨ad2, had2, hc2⟩ := HRd.out _ S7.out.right j (intI m) (by rw [List.getElem?_map, hm]; rfl)
            cases had2
            rw [add_zero_off] at hc2
            have hc3 : _ = some (Value.int .i64 m) := hc2
            clear hc2
            have HY : Hid (ys2 ++ (([n].take j).map Rv.numB).flatten ++ Rv.numB m = ys2 ++ (([n].take (j + 1)).map Rv.numB).flatten) := Lib.hid (nums_succ hm)
            have hfl := Rv.flat_len ([n].take j)
            have htl : ([n].take j).length ≤ j := List.length_take_le _ _
            clear hm
            go_wp2_with fail
            refine (bput_any _ _ g3 _ m _ HY.out S7.out (by rw [List.length_append]; omega)).mono ?_
            rintro e w8 ⟨rfl, s8, z8⟩
            have S8 := Lib.hid s8
            have Z8 := Lib.hid (Z7.out.then z8)
            clear s8 z8 S7 Z7 hc3
            go_wp2_with fail
            go_roundw
            case rel => exact ⟨j + 1, by omega, by go_num, S8.out, Z8.out⟩
            case measure => simp [intOf]; omega
          · obtain rfl : j = [n].length := by omega
            go_wp2_with fail
            go_roundw
            case rel => exact ⟨k + 1, by omega, by go_num, (pt gn (.cells #[.int .i64 n] 3)), by rw [HE.out]; exact (by simpa only [List.take_length] using S7.out), Z7.out⟩
            case measure => simp [intOf]; omega
      | sums s =>
        rw [hd] at hdr
        obtain ⟨a1, a2, A2, c2, a4, a5, a6⟩ := hdr
        rw [a4] at hlook
        have HR5 := Lib.hid a5
        have hm := fun v w => meth_sums v w "reeve/ledger.numbers" _ (.inl rfl)
        go_wp2_with fail
        refine (snum_any s A2 c2 w5).mono ?_
        rintro e w6 ⟨rfl, b6⟩
        have S6 : Hid (Sat w6 (outP g3 ys2 * (1 * (row 9 (.slice (some ad) l.of.length c) (l.of.map fun e => .string e.1) * (ledBox g l bm * (mapBox bm es clock * (Q * R))))))) := Lib.hid (by rw [Rv.one_star]; exact S5.out.below b6)
        have Z6 := Lib.hid (Z5.out.then (Rv.Same.below b6))
        clear b6
        have HRd : Hid (RdIn (1 * (row 9 (.slice (some ad) l.of.length c) (l.of.map fun e => .string e.1) * (ledBox g l bm * (mapBox bm es clock * (Q * R))))) A2 (s.l.map intI)) := Lib.hid (by rw [Rv.one_star]; exact Rv.RdIn.right (Rv.RdIn.right (Rv.RdIn.right (Rv.RdIn.left HR5.out))))
        have HE : Hid (outK l (k + 1) = ys2 ++ (s.l.map Rv.numB).flatten) := Lib.hid (by rw [outK_succ He.out, hd, Hys2.out, Hys1.out]; unfold entB; simp [Rv.Debt.numbers])
        have hnl : s.l.length ≤ 32 := by have := (hkey.out _ (List.mem_of_getElem? He.out)).2; rw [hd] at this; exact this
        clear hlook S5 Z5 d11 hm hd
        go_wp2_with fail
        go_loopw [39] (fun i wr2 => ∃ j : Nat, j ≤ s.l.length ∧ i = .int .i64 j ∧ Sat wr2 (outP g3 (ys2 ++ ((s.l.take j).map Rv.numB).flatten) * ((1 : HP) * (row 9 (.slice (some ad) l.of.length c) (l.of.map fun e => .string e.1) * (ledBox g l bm * (mapBox bm es clock * (Q * R)))))) ∧ Same w wr2) (fun i _ => s.l.length - (intOf i).toNat)
        case atStart => exact ⟨0, by omega, rfl, by simpa using S6.out, Z6.out⟩
        case round =>
          obtain ⟨j, hj, rfl, hs7, hz7⟩ := hrel
          have S7 := Lib.hid hs7
          have Z7 := Lib.hid hz7
          clear hs7 hz7 S6 Z6
          by_cases hjl : j < s.l.length
          · obtain ⟨m, hm⟩ := some_at hjl
            obtain ⟨ad2, had2, hc2⟩ := HRd.out _ S7.out.right j (intI m) (by rw [List.getElem?_map, hm]; rfl)
            subst had2
            have HY : Hid (ys2 ++ ((s.l.take j).map Rv.numB).flatten ++ Rv.numB m = ys2 ++ ((s.l.take (j + 1)).map Rv.numB).flatten) := Lib.hid (nums_succ hm)
            have hfl := Rv.flat_len (s.l.take j)
            have htl : (s.l.take j).length ≤ j := List.length_take_le _ _
            clear hm
            go_wp2_with fail
            refine (bput_any _ _ g3 _ m _ HY.out S7.out (by rw [List.length_append]; omega)).mono ?_
            rintro e w8 ⟨rfl, s8, z8⟩
            have S8 := Lib.hid s8
            have Z8 := Lib.hid (Z7.out.then z8)
            clear s8 z8 S7 Z7 hc2
            go_wp2_with fail
            go_roundw
            case rel => exact ⟨j + 1, by omega, by go_num, S8.out, Z8.out⟩
            case measure => simp [intOf]; omega
          · obtain rfl : j = s.l.length := by omega
            go_wp2_with fail
            go_roundw
            case rel => exact ⟨k + 1, by omega, by go_num, 1, by rw [HE.out]; exact (by simpa only [List.take_length] using S7.out), Z7.out⟩
            case measure => simp [intOf]; omega
    · obtain rfl : k = l.of.length := by omega
      have h7 := Hm.out.1
      rw [outK_all] at h7
      obtain ⟨B7, C7, h7⟩ := outP_open h7
      have S7 := Lib.hid h7
      have d28 : wr.cell? ⟨g3, 0, none⟩ = some (.slice B7 l.bytes.length C7) := (cells_of S7.out.heap 0).trans rfl
      have Z7 := Lib.hid Hm.out.2
      clear h7 Hm hkey
      go_wp2_with fail
      refine bodyPost_ret (v := .slice B7 l.bytes.length C7) (by simp [results, Tryz.results45, go_sem]) rfl ⟨B7, C7, rfl, S7.out.right.drop2.drop2, Z7.out⟩
theorem ledbytes_any (w : World) (Q R : HP) (g : Nat) (l : Rv.Ledger) (h : Sat w (ledP Q g l * (Q * R))) (hn : l.of.length ≤ 100000) :
    Calls Tryz.prog 45 #[.pointer (some ⟨g, 0, none⟩)] w fun e w' => ∃ B C, e = .returned (.slice B l.bytes.length C) ∧ Sat w' (bytesP (.slice B l.bytes.length C) l.bytes * (ledP Q g l * (Q * R))) ∧ Same w w' := by
  obtain ⟨bm, es, clock, hl, hs⟩ := ledP_open h
  refine (lbytes_led w Q R g bm l es clock hl hs hn).mono ?_
  rintro e w' ⟨B, C, he, s1, z1⟩
  exact ⟨B, C, he, (ledP_shut hl (s1.swap.perm (show _ = ledBox g l bm * (mapBox bm es clock * (bytesP (.slice B l.bytes.length C) l.bytes * (Q * R))) by ac_rfl))).swap, z1⟩
end Go.Proofs.YtcmndglhileeoaaGreat

/- The walks of package tape: apply. -/
set_option linter.unusedSimpArgs false
set_option linter.unusedVariables false
namespace Go.Proofs.YtcmndglhileeoaaGreat
open Go.RowKit
open Rv (HP Sat Same pt allOf sat_all RdIn row own)

def recA (r : Rv.Rec) : Array Value := #[.int .i64 r.tick, .string r.key, .int .i64 r.cost, .int .i64 r.verdict]
theorem rec_right {r : Rv.Rec} (h : r.right = 0) : 0 ≤ r.tick ∧ r.tick ≤ 1099511627776 ∧ Rv.keyOk r.key = true ∧ Rv.costOk r.cost = true ∧ 0 ≤ r.verdict ∧ r.verdict ≤ 2 := by
  unfold Rv.Rec.right at h
  split at h
  · simp at h
  split at h
  · simp at h
  split at h
  · simp at h
  split at h
  · simp at h
  rename_i h1 h2 h3 h4
  simp only [Bool.not_eq_false, Rv.tickOk, Rv.verdictOk, Rv.inB, Bool.and_eq_true, decide_eq_true_eq] at h1 h2 h3 h4
  exact ⟨h1.1, h1.2, h2, h3, h4.1, h4.2⟩

set_option maxHeartbeats 1000000 in
set_option maxRecDepth 100000 in
theorem apply_any (w : World) (Q R : HP) (g : Nat) (l : Rv.Ledger) (r : Rv.Rec) (h : Sat w (ledP Q g l * (Q * R))) (hr : r.right = 0) (ht : l.tick ≤ r.tick) :
    Calls Tryz.prog 44 #[.pointer (some ⟨g, 0, none⟩), .agg #[.int .i64 r.tick, .string r.key, .int .i64 r.cost, .int .i64 r.verdict]] w (LedRes Q R w g (Rv.applyL l r) (.tuple #[])) := by
  obtain ⟨h0, h1, h2, h3, h4, h5⟩ := rec_right hr
  have S0 : Hid (Sat (w.alloc (.cells #[.int .i64 r.tick, .string r.key, .int .i64 r.cost, .int .i64 r.verdict] 44)) (ledP Q g l * (Q * (pt w.heap.size (.cells #[.int .i64 r.tick, .string r.key, .int .i64 r.cost, .int .i64 r.verdict] 44) * R)))) := Lib.hid ((h.alloc _).perm (by ac_rfl))
  have Z0 : Hid (Same w (w.alloc (.cells #[.int .i64 r.tick, .string r.key, .int .i64 r.cost, .int .i64 r.verdict] 44))) := Lib.hid (Same.of (Kept.alloc (Kept.refl (fun _ => False) _) _))
  have HK := Lib.hid h2
  have HC := Lib.hid h3
  clear h h2 h3
  go_enter Tryz.func44, Tryz.ntmps44
  go_wp2_with fail
  refine (lmove_any _ Q _ g l r.tick S0.out ht h1).mono ?_
  rintro e w1 ⟨rfl, Q1, x1, s1, z1⟩
  have S1 := Lib.hid s1
  have X1 := Lib.hid x1
  have Z1 := Lib.hid (Z0.out.then z1)
  have q := (s1.perm (show _ = pt w.heap.size (.cells #[.int .i64 r.tick, .string r.key, .int .i64 r.cost, .int .i64 r.verdict] 44) * (ledP Q1 g (l.move r.tick) * (Q1 * R)) by ac_rfl)).heap
  have d1 : w1.cell? ⟨w.heap.size, 1, none⟩ = some (.string r.key) := (cells_of q 1).trans rfl
  have d2 : w1.cell? ⟨w.heap.size, 2, none⟩ = some (.int .i64 r.cost) := (cells_of q 2).trans rfl
  have d3 : w1.cell? ⟨w.heap.size, 3, none⟩ = some (.int .i64 r.verdict) := (cells_of q 3).trans rfl
  clear x1 s1 z1 S0 Z0 q
  generalize w.heap.size = gr at *
  by_cases hv : r.verdict = 1
  · have ea : Rv.applyL l r = (l.move r.tick).charge r.key r.cost := by unfold Rv.applyL; simp only [if_pos hv]
    have EA := Lib.hid ea
    clear ea
    have e1 : (r.verdict == 1) = true := by rw [hv]; rfl
    go_wp2_with fail
    refine (charge_any w1 Q1 _ g _ r.key r.cost S1.out HK.out HC.out).mono ?_
    rintro e w2 ⟨rfl, Q2, x2, s2, z2⟩
    go_wp2_with fail
    refine bodyPost_end (v := .tuple #[]) (by simp [results, Tryz.results44, go_sem]) rfl ⟨rfl, Q2, X1.out.then x2, ?_, Z1.out.then z2⟩
    rw [EA.out]
    exact (s2.perm (show _ = pt gr (.cells #[.int .i64 r.tick, .string r.key, .int .i64 r.cost, .int .i64 r.verdict] 44) * (ledP Q2 g ((l.move r.tick).charge r.key r.cost) * (Q2 * R)) by ac_rfl)).right
  · have ea : Rv.applyL l r = l.move r.tick := by unfold Rv.applyL; simp only [if_neg hv]
    have EA := Lib.hid ea
    clear ea
    have e1 : (r.verdict == 1) = false := by simpa using hv
    go_wp2_with fail
    refine bodyPost_end (v := .tuple #[]) (by simp [results, Tryz.results44, go_sem]) rfl ⟨rfl, Q1, X1.out, ?_, Z1.out⟩
    rw [EA.out]
    exact (S1.out.perm (show _ = pt gr (.cells #[.int .i64 r.tick, .string r.key, .int .i64 r.cost, .int .i64 r.verdict] 44) * (ledP Q1 g (l.move r.tick) * (Q1 * R)) by ac_rfl)).right
end Go.Proofs.YtcmndglhileeoaaGreat

/- The walks of package policy: Read. -/
set_option linter.unusedSimpArgs false
set_option linter.unusedVariables false
namespace Go.Proofs.YtcmndglhileeoaaGreat
open Go.RowKit
open Rv (HP Sat Same pt allOf sat_all RdIn row own)

theorem results_ctc {P : Program} {fn : Func} {p q r : Tmp} {ty1 ty2 : TypeId} (h : fn.results = #[.cell p ty1, .tmp q, .cell r ty2]) (tmps : Array Value) (w : World) (g1 g2 : Nat) (t1 t2 : TypeId) (c1 c2 : Array Value) (f1 f2 : Nat × Nat) (d1 d2 : TypeDesc) (v : Value)
    (hp : tmps.getD p undef = .pointer (some ⟨g1, 0, none⟩)) (hq : tmps.getD q undef = v) (hr : tmps.getD r undef = .pointer (some ⟨g2, 0, none⟩)) (hg1 : w.heap[g1]? = some (.cells c1 t1 f1)) (hg2 : w.heap[g2]? = some (.cells c2 t2 f2))
    (hu1 : P.underlying ty1 = some d1) (hd1 : (match d1 with | .struct _ | .array _ _ => true | _ => false) = true) (hi1 : (P.info? ty1).map (·.size) = some c1.size)
    (hu2 : P.underlying ty2 = some d2) (hd2 : (match d2 with | .struct _ | .array _ _ => true | _ => false) = true) (hi2 : (P.info? ty2).map (·.size) = some c2.size) :
    (results fn tmps).run P w = .ok (.tuple #[.agg c1, v, .agg c2]) w := by
  have hp' : tmps[p]?.getD undef = .pointer (some ⟨g1, 0, none⟩) := by simpa using hp
  have hq' : tmps[q]?.getD undef = v := by simpa using hq
  have hr' : tmps[r]?.getD undef = .pointer (some ⟨g2, 0, none⟩) := by simpa using hr
  simp [results, h, hp', hq', hr', asAddr, run_loadVar_row w g1 t1 ty1 c1 f1 d1 hg1 hu1 hd1 hi1, run_loadVar_row w g2 t2 ty2 c2 f2 d2 hg2 hu2 hd2 hi2]

theorem info_flt : (Tryz.prog.info? 27).map (·.size) = some 2 := by kernel_rfl
abbrev fltCells (f : Rv.Fault) : Array Value := #[.int .i64 f.code, .int .i64 f.at_]
theorem one_pol (p : Rv.Pol) : (polCells p).all (·.oneCell') = true := by simp [Value.oneCell']
theorem one_flt (f : Rv.Fault) : (fltCells f).all (·.oneCell') = true := by simp [Value.oneCell']

/-- What policy.Read tells. -/
def preadRes : Except Rv.Fault (Rv.Pol × Nat) → Ending
  | .ok (p, to) => .returned (.tuple #[.agg (polCells p), .int .i64 (to : Int), .agg (fltCells ⟨0, 0⟩)])
  | .error f => .returned (.tuple #[.agg (polCells .zero), .int .i64 0, .agg (fltCells f)])

/-- What stands while Read works. -/
def PRd (R : HP) (w wr : World) : Prop :=
  Sat wr (pt w.heap.size (.cells (polCells .zero) 33) * (pt (w.heap.size + 1) (.cells (fltCells ⟨0, 0⟩) 27) * R)) ∧ Below w.heap.size w wr
theorem PRd.below {R : HP} {w wr w' : World} (h : PRd R w wr) (hb : Below wr.heap.size wr w') : PRd R w w' := ⟨h.1.below hb, below_then h.2 h.2.size hb⟩
theorem PRd.begin (w : World) : PRd 1 w ((w.alloc (.cells (polCells .zero) 33)).alloc (.cells (fltCells ⟨0, 0⟩) 27)) := by
  have h := ((sat_all w).alloc (.cells (polCells .zero) 33)).alloc (.cells (fltCells ⟨0, 0⟩) 27)
  simp only [World.size_alloc] at h
  refine ⟨?_, (((Below.refl w.heap.size w).alloc (Nat.le_refl _) _).alloc (by simp) _)⟩
  have h2 := (h.swap.perm (show _ = allOf w * (pt w.heap.size (.cells (polCells .zero) 33) * pt (w.heap.size + 1) (.cells (fltCells ⟨0, 0⟩) 27)) by ac_rfl)).right
  have := h2.one
  rw [Rv.star_assoc] at this
  exact this
theorem PRd.more {w wr : World} (h : PRd 1 w wr) (o : Obj) : PRd (pt wr.heap.size o) w (wr.alloc o) := by
  have h1 := h.1
  rw [Rv.star_one] at h1
  exact ⟨(h1.alloc o).perm (by ac_rfl), h.2.alloc h.2.size o⟩
/-- The end with a fault: the world behind both stores. -/
theorem PRd.exit {R : HP} {w wr : World} (h : PRd R w wr) (f : Rv.Fault) :
    ((wr.setRow w.heap.size (polCells .zero)).setRow (w.heap.size + 1) (fltCells f)).heap[w.heap.size]? = some (.cells (polCells .zero) 33 (0, 0)) ∧
    ((wr.setRow w.heap.size (polCells .zero)).setRow (w.heap.size + 1) (fltCells f)).heap[w.heap.size + 1]? = some (.cells (fltCells f) 27 (0, 0)) ∧
    Below w.heap.size w ((wr.setRow w.heap.size (polCells .zero)).setRow (w.heap.size + 1) (fltCells f)) := by
  have g1 := h.1.heap
  have g2 := h.1.right.heap
  refine ⟨?_, setRow_heap _ _ _ _ _ _ ((setRow_other _ _ _ _ (by omega)).trans g2), below_setRow (below_setRow h.2 (Nat.le_refl _) _) (by omega) _⟩
  rw [setRow_other _ _ _ _ (by omega)]
  exact setRow_heap _ _ _ _ _ _ g1
/-- The second store's old row. -/
theorem PRd.snd {R : HP} {w wr : World} (h : PRd R w wr) : (wr.setRow w.heap.size (polCells .zero)).heap[w.heap.size + 1]? = some (.cells (fltCells ⟨0, 0⟩) 27 (0, 0)) := (setRow_other _ _ _ _ (by omega)).trans h.1.right.heap
/-- What is told at such an end. -/
theorem PRd.results {R : HP} {w wr : World} (h : PRd R w wr) (f : Rv.Fault) (tmps : Array Value) (hp : tmps.getD 2 undef = .pointer (some ⟨w.heap.size, 0, none⟩)) (hq : tmps.getD 3 undef = .int .i64 0) (hr : tmps.getD 4 undef = .pointer (some ⟨w.heap.size + 1, 0, none⟩)) :
    (results Tryz.f28 tmps).run Tryz.prog ((wr.setRow w.heap.size (polCells .zero)).setRow (w.heap.size + 1) (fltCells f)) = .ok (.tuple #[.agg (polCells .zero), .int .i64 0, .agg (fltCells f)]) ((wr.setRow w.heap.size (polCells .zero)).setRow (w.heap.size + 1) (fltCells f)) :=
  results_ctc Tryz.results28 tmps _ w.heap.size (w.heap.size + 1) 33 27 (polCells .zero) (fltCells f) (0, 0) (0, 0) _ _ (.int .i64 0) hp hq hr (h.exit f).1 (h.exit f).2.1 Tryz.underlying33 (by rfl) info_pol Tryz.underlying27 (by rfl) info_flt

theorem reel_no {l : List UInt8} (h : l ≠ [82, 69, 69, 76]) : (l == [82, 69, 69, 76]) = false := by rw [beq_eq_false_iff_ne]; exact h
theorem rd_short {xs : List UInt8} (h : xs.length < 4 ∨ xs.take 4 ≠ [82, 69, 69, 76]) : Rv.Pol.read xs = .error ⟨41, 0⟩ := by
  unfold Rv.Pol.read
  rw [if_pos]
  rcases h with h | h
  · intro e
    have := congrArg List.length e
    simp at this
    omega
  · exact h

theorem conv_str (w : World) (ad : Addr) (c : Nat) (l : List UInt8) (h : RdB w (some ad) l) : (convert 22 9 (.slice (some ad) l.length c)).run Tryz.prog w = .ok (.string ⟨l.toArray⟩) w :=
  run_convert_bytes_back (P := Tryz.prog) w 22 9 5 ad c l Tryz.underlying22 Tryz.underlying5 Tryz.underlying9 (fun j hj => by
    obtain ⟨ad', e, hc⟩ := h j l[j] (List.getElem?_eq_getElem hj)
    cases e; exact hc)
theorem RdB.take {w : World} {A : Option Addr} {xs : List UInt8} (h : RdB w A xs) (n : Nat) : RdB w A (xs.take n) := fun j c hj => h j c (by
  rw [List.getElem?_take] at hj
  split at hj
  · exact hj
  · cases hj)
set_option maxHeartbeats 1000000 in
set_option maxRecDepth 100000 in
theorem pread_short (A : Option Addr) (xs : List UInt8) (c : Nat) (w : World) (hr : RdB w A xs) (hl : xs.length < 4) :
    Calls Tryz.prog 28 #[.slice A xs.length c] w fun e w' => e = preadRes (Rv.Pol.read xs) ∧ Below w.heap.size w w' := by
  rw [rd_short (.inl hl)]
  have e1 : decide ((xs.length : Int) < 4) = true := by simp; omega
  go_enter Tryz.func28, Tryz.ntmps28
  go_wp2_with fail
  exact bodyPost_ret (v := .tuple #[.agg (polCells .zero), .int .i64 0, .agg (fltCells ⟨41, 0⟩)]) (by simp [results, Tryz.results28, go_sem, Rv.Pol.zero]) rfl ⟨rfl, ((Below.refl _ _).alloc (Nat.le_refl _) _).alloc (by simp) _⟩

set_option maxHeartbeats 1000000 in
set_option maxRecDepth 100000 in
theorem pread_other (A : Option Addr) (xs : List UInt8) (c : Nat) (w : World) (hr : RdB w A xs) (hl : 4 ≤ xs.length) (hc : xs.length ≤ c) (hx : xs.take 4 ≠ [82, 69, 69, 76]) :
    Calls Tryz.prog 28 #[.slice A xs.length c] w fun e w' => e = preadRes (Rv.Pol.read xs) ∧ Below w.heap.size w w' := by
  rw [rd_short (.inr hx)]
  have e1 : decide ((xs.length : Int) < 4) = false := by simp; omega
  obtain ⟨u, hu⟩ := some_at (xs := xs) (i := 0) (by omega)
  obtain ⟨ad, rfl, _⟩ := hr 0 u hu
  have HR := Lib.hid hr
  have H4 := Lib.hid hx
  clear hr hu hx
  go_enter Tryz.func28, Tryz.ntmps28
  go_upto_region 1 with (fail)
  obtain ⟨w2, hw2⟩ : ∃ w2, w2 = (w.alloc (.cells (polCells .zero) 33)).alloc (.cells (fltCells ⟨0, 0⟩) 27) := ⟨_, rfl⟩
  change Code.wp _ _ _ _ ((w.alloc (.cells (polCells .zero) 33)).alloc (.cells (fltCells ⟨0, 0⟩) 27))
  rw [← hw2]
  have M2 : Hid (PRd 1 w w2) := Lib.hid (by rw [hw2]; exact PRd.begin w)
  clear hw2
  have hk := conv_str w2 ad c (xs.take 4) ((HR.out.below M2.out.2).take 4)
  rw [List.length_take, Nat.min_eq_left hl] at hk
  have hq : (xs.take 4 == [82, 69, 69, 76]) = false := reel_no H4.out
  go_wp2_with (first
    | ((with_reducible refine at_store 33 2 30 ?_); refine wpList_store_row rfl 33 (.tmp 2) (.tmp 30) rfl w.heap.size (polCells .zero) (by rfl) (by rfl) 33 (polCells .zero) M2.out.1.heap info_pol (by rfl) (one_pol _) ?_)
    | ((with_reducible refine at_store 27 4 31 ?_); refine wpList_store_row rfl 27 (.tmp 4) (.tmp 31) rfl (w.heap.size + 1) (fltCells ⟨41, 0⟩) (by rfl) (by rfl) 27 (fltCells ⟨0, 0⟩) M2.out.snd info_flt (by rfl) (one_flt _) ?_))
  exact bodyPost_ret (M2.out.results ⟨41, 0⟩ _ (by rfl) (by rfl) (by rfl)) rfl ⟨rfl, (M2.out.exit ⟨41, 0⟩).2.2⟩

theorem rdGo_bad : ∀ (l : Rv.Bs) (i n : Nat) (e : Int), Rv.rdGo i n l = .bad e → e = 10 ∨ e = 11
  | [], i, n, e, h => by cases h; exact .inl rfl
  | c :: r, i, n, e, h => by
    unfold Rv.rdGo at h
    simp only at h
    split at h
    · cases h; exact .inr rfl
    · split at h
      · cases h
      · exact rdGo_bad r _ _ e h
theorem rdB_bad {l : Rv.Bs} {e : Int} (h : Rv.rdB l = .bad e) : e = 10 ∨ e = 11 := rdGo_bad l 0 0 e h

theorem rd_bad1 {xs : List UInt8} (h : xs.take 4 = [82, 69, 69, 76]) {e : Int} (hb : Rv.rdB (xs.drop 4) = .bad e) : Rv.Pol.read xs = .error ⟨e, 4⟩ := by
  unfold Rv.Pol.read
  rw [if_neg (by rw [h]; simp), hb]
theorem rd_kind {xs : List UInt8} (h : xs.take 4 = [82, 69, 69, 76]) {n len : Nat} (hb : Rv.rdB (xs.drop 4) = .ok n len) (h1 : n ≠ 1) (h2 : n ≠ 2) : Rv.Pol.read xs = .error ⟨40, 4⟩ := by
  unfold Rv.Pol.read
  rw [if_neg (by rw [h]; simp), hb]
  simp only
  rw [if_pos ⟨h1, h2⟩]

end Go.Proofs.YtcmndglhileeoaaGreat

/- The walks of package policy: Read of what begins as it should. -/
set_option linter.unusedSimpArgs false
set_option linter.unusedVariables false
namespace Go.Proofs.YtcmndglhileeoaaGreat
open Go.RowKit
open Rv (HP Sat Same pt allOf sat_all RdIn row own)

/-- The policy of which the numbers l have been read. -/
def polFill (kind : Int) (l : List Int) : Rv.Pol :=
  if kind = 1 then ⟨kind, l.getD 0 0, l.getD 1 0, l.getD 2 0, 0, 0, l.getD 3 0, l.getD 4 0, l.getD 5 0, l.getD 6 0⟩ else ⟨kind, l.getD 0 0, 0, 0, l.getD 1 0, l.getD 2 0, l.getD 3 0, l.getD 4 0, l.getD 5 0, l.getD 6 0⟩
theorem fill_of {kind : Int} {l : List Int} (h : l.length = 7) : Rv.Pol.of kind l = polFill kind l := by
  rcases l with _ | ⟨a, _ | ⟨b, _ | ⟨c, _ | ⟨d, _ | ⟨e, _ | ⟨f, _ | ⟨g, _ | ⟨x, r⟩⟩⟩⟩⟩⟩⟩⟩ <;> simp at h
  rfl
theorem fill_set {kind : Int} (hk : kind = 1 ∨ kind = 2) {l : List Int} {i off : Nat} {lo hi : Int} (hl : l.length = i) (ht : (tabOf kind)[i + 1]? = some (off, lo, hi)) (n : Int) :
    (polCells (polFill kind l)).setIfInBounds off (.int .i64 n) = polCells (polFill kind (l ++ [n])) := by
  have hi7 : i < 7 := by have := (List.getElem?_eq_some_iff.1 ht).1; rw [tab_len] at this; omega
  subst hl
  rcases l with _ | ⟨a, _ | ⟨b, _ | ⟨c, _ | ⟨d, _ | ⟨e, _ | ⟨f, _ | ⟨g, r⟩⟩⟩⟩⟩⟩⟩ <;>
    first
    | (rcases hk with rfl | rfl <;> simp [tabOf, tab1, tab2] at ht <;> obtain ⟨rfl, rfl, rfl⟩ := ht <;> rfl)
    | (simp at hi7; omega)
theorem fill_zero (kind : Int) : (polCells .zero).setIfInBounds 0 (.int .i64 kind) = polCells (polFill kind []) := by unfold polFill; split <;> rfl
theorem fill_kind (kind : Int) (l : List Int) : (polFill kind l).kind = kind := by unfold polFill; split <;> rfl

theorem PRd.set {w wr : World} {g5 : Nat} {cs : Array Value} (h : PRd (pt g5 (.cells cs 33)) w wr) (hg : w.heap.size ≤ g5) (i : Nat) (v : Value) : PRd (pt g5 (.cells (cs.setIfInBounds i v) 33)) w (wr.setCell ⟨g5, i, none⟩ v) := by
  have h1 := ((h.1.perm (show _ = pt g5 (.cells cs 33) * (pt w.heap.size (.cells (polCells .zero) 33) * pt (w.heap.size + 1) (.cells (fltCells ⟨0, 0⟩) 27)) by ac_rfl)).setCell (i := i) v)
  exact ⟨h1.perm (by ac_rfl), h.2.setCell hg v⟩

theorem PRd.more_row {w wr : World} {Q : HP} {cs : Array Value} {t : TypeId} {F : Array Value} (h : PRd Q w wr) (hs : cs.size = F.size) : PRd (pt wr.heap.size (.cells F t) * Q) w ((wr.alloc (.cells cs t)).setRow wr.heap.size F) := by
  have h1 := (h.1.alloc (.cells cs t)).put (setRow_heap _ wr.heap.size _ F t (0, 0) (heap_alloc_new wr _)) (fun k hk => setRow_other _ _ _ _ hk)
  exact ⟨h1.perm (by ac_rfl), below_setRow (h.2.alloc h.2.size _) h.2.size F⟩

def addTo (l : List Int) : Except Rv.Fault (List Int × Nat) → Except Rv.Fault (List Int × Nat)
  | .error f => .error f
  | .ok (r, to) => .ok (l ++ r, to)
/-- What stands in the loop of Read: i numbers, l, have been read; the next stands at at_. -/
structure RdLoop (w wr : World) (xs : List UInt8) (g5 gf at0 : Nat) (F : Array Value) (kd : Int) (i at_ : Nat) (l : List Int) : Prop where
  len : l.length = i
  le : at_ ≤ xs.length
  cont : Rv.rdMany xs 7 at0 = addTo l (Rv.rdMany xs (7 - i) at_)
  mem : PRd (pt gf (.cells F 131) * pt g5 (.cells (polCells (polFill kd l)) 33)) w wr
theorem addTo_nil (r : Except Rv.Fault (List Int × Nat)) : addTo [] r = r := by unfold addTo; split <;> rfl
theorem RdLoop.bad {w wr : World} {xs : List UInt8} {g5 gf at0 : Nat} {F : Array Value} {kd : Int} {i at_ : Nat} {l : List Int} (h : RdLoop w wr xs g5 gf at0 F kd i at_ l) (hi : i < 7) {e : Int} (hb : Rv.rdB (xs.drop at_) = .bad e) : Rv.rdMany xs 7 at0 = .error ⟨e, at_⟩ := by
  rw [h.cont, show 7 - i = (6 - i) + 1 by omega, Rv.rdMany, hb]; rfl
theorem RdLoop.step {xs : List UInt8} {at0 : Nat} {i at_ : Nat} {l : List Int} (h : Rv.rdMany xs 7 at0 = addTo l (Rv.rdMany xs (7 - i) at_)) (hi : i < 7) {n len : Nat} (hb : Rv.rdB (xs.drop at_) = .ok n len) :
    Rv.rdMany xs 7 at0 = addTo (l ++ [(n : Int)]) (Rv.rdMany xs (7 - (i + 1)) (at_ + len)) := by
  rw [h, show 7 - i = (6 - i) + 1 by omega, Rv.rdMany, hb, show 7 - (i + 1) = 6 - i by omega]
  simp only
  cases Rv.rdMany xs (6 - i) (at_ + len) with
  | error f => rfl
  | ok r => obtain ⟨r, to⟩ := r; simp [addTo]

theorem rd_bad7 {xs : List UInt8} (h : xs.take 4 = [82, 69, 69, 76]) {n len : Nat} (hb : Rv.rdB (xs.drop 4) = .ok n len) (hn : n = 1 ∨ n = 2) {f : Rv.Fault} (h7 : Rv.rdMany xs 7 (4 + len) = .error f) : Rv.Pol.read xs = .error f := by
  unfold Rv.Pol.read
  rw [if_neg (by rw [h]; simp), hb]
  simp only
  rw [if_neg (by omega), h7]

theorem PRd.more' {Q : HP} {w wr : World} (h : PRd Q w wr) (o : Obj) : PRd (pt wr.heap.size o * Q) w (wr.alloc o) := ⟨(h.1.alloc o).perm (by ac_rfl), h.2.alloc h.2.size o⟩
theorem PRd.drew {Q : HP} {w wr : World} (h : PRd Q w wr) : PRd Q w wr.drew := ⟨h.1.drew, h.2.drew⟩
theorem PRd.fst {o : Obj} {g : Nat} {Q : HP} {w wr : World} (h : PRd (pt g o * Q) w wr) : wr.heap[g]? = some o := h.1.right.right.heap
theorem PRd.snd' {o : Obj} {g : Nat} {A Q : HP} {w wr : World} (h : PRd (A * (pt g o * Q)) w wr) : wr.heap[g]? = some o := h.1.right.right.right.heap
theorem PRd.setA {Q : HP} {w wr : World} {g : Nat} {cs : Array Value} {t : TypeId} (h : PRd (pt g (.cells cs t) * Q) w wr) (hg : w.heap.size ≤ g) (i : Nat) (v : Value) : PRd (pt g (.cells (cs.setIfInBounds i v) t) * Q) w (wr.setCell ⟨g, i, none⟩ v) := by
  have h1 := ((h.1.perm (show _ = pt g (.cells cs t) * (pt w.heap.size (.cells (polCells .zero) 33) * (pt (w.heap.size + 1) (.cells (fltCells ⟨0, 0⟩) 27) * Q)) by ac_rfl)).setCell (i := i) v)
  exact ⟨h1.perm (by ac_rfl), h.2.setCell hg v⟩
theorem PRd.last {A B C : HP} {g : Nat} {o : Obj} {w wr : World} (h : PRd (A * (B * (C * pt g o))) w wr) : wr.heap[g]? = some o := h.1.right.right.right.right.right.one.heap
theorem PRd.snd2 {R : HP} {w wr : World} (h : PRd R w wr) (q : Rv.Pol) : (wr.setRow w.heap.size (polCells q)).heap[w.heap.size + 1]? = some (.cells (fltCells ⟨0, 0⟩) 27 (0, 0)) := (setRow_other _ _ _ _ (by omega)).trans h.1.right.heap
theorem PRd.exit2 {R : HP} {w wr : World} (h : PRd R w wr) (q : Rv.Pol) (f : Rv.Fault) :
    ((wr.setRow w.heap.size (polCells q)).setRow (w.heap.size + 1) (fltCells f)).heap[w.heap.size]? = some (.cells (polCells q) 33 (0, 0)) ∧
    ((wr.setRow w.heap.size (polCells q)).setRow (w.heap.size + 1) (fltCells f)).heap[w.heap.size + 1]? = some (.cells (fltCells f) 27 (0, 0)) ∧
    Below w.heap.size w ((wr.setRow w.heap.size (polCells q)).setRow (w.heap.size + 1) (fltCells f)) := by
  have g1 := h.1.heap
  have g2 := h.1.right.heap
  refine ⟨?_, setRow_heap _ _ _ _ _ _ ((setRow_other _ _ _ _ (by omega)).trans g2), below_setRow (below_setRow h.2 (Nat.le_refl _) _) (by omega) _⟩
  rw [setRow_other _ _ _ _ (by omega)]
  exact setRow_heap _ _ _ _ _ _ g1
theorem PRd.results2 {R : HP} {w wr : World} (h : PRd R w wr) (q : Rv.Pol) (f : Rv.Fault) (v : Value) (tmps : Array Value) (hp : tmps.getD 2 undef = .pointer (some ⟨w.heap.size, 0, none⟩)) (hq : tmps.getD 3 undef = v) (hr : tmps.getD 4 undef = .pointer (some ⟨w.heap.size + 1, 0, none⟩)) :
    (Go.results Tryz.f28 tmps).run Tryz.prog ((wr.setRow w.heap.size (polCells q)).setRow (w.heap.size + 1) (fltCells f)) = .ok (.tuple #[.agg (polCells q), v, .agg (fltCells f)]) ((wr.setRow w.heap.size (polCells q)).setRow (w.heap.size + 1) (fltCells f)) :=
  results_ctc Tryz.results28 tmps _ w.heap.size (w.heap.size + 1) 33 27 (polCells q) (fltCells f) (0, 0) (0, 0) _ _ v hp hq hr (h.exit2 q f).1 (h.exit2 q f).2.1 Tryz.underlying33 (by rfl) info_pol Tryz.underlying27 (by rfl) info_flt
/-- What seal.Read told. -/
def SealIs (at_ : Nat) (r : Except Int Rv.Seal) (a b nx e : Int) : Prop := match r with
  | .error er => e = er
  | .ok s => a = s.re ∧ b = s.im ∧ nx = (at_ : Int) + 6 ∧ e = 0
theorem sealRes_is (at_ : Nat) (r : Except Int Rv.Seal) : ∃ a b nx e, sealRes at_ r = .returned (.tuple #[.agg #[.int .i64 a, .int .i64 b], .int .i64 nx, .int .i64 e]) ∧ SealIs at_ r a b nx e := by
  cases r with
  | error er => exact ⟨0, 0, 0, er, rfl, rfl⟩
  | ok s => exact ⟨s.re, s.im, _, 0, rfl, rfl, rfl, rfl, rfl⟩
theorem PRd.set2 {A : HP} {w wr : World} {g5 : Nat} {cs : Array Value} (h : PRd (A * pt g5 (.cells cs 33)) w wr) (hg : w.heap.size ≤ g5) (i : Nat) (v : Value) : PRd (A * pt g5 (.cells (cs.setIfInBounds i v) 33)) w (wr.setCell ⟨g5, i, none⟩ v) := by
  have h1 := ((h.1.perm (show _ = pt g5 (.cells cs 33) * (pt w.heap.size (.cells (polCells .zero) 33) * (pt (w.heap.size + 1) (.cells (fltCells ⟨0, 0⟩) 27) * A)) by ac_rfl)).setCell (i := i) v)
  exact ⟨h1.perm (by ac_rfl), h.2.setCell hg v⟩
theorem rd_notok {xs : List UInt8} (h : xs.take 4 = [82, 69, 69, 76]) {n len : Nat} (hb : Rv.rdB (xs.drop 4) = .ok n len) (hn : n = 1 ∨ n = 2) {l : List Int} {to : Nat} (h7 : Rv.rdMany xs 7 (4 + len) = .ok (l, to)) {p : Rv.Pol} (hp : Rv.Pol.of n l = p) (hok : p.ok = false) :
    Rv.Pol.read xs = .error ⟨40, 4⟩ := by
  unfold Rv.Pol.read
  rw [if_neg (by rw [h]; simp), hb]
  simp only
  rw [if_neg (by omega), h7]
  simp only
  rw [hp, if_pos hok]
theorem rd_seal {xs : List UInt8} (h : xs.take 4 = [82, 69, 69, 76]) {n len : Nat} (hb : Rv.rdB (xs.drop 4) = .ok n len) (hn : n = 1 ∨ n = 2) {l : List Int} {to : Nat} (h7 : Rv.rdMany xs 7 (4 + len) = .ok (l, to)) {p : Rv.Pol} (hp : Rv.Pol.of n l = p) (hok : p.ok = true) :
    Rv.Pol.read xs = match Rv.Seal.read (xs.drop to) with
      | .error e => .error ⟨e, to⟩
      | .ok s => if s = Rv.Seal.start.adds (xs.take to) then .ok (p, to + 6) else .error ⟨41, to⟩ := by
  unfold Rv.Pol.read
  rw [if_neg (by rw [h]; simp), hb]
  simp only
  rw [if_neg (by omega), h7]
  simp only
  rw [hp, if_neg (by rw [hok]; simp)]
  rfl
theorem sread_bad {l : Rv.Bs} {e : Int} (h : Rv.Seal.read l = .error e) : e = 10 ∨ e = 20 := by
  unfold Rv.Seal.read at h
  split at h
  · simp only at h
    split at h
    · cases h
    · cases h; exact .inr rfl
  · cases h; exact .inl rfl

set_option maxHeartbeats 4000000 in
set_option maxRecDepth 100000 in
theorem pread_reel (A : Option Addr) (xs : List UInt8) (c : Nat) (w : World) (hr : RdB w A xs) (hl : 4 ≤ xs.length) (hm : xs.length ≤ 140737488355328) (hc : xs.length ≤ c) (hx : xs.take 4 = [82, 69, 69, 76]) :
    Calls Tryz.prog 28 #[.slice A xs.length c] w fun e w' => e = preadRes (Rv.Pol.read xs) ∧ Below w.heap.size w w' := by
  have e1 : decide ((xs.length : Int) < 4) = false := by simp; omega
  obtain ⟨u, hu⟩ := some_at (xs := xs) (i := 0) (by omega)
  obtain ⟨ad, rfl, _⟩ := hr 0 u hu
  have HR := Lib.hid hr
  have H4 := Lib.hid hx
  clear hr hu hx
  go_enter Tryz.func28, Tryz.ntmps28
  go_upto_region 1 with (fail)
  obtain ⟨w2, hw2⟩ : ∃ w2, w2 = (w.alloc (.cells (polCells .zero) 33)).alloc (.cells (fltCells ⟨0, 0⟩) 27) := ⟨_, rfl⟩
  change Code.wp _ _ _ _ ((w.alloc (.cells (polCells .zero) 33)).alloc (.cells (fltCells ⟨0, 0⟩) 27))
  rw [← hw2]
  have M2 : Hid (PRd 1 w w2) := Lib.hid (by rw [hw2]; exact PRd.begin w)
  clear hw2
  have hk := conv_str w2 ad c (xs.take 4) ((HR.out.below M2.out.2).take 4)
  rw [List.length_take, Nat.min_eq_left hl, H4.out] at hk
  go_upto_region 4 with (fail)
  clear hk e1
  obtain ⟨w3, hw3⟩ : ∃ w3, w3 = w2.alloc (.cells (polCells .zero) 33) := ⟨_, rfl⟩
  change Code.wp _ _ _ _ (w2.alloc (.cells (polCells .zero) 33))
  rw [← hw3]
  have M3 : Hid (PRd (pt w2.heap.size (.cells (polCells .zero) 33)) w w3) := Lib.hid (by rw [hw3]; exact M2.out.more _)
  have Hg5 : Hid (w.heap.size ≤ w2.heap.size) := Lib.hid M2.out.2.size
  clear hw3 M2
  generalize w2.heap.size = g5 at *
  clear w2
  go_wp2_with fail
  refine (read_any (some ad) xs c 4 w3 (HR.out.below M3.out.2) (by omega) (by omega)).mono ?_
  rintro e w' ⟨rfl, rfl⟩
  cases hb : Rv.rdB (xs.drop 4) with
  | bad e =>
    have he := rdB_bad hb
    have he1 : (e == 0) = false := by rw [beq_eq_false_iff_ne]; omega
    have he2 : (e != 0) = true := by rw [bne, he1]; rfl
    have HX := Lib.hid (rd_bad1 H4.out hb)
    clear hb he
    unfold readRes
    go_wp2_with (first
    | ((with_reducible refine at_store 33 2 51 ?_); refine wpList_store_row rfl 33 (.tmp 2) (.tmp 51) rfl w.heap.size (polCells .zero) (by rfl) (by rfl) 33 (polCells .zero) M3.out.1.heap info_pol (by rfl) (one_pol _) ?_)
    | ((with_reducible refine at_store 27 4 54 ?_); refine wpList_store_row rfl 27 (.tmp 4) (.tmp 54) rfl (w.heap.size + 1) (fltCells ⟨e, 4⟩) (by rfl) (by rfl) 27 (fltCells ⟨0, 0⟩) M3.out.snd info_flt (by rfl) (one_flt _) ?_))
    exact bodyPost_ret (M3.out.results ⟨e, 4⟩ _ (by rfl) (by rfl) (by rfl)) rfl ⟨by rw [HX.out]; rfl, (M3.out.exit ⟨e, 4⟩).2.2⟩
  | ok n len =>
    by_cases hn : n = 1 ∨ n = 2
    · have hkn : (n : Int) = 1 ∨ (n : Int) = 2 := by omega
      obtain ⟨kd, hkd⟩ : ∃ kd : Int, kd = (n : Int) := ⟨_, rfl⟩
      have HB := Lib.hid hb
      have Hkd := Lib.hid hkd
      have hto := Rv.rdB_ok hb
      rw [← hkd] at hkn
      obtain ⟨at0, hat0⟩ : ∃ at0, at0 = 4 + len := ⟨_, rfl⟩
      have Hat0 := Lib.hid hat0
      have hle : at0 ≤ xs.length := by omega
      clear hb hn hto hat0 hkd
      rw [show readRes 4 (.ok n len) = .returned (.tuple #[.int .i64 kd, .int .i64 (at0 : Int), .int .i64 0]) from by rw [Hkd.out, Hat0.out]; rfl]
      have q5 := M3.out.1.right.right.one.heap
      have d50 : w3.cell? ⟨g5, 0, none⟩ = some (.int .i64 0) := by rw [cells_of q5]; rfl
      have f50 : w3.frozen? ⟨g5, 0, none⟩ = false := frozen_of q5 0
      clear q5
      have Hkn := Lib.hid hkn
      have k0 := Hkn.out
      rcases k0 with rfl | rfl
      all_goals
        go_upto_region 11 with (fail)
        first
        | (obtain ⟨kd, Hkd, Hk, w4, hw4, M4⟩ : ∃ kd : Int, Hid (kd = (n : Int)) ∧ Hid (kd = 1 ∨ kd = 2) ∧ ∃ w4, w4 = w3.setCell ⟨g5, 0, none⟩ (.int .i64 1) ∧ Hid (PRd (pt g5 (.cells (polCells (polFill kd [])) 33)) w w4) :=
            ⟨1, Hkd, Lib.hid (by decide), _, rfl, Lib.hid (by rw [← fill_zero]; exact M3.out.set Hg5.out 0 _)⟩
           rw [← hw4]; clear hw4)
        | (obtain ⟨kd, Hkd, Hk, w4, hw4, M4⟩ : ∃ kd : Int, Hid (kd = (n : Int)) ∧ Hid (kd = 1 ∨ kd = 2) ∧ ∃ w4, w4 = w3.setCell ⟨g5, 0, none⟩ (.int .i64 2) ∧ Hid (PRd (pt g5 (.cells (polCells (polFill kd [])) 33)) w w4) :=
            ⟨2, Hkd, Lib.hid (by decide), _, rfl, Lib.hid (by rw [← fill_zero]; exact M3.out.set Hg5.out 0 _)⟩
           rw [← hw4]; clear hw4)
        clear M3 d50 f50 Hkn
        have hk0 : w4.cell? ⟨g5, 0, none⟩ = some (.int .i64 kd) := by rw [cells_of M4.out.1.right.right.one.heap]; show some (Value.int .i64 (polFill kd []).kind) = _; rw [fill_kind]
        go_wp2_with fail
        refine (fields_tab g5 _ kd Hk.out hk0).mono ?_
        rintro e w5 ⟨F, HT, rfl, b1⟩
        clear hk0
        have HF := Lib.hid HT
        have hi : Hid ((Tryz.prog.info? 131).map (·.size) = some F.size) := Lib.hid (by rw [HT.size]; exact (zero_of_info zero131).2)
        have ho : Hid (zeros8.size = F.size) := Lib.hid (by rw [HT.size]; rfl)
        have h1c := Lib.hid HT.one
        clear HT
        have M5 := Lib.hid (M4.out.below b1)
        clear b1 M4
        have hW : Hid (∀ (w9 : World), w9 = (w5.alloc (.cells zeros8 131)).setRow w5.heap.size F → PRd (pt w5.heap.size (.cells F 131) * pt g5 (.cells (polCells (polFill kd [])) 33)) w w9) := Lib.hid (by
          rintro w9 rfl
          exact M5.out.more_row ho.out)
        go_upto_region 12 with (first
          | ((with_reducible refine at_slot 10 ?_); refine wpList_alloc rfl 131 rfl (.agg zeros8) (zero_of_info zero131).1 ?_)
          | ((with_reducible refine at_store 131 10 60 ?_); refine wpList_store_row rfl 131 (.tmp 10) (.tmp 60) rfl w5.heap.size F (by rfl) (by rfl) 131 zeros8 (heap_alloc_new w5 _) hi.out ho.out h1c.out ?_; obtain ⟨w9, hw9⟩ : ∃ w9, w9 = (w5.alloc (.cells zeros8 131)).setRow w5.heap.size F := ⟨_, rfl⟩; have M9 := Lib.hid (hW.out w9 hw9); change wpList _ _ _ _ _ ((w5.alloc (.cells zeros8 131)).setRow w5.heap.size F); rw [← hw9]; clear hw9 hW; have Hgf : Hid (w.heap.size ≤ w5.heap.size) := Lib.hid M5.out.2.size; clear M5; generalize w5.heap.size = gf at *; clear w5))
        clear ho h1c
        go_wp2_with fail
        have HL : Hid (RdLoop w w9 xs g5 gf at0 F kd 0 at0 []) := Lib.hid ⟨rfl, hle, (addTo_nil _).symm, M9.out⟩
        clear M9 hi
        go_loopw [6, 64] (fun t6 t64 wr => ∃ (i at_ : Nat) (l : List Int), t64 = .int .i64 i ∧ t6 = .int .i64 at_ ∧ i ≤ 7 ∧ RdLoop w wr xs g5 gf at0 F kd i at_ l) (fun _ i _ => 7 - (intOf i).toNat)
        case atStart => exact ⟨0, at0, [], rfl, rfl, by omega, HL.out⟩
        case round =>
          obtain ⟨i, at_, l, rfl, rfl, hi7, hm⟩ := hrel
          have Hm := Lib.hid hm
          clear hm HL
          by_cases hlt : i < 7
          · obtain ⟨⟨off, lo, hi⟩, ht⟩ := some_at (xs := tabOf kd) (i := i + 1) (by rw [tab_len]; omega)
            obtain ⟨f0, f1, f2⟩ := HF.out.cells (i + 1) off lo hi ht
            have Ht := Lib.hid ht
            have hoff := tab_off ht
            have hla := Hm.out.le
            have qf := Hm.out.mem.1.right.right.heap
            have c0 : wr.cell? ⟨gf, 3 + i * 3, none⟩ = some (fp g5 off) := by rw [cells_of qf, show 3 + i * 3 = 3 * (i + 1) by omega]; exact f0
            have c1 : wr.cell? ⟨gf, 3 + i * 3 + 1, none⟩ = some (.int .i64 lo) := by rw [cells_of qf, show 3 + i * 3 + 1 = 3 * (i + 1) + 1 by omega]; exact f1
            have c2 : wr.cell? ⟨gf, 3 + i * 3 + 2, none⟩ = some (.int .i64 hi) := by rw [cells_of qf, show 3 + i * 3 + 2 = 3 * (i + 1) + 2 by omega]; exact f2
            clear ht f0 f1 f2 qf
            go_wp2_with fail
            obtain ⟨wb, hwb⟩ : ∃ wb, wb = wr.alloc (.cells #[fp g5 off, .int .i64 lo, .int .i64 hi] 130) := ⟨_, rfl⟩
            change Calls _ _ _ (wr.alloc (.cells #[fp g5 off, .int .i64 lo, .int .i64 hi] 130)) _
            rw [← hwb]
            have bb : Below wr.heap.size wr wb := by rw [hwb]; exact (Below.refl _ _).alloc (Nat.le_refl _) _
            have Mb : Hid (PRd (pt gf (.cells F 131) * pt g5 (.cells (polCells (polFill kd l)) 33)) w wb) := Lib.hid (Hm.out.mem.below bb)
            have cb : wb.cell? ⟨wr.heap.size, 0, none⟩ = some (fp g5 off) := by rw [hwb, cells_of (heap_alloc_new wr _)]; rfl
            clear c0 c1 c2 bb hwb
            refine (read_any (some ad) xs c at_ wb (HR.out.below Mb.out.2) (by omega) hla).mono ?_
            rintro e w' ⟨rfl, rfl⟩
            cases hb : Rv.rdB (xs.drop at_) with
            | bad e =>
              have he := rdB_bad hb
              have he2 : (e != 0) = true := by rw [bne, beq_eq_false_iff_ne.2 (by omega)]; rfl
              have HX := Lib.hid (rd_bad7 H4.out HB.out (Hk.out.imp (fun h => by rw [Hkd.out] at h; omega) (fun h => by rw [Hkd.out] at h; omega)) (by rw [← Hat0.out]; exact Hm.out.bad hlt hb))
              clear hb he cb
              unfold readRes
              go_wp2_with (first
    | ((with_reducible refine at_store 33 2 77 ?_); refine wpList_store_row rfl 33 (.tmp 2) (.tmp 77) rfl w.heap.size (polCells .zero) (by rfl) (by rfl) 33 (polCells .zero) Mb.out.1.heap info_pol (by rfl) (one_pol _) ?_)
    | ((with_reducible refine at_store 27 4 80 ?_); refine wpList_store_row rfl 27 (.tmp 4) (.tmp 80) rfl (w.heap.size + 1) (fltCells ⟨e, at_⟩) (by rfl) (by rfl) 27 (fltCells ⟨0, 0⟩) Mb.out.snd info_flt (by rfl) (one_flt _) ?_))
              exact bodyPost_ret (Mb.out.results ⟨e, at_⟩ _ (by rfl) (by rfl) (by rfl)) rfl ⟨by rw [HX.out]; rfl, (Mb.out.exit ⟨e, at_⟩).2.2⟩
            | ok v len2 =>
              have Hv := Lib.hid hb
              have hto := Rv.rdB_ok hb
              obtain ⟨at2, hat2⟩ : ∃ at2, at2 = at_ + len2 := ⟨_, rfl⟩
              rw [show readRes at_ (.ok v len2) = .returned (.tuple #[.int .i64 (v : Int), .int .i64 (at2 : Int), .int .i64 0]) from by rw [hat2]; rfl]
              have Hat2 := Lib.hid hat2
              clear hb hat2
              have q5 := Mb.out.1.right.right.right.one.heap
              have d5 : wb.cell? ⟨g5, off, none⟩ = some (.int .i64 (fld (polFill kd l) off)) := by rw [cells_of q5]; exact cell_fld _ off hoff
              have f5 : wb.frozen? ⟨g5, off, none⟩ = false := frozen_of q5 off
              clear q5
              go_wp2_with fail
              have Hm2 : Hid (RdLoop w (wb.setCell ⟨g5, off, none⟩ (.int .i64 (v : Int))) xs g5 gf at0 F kd (i + 1) at2 (l ++ [(v : Int)])) := Lib.hid ⟨by rw [List.length_append, Hm.out.len]; rfl, by rw [Hat2.out]; omega, by rw [Hat2.out]; exact RdLoop.step Hm.out.cont hlt Hv.out,
                by rw [← fill_set Hk.out Hm.out.len Ht.out]; exact Mb.out.set2 Hg5.out off _⟩
              go_roundw
              case rel => exact ⟨i + 1, at2, l ++ [(v : Int)], by go_num, rfl, by omega, Hm2.out⟩
              case measure => simp [intOf]; omega
          · obtain rfl : i = 7 := by omega
            have H7 : Hid (Rv.rdMany xs 7 at0 = .ok (l, at_)) := Lib.hid (by rw [Hm.out.cont]; simp [addTo, Rv.rdMany])
            obtain ⟨p, hp⟩ : ∃ p, p = polFill kd l := ⟨_, rfl⟩
            have Hp : Hid (Rv.Pol.of kd l = p) := Lib.hid (by rw [hp]; exact fill_of Hm.out.len)
            have Mp : Hid (PRd (pt gf (.cells F 131) * pt g5 (.cells (polCells p) 33)) w wr) := Lib.hid (by rw [hp]; exact Hm.out.mem)
            have hla := Hm.out.le
            clear hp hlt Hm
            have q5 := Lib.hid (Mp.out.1.right.right.right.one.heap)
            go_wp2_with ((with_reducible refine at_slot 87 ?_); refine wpList_load_row rfl 33 (.tmp 5) rfl g5 (by rfl) 33 (polCells p) (0, 0) _ q5.out Tryz.underlying33 (by rfl) info_pol ?_)
            clear q5
            refine (pright_any p _).mono ?_
            rintro e w6 ⟨rfl, b6⟩
            have M6 := Lib.hid (Mp.out.below b6)
            clear b6 Mp
            cases hok : p.ok with
            | false =>
              rw [right_40 hok]
              have HX := Lib.hid (rd_notok H4.out HB.out (Hk.out.imp (fun h => by rw [Hkd.out] at h; omega) (fun h => by rw [Hkd.out] at h; omega)) (by rw [← Hat0.out]; exact H7.out) (by rw [← Hkd.out]; exact Hp.out) hok)
              clear hok
              go_wp2_with (first
    | ((with_reducible refine at_store 33 2 91 ?_); refine wpList_store_row rfl 33 (.tmp 2) (.tmp 91) rfl w.heap.size (polCells .zero) (by rfl) (by rfl) 33 (polCells .zero) M6.out.1.heap info_pol (by rfl) (one_pol _) ?_)
    | ((with_reducible refine at_store 27 4 93 ?_); refine wpList_store_row rfl 27 (.tmp 4) (.tmp 93) rfl (w.heap.size + 1) (fltCells ⟨40, 4⟩) (by rfl) (by rfl) 27 (fltCells ⟨0, 0⟩) M6.out.snd info_flt (by rfl) (one_flt _) ?_))
              exact bodyPost_ret (M6.out.results ⟨40, 4⟩ _ (by rfl) (by rfl) (by rfl)) rfl ⟨by rw [HX.out]; rfl, (M6.out.exit ⟨40, 4⟩).2.2⟩
            | true =>
              rw [right_0 hok]
              have Hok := Lib.hid hok
              clear hok
              go_wp2_with fail
              have HX := Lib.hid (rd_seal H4.out HB.out (Hk.out.imp (fun h => by rw [Hkd.out] at h; omega) (fun h => by rw [Hkd.out] at h; omega)) (by rw [← Hat0.out]; exact H7.out) (by rw [← Hkd.out]; exact Hp.out) Hok.out)
              have HA : Hid (∀ w8, RdB w8 (some ad) xs → Calls Tryz.prog 37 #[sealV Rv.Seal.start, .slice (some ad) at_ c] w8 fun e w' => e = .returned (.tuple #[.agg #[.int .i64 (Rv.Seal.start.adds (xs.take at_)).re, .int .i64 (Rv.Seal.start.adds (xs.take at_)).im], .int .i64 0]) ∧ Below w8.heap.size w8 w') := Lib.hid (fun w8 h8 => by
                have := add_any Rv.Seal.start (some ad) (xs.take at_) c w8 (h8.take at_) (by rw [List.length_take]; omega) (by rfl)
                rw [List.length_take, Nat.min_eq_left hla] at this
                exact this)
              obtain ⟨due, hdue⟩ : ∃ s, s = Rv.Seal.start.adds (xs.take at_) := ⟨_, rfl⟩
              rw [← hdue] at HA HX
              clear hdue
              refine (sread_any (some ad) xs c at_ w6 (HR.out.below M6.out.2) (by omega) hc hla).mono ?_
              rintro e w7 ⟨rfl, b7⟩
              have M7 := Lib.hid (M6.out.below b7)
              clear b7 M6
              obtain ⟨sa, sb, nx, er, hres, his⟩ := sealRes_is at_ (Rv.Seal.read (xs.drop at_))
              rw [hres]
              have His := Lib.hid his
              clear hres his
              go_upto_region 24 with (fail)
              have hs0 : (0 : Int) ≤ (at_ : Int) := by omega
              have hs1 : (at_ : Int) ≤ (c : Int) := by omega
              obtain ⟨w8, hw8⟩ : ∃ w8, w8 = w7.alloc (.cells #[.int .i64 sa, .int .i64 sb] 61) := ⟨_, rfl⟩
              have M8 : Hid (PRd (pt w7.heap.size (.cells #[.int .i64 sa, .int .i64 sb] 61) * (pt gf (.cells F 131) * pt g5 (.cells (polCells p) 33))) w w8) := Lib.hid (by rw [hw8]; exact M7.out.more' _)
              rw [← hw8]
              clear hw8 M7
              generalize w7.heap.size = g18 at *
              clear w7
              go_region_held3 (fun _ => True) (first | exact trivial | go_keep)
                (first
                  | (go_at_call 56; refine (start_any w8.drew).mono ?_; rintro e w9 ⟨rfl, b9⟩; have M9 : Hid (PRd (pt g18 (.cells #[.int .i64 sa, .int .i64 sb] 61) * (pt gf (.cells F 131) * pt g5 (.cells (polCells p) 33))) w w9) := Lib.hid (M8.out.drew.below b9); clear b9)
                  | (go_at_call 56; refine (start_any (w8.drew.alloc (.cells #[.int .i64 0, .int .i64 0] 61))).mono ?_; rintro e w9 ⟨rfl, b9⟩; have M9 : Hid (PRd (pt w8.heap.size (.cells #[.int .i64 0, .int .i64 0] 61) * (pt g18 (.cells #[.int .i64 sa, .int .i64 sb] 61) * (pt gf (.cells F 131) * pt g5 (.cells (polCells p) 33)))) w w9) := Lib.hid ((M8.out.drew.more' (.cells #[.int .i64 0, .int .i64 0] 61)).below b9); have Hg19 : Hid (w.heap.size ≤ w8.heap.size) := Lib.hid M8.out.2.size; clear b9)
                  | (go_at_call 37; have M9a := Lib.hid (M9.out.more' (.cells #[.int .i64 0, .int .i64 0] 61)); refine (HA.out (w9.alloc (.cells #[.int .i64 0, .int .i64 0] 61)) (HR.out.below M9a.out.2)).mono ?_; rintro e w10 ⟨rfl, b10⟩; have M10 := Lib.hid (M9a.out.below b10); have Hg19 : Hid (w.heap.size ≤ w9.heap.size) := Lib.hid M9.out.2.size; clear b10; have d0 : w10.cell? ⟨w9.heap.size, 0, none⟩ = some (.int .i64 0) := (cells_of M10.out.fst 0).trans rfl; have d1 : w10.cell? ⟨w9.heap.size, 1, none⟩ = some (.int .i64 0) := (cells_of M10.out.fst 1).trans rfl; have df0 : w10.frozen? ⟨w9.heap.size, 0, none⟩ = false := frozen_of M10.out.fst 0; have df1 : w10.frozen? ⟨w9.heap.size, 1, none⟩ = false := frozen_of M10.out.fst 1)
                  | (go_at_call 37; refine (HA.out w9 (HR.out.below M9.out.2)).mono ?_; rintro e w10 ⟨rfl, b10⟩; have M10 := Lib.hid (M9.out.below b10); clear b10; try (have d0 : w10.cell? ⟨w8.heap.size, 0, none⟩ = some (.int .i64 0) := (cells_of M10.out.fst 0).trans rfl; have d1 : w10.cell? ⟨w8.heap.size, 1, none⟩ = some (.int .i64 0) := (cells_of M10.out.fst 1).trans rfl; have df0 : w10.frozen? ⟨w8.heap.size, 0, none⟩ = false := frozen_of M10.out.fst 0; have df1 : w10.frozen? ⟨w8.heap.size, 1, none⟩ = false := frozen_of M10.out.fst 1)))
              all_goals
                first
                | (have M11 : Hid (PRd (pt w8.heap.size (.cells #[.int .i64 due.re, .int .i64 due.im] 61) * (pt g18 (.cells #[.int .i64 sa, .int .i64 sb] 61) * (pt gf (.cells F 131) * pt g5 (.cells (polCells p) 33)))) w ((w10.setCell ⟨w8.heap.size, 0, none⟩ (.int .i64 due.re)).setCell ⟨w8.heap.size, 1, none⟩ (.int .i64 due.im))) := Lib.hid ((M10.out.setA Hg19.out 0 _).setA Hg19.out 1 _); clear d0 d1 df0 df1; generalize (w10.setCell ⟨w8.heap.size, 0, none⟩ (.int .i64 due.re)).setCell ⟨w8.heap.size, 1, none⟩ (.int .i64 due.im) = w11 at *; generalize w8.heap.size = g19 at *)
                | (have M11 : Hid (PRd (pt w9.heap.size (.cells #[.int .i64 due.re, .int .i64 due.im] 61) * (pt g18 (.cells #[.int .i64 sa, .int .i64 sb] 61) * (pt gf (.cells F 131) * pt g5 (.cells (polCells p) 33)))) w ((w10.setCell ⟨w9.heap.size, 0, none⟩ (.int .i64 due.re)).setCell ⟨w9.heap.size, 1, none⟩ (.int .i64 due.im))) := Lib.hid ((M10.out.setA Hg19.out 0 _).setA Hg19.out 1 _); clear d0 d1 df0 df1; generalize (w10.setCell ⟨w9.heap.size, 0, none⟩ (.int .i64 due.re)).setCell ⟨w9.heap.size, 1, none⟩ (.int .i64 due.im) = w11 at *; generalize w9.heap.size = g19 at *)
                | (have M11 : Hid (PRd (pt w10.heap.size (.cells #[.int .i64 due.re, .int .i64 due.im] 61) * (pt g18 (.cells #[.int .i64 sa, .int .i64 sb] 61) * (pt gf (.cells F 131) * pt g5 (.cells (polCells p) 33)))) w (w10.alloc (.cells #[.int .i64 due.re, .int .i64 due.im] 61))) := Lib.hid (M10.out.more' (.cells #[.int .i64 due.re, .int .i64 due.im] 61)); generalize w10.alloc (.cells #[.int .i64 due.re, .int .i64 due.im] 61) = w11 at *; generalize w10.heap.size = g19 at *)
              all_goals
                clear M8 M9 M10 HA
                have k0 : w11.cell? ⟨g18, 0, none⟩ = some (.int .i64 sa) := (cells_of M11.out.snd' 0).trans rfl
                have k1 : w11.cell? ⟨g18, 1, none⟩ = some (.int .i64 sb) := (cells_of M11.out.snd' 1).trans rfl
                have k2 : w11.cell? ⟨g19, 0, none⟩ = some (.int .i64 due.re) := (cells_of M11.out.fst 0).trans rfl
                have k3 : w11.cell? ⟨g19, 1, none⟩ = some (.int .i64 due.im) := (cells_of M11.out.fst 1).trans rfl
                cases hsr : Rv.Seal.read (xs.drop at_) with
                | error e =>
                  rw [hsr] at His HX
                  have h2 : er = e := His.out
                  subst h2
                  have he := sread_bad hsr
                  have he1 : (er == 0) = false := beq_eq_false_iff_ne.2 (by omega)
                  have he2 : (er != 0) = true := by rw [bne, he1]; rfl
                  clear hsr he His
                  go_wp2_with (first
                    | ((with_reducible refine at_store 33 2 118 ?_); refine wpList_store_row rfl 33 (.tmp 2) (.tmp 118) rfl w.heap.size (polCells .zero) (by rfl) (by rfl) 33 (polCells .zero) M11.out.1.heap info_pol (by rfl) (one_pol _) ?_)
                    | ((with_reducible refine at_store 27 4 121 ?_); refine wpList_store_row rfl 27 (.tmp 4) (.tmp 121) rfl (w.heap.size + 1) (fltCells ⟨er, at_⟩) (by rfl) (by rfl) 27 (fltCells ⟨0, 0⟩) M11.out.snd info_flt (by rfl) (one_flt _) ?_))
                  exact bodyPost_ret (M11.out.results ⟨er, at_⟩ _ (by rfl) (by rfl) (by rfl)) rfl ⟨by rw [HX.out]; rfl, (M11.out.exit ⟨er, at_⟩).2.2⟩
                | ok s =>
                  rw [hsr] at His HX
                  obtain ⟨rfl, rfl, rfl, rfl⟩ := His.out
                  clear hsr His
                  by_cases hsd : s = due
                  · have HX2 : Hid (Rv.Pol.read xs = .ok (p, at_ + 6)) := Lib.hid (by rw [HX.out]; exact if_pos hsd)
                    subst hsd
                    clear HX
                    have q5 := Lib.hid M11.out.last
                    go_wp2_with (first
                      | ((with_reducible refine at_slot 122 ?_); refine wpList_load_row rfl 33 (.tmp 5) rfl g5 (by rfl) 33 (polCells p) (0, 0) _ q5.out Tryz.underlying33 (by rfl) info_pol ?_)
                      | ((with_reducible refine at_store 33 2 122 ?_); refine wpList_store_row rfl 33 (.tmp 2) (.tmp 122) rfl w.heap.size (polCells p) (by rfl) (by rfl) 33 (polCells .zero) M11.out.1.heap info_pol (by rfl) (one_pol _) ?_)
                      | ((with_reducible refine at_store 27 4 124 ?_); refine wpList_store_row rfl 27 (.tmp 4) (.tmp 124) rfl (w.heap.size + 1) (fltCells ⟨0, 0⟩) (by rfl) (by rfl) 27 (fltCells ⟨0, 0⟩) (M11.out.snd2 p) info_flt (by rfl) (one_flt _) ?_))
                    exact bodyPost_ret (M11.out.results2 p ⟨0, 0⟩ (.int .i64 ((at_ : Int) + 6)) _ (by rfl) (by rfl) (by rfl)) rfl ⟨by rw [HX2.out]; rfl, (M11.out.exit2 p ⟨0, 0⟩).2.2⟩
                  · have HX2 : Hid (Rv.Pol.read xs = .error ⟨41, at_⟩) := Lib.hid (by rw [HX.out]; exact if_neg hsd)
                    clear HX
                    by_cases h1 : s.re = due.re
                    · have h2 : ¬ s.im = due.im := fun h2 => hsd (by cases s; cases due; simp only at h1 h2; rw [h1, h2])
                      clear hsd
                      go_wp2_with (first
                        | ((with_reducible refine at_store 33 2 118 ?_); refine wpList_store_row rfl 33 (.tmp 2) (.tmp 118) rfl w.heap.size (polCells .zero) (by rfl) (by rfl) 33 (polCells .zero) M11.out.1.heap info_pol (by rfl) (one_pol _) ?_)
                        | ((with_reducible refine at_store 27 4 121 ?_); refine wpList_store_row rfl 27 (.tmp 4) (.tmp 121) rfl (w.heap.size + 1) (fltCells ⟨41, at_⟩) (by rfl) (by rfl) 27 (fltCells ⟨0, 0⟩) M11.out.snd info_flt (by rfl) (one_flt _) ?_))
                      exact bodyPost_ret (M11.out.results ⟨41, at_⟩ _ (by rfl) (by rfl) (by rfl)) rfl ⟨by rw [HX2.out]; rfl, (M11.out.exit ⟨41, at_⟩).2.2⟩
                    · clear hsd
                      go_wp2_with (first
                        | ((with_reducible refine at_store 33 2 118 ?_); refine wpList_store_row rfl 33 (.tmp 2) (.tmp 118) rfl w.heap.size (polCells .zero) (by rfl) (by rfl) 33 (polCells .zero) M11.out.1.heap info_pol (by rfl) (one_pol _) ?_)
                        | ((with_reducible refine at_store 27 4 121 ?_); refine wpList_store_row rfl 27 (.tmp 4) (.tmp 121) rfl (w.heap.size + 1) (fltCells ⟨41, at_⟩) (by rfl) (by rfl) 27 (fltCells ⟨0, 0⟩) M11.out.snd info_flt (by rfl) (one_flt _) ?_))
                      exact bodyPost_ret (M11.out.results ⟨41, at_⟩ _ (by rfl) (by rfl) (by rfl)) rfl ⟨by rw [HX2.out]; rfl, (M11.out.exit ⟨41, at_⟩).2.2⟩
    · have h1 : n ≠ 1 := by omega
      have h2 : n ≠ 2 := by omega
      have HX := Lib.hid (rd_kind H4.out hb h1 h2)
      have k1 : ((n : Int) == 1) = false := by rw [beq_eq_false_iff_ne]; omega
      have k2 : ((n : Int) == 2) = false := by rw [beq_eq_false_iff_ne]; omega
      have k3 : ((n : Int) != 1) = true := by rw [bne, k1]; rfl
      have k4 : ((n : Int) != 2) = true := by rw [bne, k2]; rfl
      clear hb hn h1 h2
      unfold readRes
      go_wp2_with (first
    | ((with_reducible refine at_store 33 2 51 ?_); refine wpList_store_row rfl 33 (.tmp 2) (.tmp 51) rfl w.heap.size (polCells .zero) (by rfl) (by rfl) 33 (polCells .zero) M3.out.1.heap info_pol (by rfl) (one_pol _) ?_)
    | ((with_reducible refine at_store 27 4 54 ?_); refine wpList_store_row rfl 27 (.tmp 4) (.tmp 54) rfl (w.heap.size + 1) (fltCells ⟨40, 4⟩) (by rfl) (by rfl) 27 (fltCells ⟨0, 0⟩) M3.out.snd info_flt (by rfl) (one_flt _) ?_))
      exact bodyPost_ret (M3.out.results ⟨40, 4⟩ _ (by rfl) (by rfl) (by rfl)) rfl ⟨by rw [HX.out]; rfl, (M3.out.exit ⟨40, 4⟩).2.2⟩

/-- policy.Read, of any bytes. -/
theorem pread_any (A : Option Addr) (xs : List UInt8) (c : Nat) (w : World) (hr : RdB w A xs) (hm : xs.length ≤ 140737488355328) (hc : xs.length ≤ c) :
    Calls Tryz.prog 28 #[.slice A xs.length c] w fun e w' => e = preadRes (Rv.Pol.read xs) ∧ Below w.heap.size w w' := by
  by_cases hl : 4 ≤ xs.length
  · by_cases hx : xs.take 4 = [82, 69, 69, 76]
    · exact pread_reel A xs c w hr hl hm hc hx
    · exact pread_other A xs c w hr hl hc hx
  · exact pread_short A xs c w hr (by omega)
end Go.Proofs.YtcmndglhileeoaaGreat

/- Walks of package record: New, Coder.key. -/
set_option linter.unusedSimpArgs false
set_option linter.unusedVariables false
namespace Go.Proofs.YtcmndglhileeoaaGreat
open Go.RowKit
open Rv (HP Sat Same pt allOf sat_all RdIn row own)

set_option maxHeartbeats 1000000 in
set_option maxRecDepth 100000 in
theorem rnew_bad (p : Rv.Pol) (w : World) (h : p.ok = false) :
    Calls Tryz.prog 35 #[.agg (polCells p)] w fun e w' => e = .returned (.tuple #[.pointer none, .int .i64 40]) ∧ Below w.heap.size w w' := by
  have HB := Lib.hid (fun o => (Below.refl w.heap.size w).alloc (Nat.le_refl _) o)
  have HR := Lib.hid (right_40 h)
  clear h
  go_enter Tryz.func35, Tryz.ntmps35
  go_wp2_with ((with_reducible refine at_slot 7 ?_); refine wpList_load_row rfl 33 (.tmp 1) rfl w.heap.size (by rfl) 33 (polCells p) (0, 0) _ (heap_alloc_new w _) Tryz.underlying33 (by rfl) info_pol ?_)
  refine (pright_any p _).mono ?_
  rintro e w1 ⟨rfl, b1⟩
  rw [HR.out]
  have B1 := Lib.hid (below_then (HB.out _) (by simp) b1)
  clear b1
  go_wp2_with fail
  go_ret2
  exact ⟨rfl, B1.out⟩

theorem slots_ok {p : Rv.Pol} (h : p.ok = true) : 1 ≤ p.slots ∧ p.slots ≤ 64 := by
  have h1 : (p.fields.all fun f => Rv.inB f.1 f.2.1 f.2.2) = true := by
    unfold Rv.Pol.ok at h
    exact (Bool.and_eq_true_iff.1 h).2
  have h2 := (all_iff p (kind_ok h)).1 h1 5 (by omega) 7 1 64 (by unfold tabOf; split <;> rfl)
  exact h2

set_option maxHeartbeats 1000000 in
set_option maxRecDepth 100000 in
theorem rnew_ok (R : HP) (p : Rv.Pol) (w : World) (hR : Sat w R) (h : p.ok = true) :
    Calls Tryz.prog 35 #[.agg (polCells p)] w fun e w' => ∃ g, e = .returned (.tuple #[.pointer (some ⟨g, 0, none⟩), .int .i64 0]) ∧ Sat w' (coderP g (Rv.Coder.new p) * R) ∧ Same w w' := by
  have S0 := Lib.hid (hR.alloc (.cells (polCells p) 33))
  have Z0 : Hid (Same w (w.alloc (.cells (polCells p) 33))) := Lib.hid (Same.of (Kept.alloc (Kept.refl (fun _ => False) _) _))
  have Hok := Lib.hid h
  have HR := Lib.hid (right_0 h)
  clear h hR
  go_enter Tryz.func35, Tryz.ntmps35
  go_wp2_with ((with_reducible refine at_slot 7 ?_); refine wpList_load_row rfl 33 (.tmp 1) rfl w.heap.size (by rfl) 33 (polCells p) (0, 0) _ (heap_alloc_new w _) Tryz.underlying33 (by rfl) info_pol ?_)
  refine (pright_any p _).mono ?_
  rintro e w1 ⟨rfl, b1⟩
  rw [HR.out]
  have S1 := Lib.hid (S0.out.below b1)
  have Z1 := Lib.hid (Z0.out.then (Rv.Same.below b1))
  have c7 : w1.cell? ⟨w.heap.size, 7, none⟩ = some (.int .i64 p.slots) := by rw [cells_of S1.out.heap]; rfl
  clear b1 S0 Z0
  go_wp2_with fail
  obtain ⟨q0, q1⟩ := slots_ok Hok.out
  have hs : p.slots = ((p.slots.toNat : Nat) : Int) := by omega
  rw [hs]
  refine (snew_dict w1 _ p.slots.toNat S1.out (by omega) (by omega)).mono ?_
  rintro e w2 ⟨gd, rfl, s2, z2⟩
  have S2 := Lib.hid (s2.alloc (.cells #[.pointer (some ⟨gd, 0, none⟩), .int .i64 0, .int .i64 0] 108))
  have Z2 := Lib.hid ((Z1.out.then z2).then (Same.of (Kept.alloc (Kept.refl (fun _ => False) _) (.cells #[.pointer (some ⟨gd, 0, none⟩), .int .i64 0, .int .i64 0] 108))))
  clear s2 z2 S1 Z1 c7 hs
  go_wp2_with fail
  go_ret2
  exact ⟨_, rfl, (coderP_shut (c := Rv.Coder.new p) ⟨by show (0 : Int) ≤ 0; omega, by show (0 : Int) ≤ _; omega, by show (0 : Int) ≤ 0; omega, by show (0 : Int) ≤ _; omega⟩ S2.out.drop3), Z2.out⟩

/-- What Coder.key tells. -/
def KeyRes (R : HP) (w : World) (g gd : Nat) (c : Rv.Coder) (r : Except Rv.Fault (Rv.Dict × ByteArray × Nat)) (e : Ending) (w' : World) : Prop := match r with
  | .error f => e = .returned (.tuple #[.string ⟨#[]⟩, .int .i64 0, .int .i64 f.at_, .int .i64 f.code]) ∧ w = w'
  | .ok (d, key, to) => e = .returned (.tuple #[.string key, .int .i64 (to : Int), .int .i64 0, .int .i64 0]) ∧ Sat w' (pt g (.cells #[.pointer (some ⟨gd, 0, none⟩), .int .i64 c.tick, .int .i64 c.cost] 108 (0, 0)) * (dictP gd d * R)) ∧ Same w w'

theorem RdB.dropAt {w : World} {ad : Addr} {xs : List UInt8} (h : RdB w (some ad) xs) (i : Nat) : RdB w (some (ad.add i)) (xs.drop i) := fun j c hj => by
  rw [List.getElem?_drop] at hj
  obtain ⟨ad', e, hc⟩ := h _ _ hj
  cases e
  exact ⟨_, rfl, by rw [add_add]; exact hc⟩
theorem dget_bad {d : Rv.Dict} {xs : Rv.Bs} {at_ : Nat} {e : Int} (h : Rv.rdB (xs.drop at_) = .bad e) : d.get xs at_ = .error ⟨e, at_⟩ := by unfold Rv.Dict.get; rw [h]
theorem dget_pos {d : Rv.Dict} {xs : Rv.Bs} {at_ n len : Nat} (h : Rv.rdB (xs.drop at_) = .ok n len) (hn : 0 < n) : d.get xs at_ = match d.touch (n - 1) with
      | none => .error ⟨64, at_⟩
      | some (d', key) => .ok (d', key, at_ + len) := by unfold Rv.Dict.get; rw [h]; simp only; rw [if_pos hn]; rfl
theorem dget_zero {d : Rv.Dict} {xs : Rv.Bs} {at_ len at2 : Nat} (h : Rv.rdB (xs.drop at_) = .ok 0 len) (h2 : at2 = at_ + len) : d.get xs at_ = match Rv.rdB (xs.drop at2) with
      | .bad e => .error ⟨e, at2⟩
      | .ok k len2 =>
        if k < 1 ∨ 64 < k then .error ⟨61, at2⟩
        else if xs.length < at2 + len2 + k then .error ⟨10, (at2 + len2 : Nat)⟩
        else
          let key : ByteArray := ⟨((xs.drop (at2 + len2)).take k).toArray⟩
          if (d.find key).isSome then .error ⟨64, (at2 + len2 : Nat)⟩
          else .ok ((d.use key).1, key, at2 + len2 + k) := by
  subst h2; unfold Rv.Dict.get; rw [h]; simp only; rw [if_neg (by omega)]; rfl

set_option maxHeartbeats 4000000 in
set_option maxRecDepth 100000 in
theorem key_any (w : World) (R : HP) (g gd : Nat) (c : Rv.Coder) (A : Option Addr) (xs : List UInt8) (cp at_ : Nat) (h : Sat w (pt g (.cells #[.pointer (some ⟨gd, 0, none⟩), .int .i64 c.tick, .int .i64 c.cost] 108 (0, 0)) * (dictP gd c.d * R)))
    (hR : RdB w A xs) (hm : xs.length ≤ 140737488355328) (hcp : xs.length ≤ cp) (ha : at_ ≤ xs.length) :
    Calls Tryz.prog 95 #[.pointer (some ⟨g, 0, none⟩), .slice A xs.length cp, .int .i64 (at_ : Int)] w (KeyRes R w g gd c (c.d.get xs at_)) := by
  have H := Lib.hid h
  have HR := Lib.hid hR
  have d0 : w.cell? ⟨g, 0, none⟩ = some (.pointer (some ⟨gd, 0, none⟩)) := by rw [cells_of h.heap]; rfl
  clear h hR
  go_enter Tryz.func95, Tryz.ntmps95
  go_wp2_with fail
  refine (read_any A xs cp at_ w HR.out (by omega) ha).mono ?_
  rintro e w' ⟨rfl, rfl⟩
  cases hb : Rv.rdB (xs.drop at_) with
  | bad e =>
    have he2 : (e != 0) = true := by rw [bne, beq_eq_false_iff_ne.2 (by have := rdB_bad hb; omega)]; rfl
    have HX := Lib.hid (dget_bad (d := c.d) hb)
    clear hb
    unfold readRes
    go_wp2_with fail
    rw [HX.out]
    exact bodyPost_ret (v := .tuple #[.string ⟨#[]⟩, .int .i64 0, .int .i64 at_, .int .i64 e]) (by simp [results, Tryz.results95, go_sem]) rfl ⟨rfl, rfl⟩
  | ok n len =>
    have hto := Rv.rdB_ok hb
    obtain ⟨at2, hat2⟩ : ∃ at2, at2 = at_ + len := ⟨_, rfl⟩
    have Hat2 := Lib.hid hat2
    have hle2 : at2 ≤ xs.length := by omega
    rw [show readRes at_ (.ok n len) = .returned (.tuple #[.int .i64 (n : Int), .int .i64 (at2 : Int), .int .i64 0]) from by rw [hat2]; rfl]
    clear hat2 hto
    by_cases hn : 0 < n
    · have HX := Lib.hid (dget_pos (d := c.d) hb hn)
      rw [← Hat2.out] at HX
      have hn2 : (n : Int) - 1 = ((n - 1 : Nat) : Int) := by omega
      have hn3 : n ≤ 4611686018427387903 := (Rv.rdB_form hb).2.1
      have hw : IntKind.i64.wrap ((n : Int) - 1) = ((n - 1 : Nat) : Int) := by rw [IntWalk.i64_in _ (by omega), hn2]
      clear hb hn2
      cases hk : c.d.keys[n - 1]? with
      | none =>
        have HX2 : Hid (c.d.get xs at_ = .error ⟨64, at_⟩) := Lib.hid (by
          rw [HX.out]; unfold Rv.Dict.touch; rw [if_neg (by rw [List.getElem?_eq_none_iff] at hk; omega)])
        have Hl := Lib.hid (List.getElem?_eq_none_iff.1 hk)
        clear HX hk
        go_wp2_with fail
        refine (stouch_no w _ gd c.d (n - 1) H.out.swap Hl.out).mono ?_
        rintro e w' ⟨rfl, rfl⟩
        go_wp2_with fail
        rw [HX2.out]
        exact bodyPost_ret (v := .tuple #[.string ⟨#[]⟩, .int .i64 0, .int .i64 at_, .int .i64 64]) (by simp [results, Tryz.results95, go_sem]) rfl ⟨rfl, rfl⟩
      | some key =>
        have HX2 : Hid (c.d.get xs at_ = .ok (c.d.used (n - 1), key, at2)) := Lib.hid (by
          rw [HX.out]; unfold Rv.Dict.touch; rw [if_pos (List.getElem?_eq_some_iff.1 hk).1]; simp only [List.getD, hk]; rfl)
        have Hk := Lib.hid hk
        clear HX hk
        go_wp2_with fail
        refine (stouch_yes w _ gd c.d (n - 1) key H.out.swap Hk.out).mono ?_
        rintro e w2 ⟨rfl, s2, z2⟩
        have S2 := Lib.hid s2.swap
        have Z2 := Lib.hid z2
        clear s2 z2
        go_wp2_with fail
        rw [HX2.out]
        exact bodyPost_ret (v := .tuple #[.string key, .int .i64 at2, .int .i64 0, .int .i64 0]) (by simp [results, Tryz.results95, go_sem]) rfl ⟨rfl, S2.out, Z2.out⟩
    · obtain rfl : n = 0 := by omega
      have HX := Lib.hid (dget_zero (d := c.d) hb Hat2.out)
      clear hb hn
      go_wp2_with fail
      refine (read_any A xs cp at2 w HR.out (by omega) hle2).mono ?_
      rintro e w' ⟨rfl, rfl⟩
      cases hb : Rv.rdB (xs.drop at2) with
      | bad e =>
        have he2 : (e != 0) = true := by rw [bne, beq_eq_false_iff_ne.2 (by have := rdB_bad hb; omega)]; rfl
        rw [hb] at HX
        clear hb
        unfold readRes
        go_wp2_with fail
        rw [HX.out]
        exact bodyPost_ret (v := .tuple #[.string ⟨#[]⟩, .int .i64 0, .int .i64 at2, .int .i64 e]) (by simp [results, Tryz.results95, go_sem]) rfl ⟨rfl, rfl⟩
      | ok k len2 =>
        have hto := Rv.rdB_ok hb
        have hk62 : k ≤ 4611686018427387903 := (Rv.rdB_form hb).2.1
        obtain ⟨at3, hat3⟩ : ∃ at3, at3 = at2 + len2 := ⟨_, rfl⟩
        have Hat3 := Lib.hid hat3
        have hle3 : at3 ≤ xs.length := by omega
        rw [show readRes at2 (.ok k len2) = .returned (.tuple #[.int .i64 (k : Int), .int .i64 (at3 : Int), .int .i64 0]) from by rw [hat3]; rfl]
        rw [hb] at HX
        replace HX := Lib.hid HX.out
        simp only [← hat3] at HX
        clear hat3 hto hb
        go_wp2_with fail
        by_cases hmk : k < 1 ∨ 64 < k
        · have HX2 : Hid (c.d.get xs at_ = .error ⟨61, at2⟩) := Lib.hid (by rw [HX.out]; exact if_pos hmk)
          refine (mayKey_any (k : Int) false (by unfold Rv.inB; rcases hmk with h | h <;> simp <;> omega) w).mono ?_
          rintro e w' ⟨rfl, rfl⟩
          clear hmk HX
          go_wp2_with fail
          rw [HX2.out]
          exact bodyPost_ret (v := .tuple #[.string ⟨#[]⟩, .int .i64 0, .int .i64 at2, .int .i64 61]) (by simp [results, Tryz.results95, go_sem]) rfl ⟨rfl, rfl⟩
        · refine (mayKey_any (k : Int) true (by unfold Rv.inB; simp; omega) w).mono ?_
          rintro e w' ⟨rfl, rfl⟩
          have hw3 : IntKind.i64.wrap ((xs.length : Int) - (at3 : Int)) = (xs.length : Int) - (at3 : Int) := IntWalk.i64_in _ (by omega)
          by_cases hsh : xs.length < at3 + k
          · have HX2 : Hid (c.d.get xs at_ = .error ⟨10, (at3 : Nat)⟩) := Lib.hid (by rw [HX.out, if_neg hmk, if_pos hsh])
            have e3 : decide ((xs.length : Int) - (at3 : Int) < (k : Int)) = true := by simp; omega
            clear hmk HX hsh
            go_wp2_with fail
            rw [HX2.out]
            exact bodyPost_ret (v := .tuple #[.string ⟨#[]⟩, .int .i64 0, .int .i64 at3, .int .i64 10]) (by simp [results, Tryz.results95, go_sem]) rfl ⟨rfl, rfl⟩
          · have e3 : decide ((xs.length : Int) - (at3 : Int) < (k : Int)) = false := by simp; omega
            obtain ⟨key, hkey⟩ : ∃ key : ByteArray, key = ⟨((xs.drop at3).take k).toArray⟩ := ⟨_, rfl⟩
            have hks : key.size = k := by rw [hkey]; show ((xs.drop at3).take k).toArray.size = k; simp; omega
            obtain ⟨u, hu⟩ := some_at (xs := xs) (i := 0) (by omega)
            obtain ⟨ad, rfl, _⟩ := HR.out 0 u hu
            have hcv := conv_str w (ad.add at3) (cp - at3) ((xs.drop at3).take k) ((HR.out.dropAt at3).take k)
            rw [show ((xs.drop at3).take k).length = k by simp; omega, ← hkey] at hcv
            have HX1 : Hid (c.d.get xs at_ = if (c.d.find key).isSome then .error ⟨64, (at3 : Nat)⟩ else .ok ((c.d.use key).1, key, at3 + k)) := Lib.hid (by rw [HX.out, if_neg hmk, if_neg hsh, hkey])
            have hk1 : 1 ≤ key.size := by omega
            have hk2 : key.size ≤ 64 := by omega
            have hs0 : (0 : Int) ≤ (at3 : Int) := by omega
            have hs1 : (at3 : Int) + (k : Int) ≤ (cp : Int) := by omega
            have hs2 : (at3 : Int) ≤ (at3 : Int) + (k : Int) := by omega
            have hs3 : ((at3 : Int) + (k : Int)).toNat = at3 + k := by omega
            have hs4 : at3 + k - at3 = k := by omega
            have hs5 : ¬ cp = at3 := by omega
            have hw5 : IntKind.i64.wrap ((at3 : Int) + (k : Int)) = (at3 : Int) + (k : Int) := IntWalk.i64_in _ (by omega)
            clear hmk HX hsh hu hks hkey
            go_wp2_with fail
            refine (slook w _ gd c.d key H.out.swap).mono ?_
            rintro e w' ⟨rfl, rfl⟩
            have HK := Lib.hid hk1
            have HK2 := Lib.hid hk2
            clear hcv hs0 hs1 hs2 hs3 hs4 hs5 hk1 hk2
            cases hf : c.d.find key with
            | some s =>
              have HX2 : Hid (c.d.get xs at_ = .error ⟨64, (at3 : Nat)⟩) := Lib.hid (by rw [HX1.out, hf]; rfl)
              have hl : decide ((0 : Int) ≤ lookRes (some s)) = true := by simp [lookRes]
              clear hf HX1
              go_wp2_with fail
              rw [HX2.out]
              exact bodyPost_ret (v := .tuple #[.string ⟨#[]⟩, .int .i64 0, .int .i64 at3, .int .i64 64]) (by simp [results, Tryz.results95, go_sem]) rfl ⟨rfl, rfl⟩
            | none =>
              have HX2 : Hid (c.d.get xs at_ = .ok ((c.d.use key).1, key, at3 + k)) := Lib.hid (by rw [HX1.out, hf]; rfl)
              have hl : decide ((0 : Int) ≤ lookRes none) = false := by simp [lookRes]
              clear hf HX1
              go_wp2_with fail
              refine (suse w _ gd c.d key H.out.swap HK.out HK2.out).mono ?_
              rintro e w2 ⟨rfl, s2, z2⟩
              have S2 := Lib.hid s2.swap
              have Z2 := Lib.hid z2
              clear s2 z2
              go_wp2_with fail
              rw [HX2.out]
              exact bodyPost_ret (v := .tuple #[.string key, .int .i64 ((at3 + k : Nat) : Int), .int .i64 0, .int .i64 0]) (by simp [results, Tryz.results95, go_sem]) rfl ⟨rfl, S2.out, Z2.out⟩
end Go.Proofs.YtcmndglhileeoaaGreat
