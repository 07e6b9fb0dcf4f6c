/- Walks of package dict: Look, used. -/
import Derived.Test.YtcmndglhileeoaaGreatQDictA
import Derived.Deep.RegionWith
set_option linter.unusedSimpArgs false
set_option linter.unusedVariables false
namespace Go.Proofs.YtcmndglhileeoaaGreat
open Go.RowKit

set_option maxHeartbeats 1000000 in
set_option maxRecDepth 100000 in
theorem used_low (w : World) (g bm : Nat) (room : Int) (kv ov : Value) (order : List Nat) (slot : Nat) (hg : w.heap[g]? = some (.cells #[.int .i64 room, kv, .map (some bm), ov] 166 (0, 0)))
    (ho : OwnV w 0 3 ov (order.map intv)) (hl : order.length ≤ 64) (hs : slot ∈ order) :
    Calls Tryz.prog 86 #[.pointer (some ⟨g, 0, none⟩), .int .i64 (slot : Int)] w fun e w' => e = .returned (.tuple #[]) ∧ OwnV w' 0 3 ov ((slot :: order.erase slot).map intv) ∧ Kept (fun k => ov.ownBlock = some k) w w' := by
  obtain ⟨p, hp⟩ : ∃ p, p = order.idxOf slot := ⟨_, rfl⟩
  have hpl : p < order.length := by rw [hp]; exact List.idxOf_lt_length_iff.2 hs
  have hpx : order[p]? = some slot := by
    rw [List.getElem?_eq_getElem hpl]
    congr 1
    subst hp
    exact List.getElem_idxOf hpl
  have hno : ∀ j, j < p → order[j]? ≠ some slot := by
    intro j hj h
    obtain ⟨hjl, hje⟩ := List.getElem?_eq_some_iff.1 h
    have := List.not_of_lt_findIdx (p := (· == slot)) (xs := order) (i := j) (by rw [hp] at hj; exact hj)
    simp [hje] at this
  have her : order.erase slot = order.eraseIdx p := by rw [List.erase_eq_eraseIdx_of_idxOf hp.symm]
  have Hr := ho.shape
  obtain ⟨A, c, hov, hc, hcm, hr⟩ := Hr
  rw [List.length_map] at hov
  subst hov
  have c0 : w.cell? ⟨g, 3, none⟩ = some (.slice A order.length c) := by rw [cells_of hg]; rfl
  rw [her]
  have Hp := Lib.hid hpx
  have Hno := Lib.hid hno
  have Ho := Lib.hid ho
  have Hr := Lib.hid hr
  clear hp hpx hno ho hr hg her hs
  go_enter Tryz.func86, Tryz.ntmps86
  go_region_with (first
    | (go_at_call 117; refine (index_any A order c slot p w.drew Hr.out (by omega) Hp.out Hno.out).mono ?_; rintro e w1 ⟨rfl, rfl⟩)
    | (go_at_call 116; refine (ahead_any (.slice A order.length c) order p slot w.drew Ho.out hl Hp.out).mono ?_; rintro e w2 ⟨rfl, ho2, hk2⟩))
  all_goals
    refine bodyPost_end (v := .tuple #[]) (by simp [results, Tryz.results86, go_sem]) rfl ⟨rfl, ho2, ?_⟩
    exact ⟨hk2.os, hk2.tape, hk2.output, hk2.size, hk2.block⟩

/-! ### what a dictionary is -/
structure DOk (d : Rv.Dict) : Prop where
  r0 : 1 ≤ d.room
  r1 : d.room ≤ 64
  few : d.keys.length ≤ d.room
  nodup : d.keys.Nodup
  size : ∀ k ∈ d.keys, k.size ≤ 64
  perm : d.order.Perm (List.range d.keys.length)

theorem DOk.len {d : Rv.Dict} (h : DOk d) : d.order.length = d.keys.length := by simpa using h.perm.length_eq
theorem DOk.mem {d : Rv.Dict} (h : DOk d) {s : Nat} : s ∈ d.order ↔ s < d.keys.length := by rw [h.perm.mem_iff, List.mem_range]
theorem DOk.used {d : Rv.Dict} (h : DOk d) {s : Nat} (hs : s < d.keys.length) : DOk (d.used s) := by
  refine ⟨h.r0, h.r1, h.few, h.nodup, h.size, ?_⟩
  show (s :: d.order.erase s).Perm _
  exact ((List.perm_cons_erase (h.mem.2 hs)).symm).trans h.perm
theorem idxOf_of : ∀ {l : List ByteArray} (_ : l.Nodup) {s : Nat} {k : ByteArray} (_ : l[s]? = some k), l.idxOf k = s
  | [], _, _, _, h => by simp at h
  | a :: r, hn, 0, k, h => by
    haveI := Rv.ba_lawful
    simp at h
    subst h
    exact List.idxOf_cons_self
  | a :: r, hn, s + 1, k, h => by
    haveI := Rv.ba_lawful
    obtain ⟨h1, h2⟩ := List.nodup_cons.1 hn
    have h3 : r[s]? = some k := by simpa using h
    have hne : k ≠ a := fun e => h1 (e ▸ List.mem_of_getElem? h3)
    rw [List.idxOf_cons, Rv.ba_eq, decide_eq_false (Ne.symm hne), idxOf_of h2 h3]
    rfl
theorem find_of {d : Rv.Dict} (h : d.keys.Nodup) {s : Nat} {k : ByteArray} (hk : d.keys[s]? = some k) : d.find k = some s := by
  unfold Rv.Dict.find
  rw [idxOf_of h hk, if_pos (List.getElem?_eq_some_iff.1 hk).1]
theorem find_some {d : Rv.Dict} {s : Nat} {k : ByteArray} (h : d.find k = some s) : d.keys[s]? = some k := by
  haveI := Rv.ba_lawful
  unfold Rv.Dict.find at h
  split at h
  · rename_i hl
    injection h with h
    subst h
    rw [List.getElem?_eq_getElem hl]
    congr 1
    exact List.getElem_idxOf hl
  · cases h
theorem find_none {d : Rv.Dict} {k : ByteArray} : d.find k = none ↔ k ∉ d.keys := by
  haveI := Rv.ba_lawful
  unfold Rv.Dict.find
  split
  · rename_i hl
    simp [List.idxOf_lt_length_iff.1 hl]
  · rename_i hl
    simp
    exact fun h => hl (List.idxOf_lt_length_iff.2 h)

/-- At g stands a dictionary; its memory lies in S. -/
def DictAt (w : World) (S : Nat → Prop) (g : Nat) (d : Rv.Dict) : Prop :=
  DOk d ∧ ∃ kv bm ov es clock, w.heap[g]? = some (.cells #[.int .i64 (d.room : Int), kv, .map (some bm), ov] 166 (0, 0)) ∧
    OwnV w 0 9 kv (d.keys.map .string) ∧ OwnV w 0 3 ov (d.order.map intv) ∧
    w.heap[bm]? = some (.map es clock) ∧ Rv.SMap es clock ∧ (∀ k, Rv.findE es.toList k = (d.find k).map intv) ∧
    S g ∧ S bm ∧ (∀ k, kv.ownBlock = some k → S k) ∧ (∀ k, ov.ownBlock = some k → S k)

theorem DictAt.kept {w w' : World} {S T : Nat → Prop} {g : Nat} {d : Rv.Dict} (h : DictAt w S g d) (k : Kept T w w') (hd : ∀ i, S i → ¬ T i) : DictAt w' S g d := by
  obtain ⟨ok, kv, bm, ov, es, clock, h1, h2, h3, h4, h5, h6, h7, h8, h9, h10⟩ := h
  refine ⟨ok, kv, bm, ov, es, clock, ?_, h2.kept k (fun i hi => hd i (h9 i hi)), h3.kept k (fun i hi => hd i (h10 i hi)), ?_, h5, h6, h7, h8, h9, h10⟩
  · rw [k.block g (Array.getElem?_eq_some_iff.1 h1).1 (hd g h7)]; exact h1
  · rw [k.block bm (Array.getElem?_eq_some_iff.1 h4).1 (hd bm h8)]; exact h4
theorem DictAt.mono {w : World} {S S' : Nat → Prop} {g : Nat} {d : Rv.Dict} (h : DictAt w S g d) (hs : ∀ i, i < w.heap.size → S i → S' i) : DictAt w S' g d := by
  obtain ⟨ok, kv, bm, ov, es, clock, h1, h2, h3, h4, h5, h6, h7, h8, h9, h10⟩ := h
  exact ⟨ok, kv, bm, ov, es, clock, h1, h2, h3, h4, h5, h6, hs _ (Array.getElem?_eq_some_iff.1 h1).1 h7, hs _ (Array.getElem?_eq_some_iff.1 h4).1 h8, fun k hk => hs _ (h2.block k hk).2 (h9 k hk), fun k hk => hs _ (h3.block k hk).2 (h10 k hk)⟩
theorem DictAt.below {w w' : World} {S : Nat → Prop} {g : Nat} {d : Rv.Dict} (h : DictAt w S g d) (hb : Below w.heap.size w w') : DictAt w' S g d := h.kept (Kept.of_below (S := fun _ => False) hb) (fun _ _ h => h)

theorem zero_int (w : World) : (zeroValue 3).run Tryz.prog w = .ok (.int .i64 0) w := by go_simp

def lookRes (o : Option Nat) : Int := match o with | some s => (s : Int) | none => -1

set_option maxHeartbeats 1000000 in
theorem look_any (w : World) (S : Nat → Prop) (g : Nat) (d : Rv.Dict) (key : ByteArray) (h : DictAt w S g d) :
    Calls Tryz.prog 85 #[.pointer (some ⟨g, 0, none⟩), .string key] w fun e w' => e = .returned (.int .i64 (lookRes (d.find key))) ∧ w = w' := by
  obtain ⟨ok, kv, bm, ov, es, clock, h1, h2, h3, h4, h5, h6, _⟩ := h
  have c0 : w.cell? ⟨g, 2, none⟩ = some (.map (some bm)) := by rw [cells_of h1]; rfl
  have hrun := Rv.run_look (P := Tryz.prog) (t := 164) (k := 9) (e := 3) Tryz.underlying164 Tryz.underlying9 h4 h5 key zero_int true
  rw [h6] at hrun
  clear h1 h2 h3 h4 h5 h6 ok
  cases hf : d.find key with
  | none =>
    rw [hf] at hrun
    simp only [Option.map_none, Option.getD_none, Option.isSome_none, if_true] at hrun
    clear hf
    go_enter Tryz.func85, Tryz.ntmps85
    go_wp2
    go_ret
    exact ⟨rfl, rfl⟩
  | some s =>
    rw [hf] at hrun
    simp only [Option.map_some, Option.getD_some, Option.isSome_some, if_true] at hrun
    clear hf
    go_enter Tryz.func85, Tryz.ntmps85
    go_wp2
    go_ret
    exact ⟨rfl, rfl⟩
end Go.Proofs.YtcmndglhileeoaaGreat
