/- The walks of package tape: what a maker is; adds. -/
import Derived.Test.YtcmndglhileeoaaGreatQTapeB
import Derived.Deep.DeepCutAuto
set_option linter.unusedSimpArgs false
set_option linter.unusedVariables false
namespace Go.Proofs.YtcmndglhileeoaaGreat
open Go.RowKit
open Rv (HP Sat Same pt allOf sat_all RdIn row own)

/-- The cells of a maker, and what stands behind it. -/
abbrev makCells (p : Rv.Pol) (gc gl : Nat) (l : Rv.Link) (sv : Value) (n z : Nat) (ev : Value) : Array Value :=
  #[.int .i64 p.kind, .int .i64 p.cap, .int .i64 p.num, .int .i64 p.den, .int .i64 p.width, .int .i64 p.count, .int .i64 p.keys, .int .i64 p.slots, .int .i64 p.every, .int .i64 p.seg,
    .pointer (some ⟨gc, 0, none⟩), .pointer (some ⟨gl, 0, none⟩), .int .i64 l.number, .int .i64 l.bytes, .int .i64 l.sl.re, .int .i64 l.sl.im, sv, .int .i64 (n : Int), .int .i64 (z : Int), ev]
def makBox (T : TypeId) (g : Nat) (p : Rv.Pol) (gc gl : Nat) (l : Rv.Link) (sv : Value) (n z : Nat) (ev : Value) : HP := pt g (.cells (makCells p gc gl l sv n z ev) T)
abbrev stepCells (gc : Nat) (ov : Value) (l : Rv.Link) (pv cv tv : Value) (b : Bool) : Array Value :=
  #[.pointer (some ⟨gc, 0, none⟩), ov, .int .i64 l.number, .int .i64 l.bytes, .int .i64 l.sl.re, .int .i64 l.sl.im, pv, cv, tv, .bool b]
abbrev stepZero : Array Value := #[.pointer none, .pointer none, .int .i64 0, .int .i64 0, .int .i64 0, .int .i64 0, .slice none 0 0, .slice none 0 0, .slice none 0 0, .bool false]

/-- What makes a maker's numbers such that may be. -/
structure MOk (m : Rv.Maker) : Prop where
  ok : m.p.ok = true
  lp : m.owed.p = m.p
  may : m.link.may = true
  n1 : m.records ≤ 10000
  z1 : m.size ≤ 4194304
  s1 : m.segment.length ≤ m.size
  o1 : m.owed.of.length ≤ m.records
  tk : m.owed.tick ≤ m.coder.tick
  kp : ∀ k ∈ m.coder.d.keys, Rv.keyOk k = true

theorem mak_facts {w : World} {T : TypeId} {g : Nat} {p : Rv.Pol} {gc gl : Nat} {l : Rv.Link} {sv : Value} {n z : Nat} {ev : Value} {R : HP} (h : Sat w (makBox T g p gc gl l sv n z ev * R)) :
    w.cell? ⟨g, 8, none⟩ = some (.int .i64 p.every) ∧ w.cell? ⟨g, 9, none⟩ = some (.int .i64 p.seg) ∧ w.cell? ⟨g, 10, none⟩ = some (.pointer (some ⟨gc, 0, none⟩)) ∧ w.cell? ⟨g, 11, none⟩ = some (.pointer (some ⟨gl, 0, none⟩)) ∧
    w.cell? ⟨g, 12, none⟩ = some (.int .i64 l.number) ∧ w.cell? ⟨g, 13, none⟩ = some (.int .i64 l.bytes) ∧ w.cell? ⟨g, 14, none⟩ = some (.int .i64 l.sl.re) ∧ w.cell? ⟨g, 15, none⟩ = some (.int .i64 l.sl.im) ∧
    w.cell? ⟨g, 16, none⟩ = some sv ∧ w.cell? ⟨g, 17, none⟩ = some (.int .i64 (n : Int)) ∧ w.cell? ⟨g, 18, none⟩ = some (.int .i64 (z : Int)) ∧ w.cell? ⟨g, 19, none⟩ = some ev := by
  have q := Rv.Sat.heap h
  refine ⟨?_, ?_, ?_, ?_, ?_, ?_, ?_, ?_, ?_, ?_, ?_, ?_⟩ <;> (rw [cells_of q]; rfl)

theorem seg_pos {p : Rv.Pol} (h : p.ok = true) : 1 ≤ p.seg ∧ p.seg ≤ 1000 ∧ 0 ≤ p.every ∧ p.every ≤ 1000 := by
  unfold Rv.Pol.ok at h
  rw [Bool.and_eq_true] at h
  have h2 := h.2
  simp only [Rv.Pol.fields, List.all_append, List.all_cons, List.all_nil, Rv.inB, Bool.and_true, Bool.and_eq_true, decide_eq_true_eq] at h2
  omega

theorem stp_facts {w : World} {g gc : Nat} {ov pv cv tv : Value} {l : Rv.Link} {b : Bool} {R : HP} (h : Sat w (pt g (.cells (stepCells gc ov l pv cv tv b) 74) * R)) :
    w.cell? ⟨g, 0, none⟩ = some (.pointer (some ⟨gc, 0, none⟩)) ∧ w.cell? ⟨g, 1, none⟩ = some ov ∧ w.cell? ⟨g, 2, none⟩ = some (.int .i64 l.number) ∧ w.cell? ⟨g, 3, none⟩ = some (.int .i64 l.bytes) ∧ w.cell? ⟨g, 4, none⟩ = some (.int .i64 l.sl.re) ∧ w.cell? ⟨g, 5, none⟩ = some (.int .i64 l.sl.im) ∧
    w.cell? ⟨g, 6, none⟩ = some pv ∧ w.cell? ⟨g, 7, none⟩ = some cv ∧ w.cell? ⟨g, 8, none⟩ = some tv ∧ w.cell? ⟨g, 9, none⟩ = some (.bool b) := by
  have q := Rv.Sat.heap h
  refine ⟨?_, ?_, ?_, ?_, ?_, ?_, ?_, ?_, ?_, ?_⟩ <;> (rw [cells_of q]; rfl)

/-- What a step has of its own: the ledger, if it applied the record. -/
def owedP (Q : HP) (ov : Value) : Option Rv.Ledger → HP
  | some l => fun h => ∃ g, ov = .pointer (some ⟨g, 0, none⟩) ∧ ledP Q g l h
  | none => fun h => ov = .pointer none ∧ (1 : HP) h

def addOwed (m : Rv.Maker) (r : Rv.Rec) : Option Rv.Ledger := if 0 < m.p.every ∧ ((m.records : Int) + 1) % m.p.every = 0 then some (Rv.applyL m.owed r) else none
def addCheck (m : Rv.Maker) (r : Rv.Rec) : Rv.Bs := match addOwed m r with | some l => l.bytes | none => []
theorem owedP_none {w : World} {Q R : HP} (h : Sat w R) : Sat w (owedP Q (.pointer none) none * R) := by
  rw [← Rv.one_star R] at h
  exact h.imp (fun a ha => ⟨rfl, ha⟩)
theorem owedP_some {w : World} {Q R : HP} {g : Nat} {l : Rv.Ledger} (h : Sat w (ledP Q g l * R)) : Sat w (owedP Q (.pointer (some ⟨g, 0, none⟩)) (some l) * R) := h.imp (fun a ha => ⟨g, rfl, ha⟩)
theorem owedP_ptr {w : World} {Q R : HP} {ov : Value} {o : Option Rv.Ledger} (h : Sat w (owedP Q ov o * R)) : ∃ q, ov = .pointer q := by
  obtain ⟨a, ha, _⟩ := h.left
  cases o with
  | none => exact ⟨none, ha.1⟩
  | some l => obtain ⟨g, e, _⟩ := ha; exact ⟨_, e⟩
/-- Behind the check. -/
def AddsMid (Q F : HP) (w wx : World) (g10 gl gc : Nat) (m : Rv.Maker) (r : Rv.Rec) (pv : Value) : Prop :=
  ∃ ov A c Q', Ext Q Q' ∧ Sat wx (pt g10 (.cells (stepCells gc ov m.link pv (.slice A (addCheck m r).length c) (.slice none 0 0) false) 74) * (owedP Q' ov (addOwed m r) * (bytesP (.slice A (addCheck m r).length c) (addCheck m r) * (ledP Q' gl m.owed * (Q' * F))))) ∧ Same w wx ∧ (addCheck m r).length ≤ 4100000 ∧ (addOwed m r = none → A = none ∧ c = 0)

theorem led_bytes_len {w : World} {Q R : HP} {g : Nat} {l : Rv.Ledger} (h : Sat w (ledP Q g l * R)) (hn : l.of.length ≤ 10001) : l.bytes.length ≤ 4100000 := by
  obtain ⟨bm, es, clock, hl, _⟩ := ledP_open h
  have := outK_len (led_small hl) l.of.length (Nat.le_refl _)
  rw [outK_all] at this
  omega
theorem of_put (l : Rv.Owed) (key : ByteArray) (d : Rv.Debt) : (l.put key d).length ≤ l.length + 1 := by
  induction l with
  | nil => simp [Rv.Owed.put]
  | cons e l ih =>
    obtain ⟨k, x⟩ := e
    unfold Rv.Owed.put
    split
    · simp
    split
    · simp
    · simp only [List.length_cons]; omega
theorem of_apply (l : Rv.Ledger) (r : Rv.Rec) : (Rv.applyL l r).of.length ≤ l.of.length + 1 := by
  have h1 : (l.move r.tick).of.length ≤ l.of.length := by
    unfold Rv.Ledger.move
    split
    · exact Nat.le_refl _
    · exact Nat.le_trans (List.length_filter_le _ _) (by simp)
  unfold Rv.applyL
  simp only
  split
  · unfold Rv.Ledger.charge
    split
    · omega
    · have := of_put (l.move r.tick).of r.key (((l.move r.tick).debt r.key).take (l.move r.tick).p r.cost)
      simp only
      omega
  · omega

def addEnds (m : Rv.Maker) : Bool := decide (((m.records : Int) + 1) % m.p.seg = 0)
def addLink (m : Rv.Maker) (r : Rv.Rec) (piece : Rv.Bs) : Rv.Link := if addEnds m then (m.link.next (m.segment ++ piece ++ addCheck m r)).1 else m.link
def addTr (m : Rv.Maker) (r : Rv.Rec) (piece : Rv.Bs) : Rv.Bs := if addEnds m then (addLink m r piece).enc else []
def addSize (m : Rv.Maker) (r : Rv.Rec) (piece : Rv.Bs) : Nat := m.size + piece.length + (addCheck m r).length
theorem info_step : (Tryz.prog.info? 74).map (·.size) = some 10 := by kernel_rfl
theorem one_step (gc : Nat) (op : Option Addr) (l : Rv.Link) (A1 A2 A3 : Option Addr) (n1 n2 n3 c1 c2 c3 : Nat) (b : Bool) : (stepCells gc (.pointer op) l (.slice A1 n1 c1) (.slice A2 n2 c2) (.slice A3 n3 c3) b).all (·.oneCell') = true := by simp [Value.oneCell']
theorem rdV_u8 {w : World} {A : Option Addr} {xs : List UInt8} (h : RdV w A (u8s xs)) : RdB w A xs := fun j c hc => h j _ (by unfold u8s; rw [List.getElem?_map, hc]; rfl)
theorem next_may {l : Rv.Link} {xs : Rv.Bs} (h : l.may = true) (hl : xs.length ≤ 4194304) : (l.next xs).1.may = true := by
  obtain ⟨h0, h1, h2, h3, h4⟩ := may_parts h
  unfold Rv.Link.next
  rw [if_neg (by rw [h]; simp), if_neg (by omega)]
  split
  · rfl
  · rename_i hn
    have h5 := adds_right h4 xs
    unfold Rv.Link.may
    simp only [h5, Bool.and_true, Bool.and_eq_true, decide_eq_true_eq]
    omega
theorem numN_len (n : Nat) : (Rv.numN n).length ≤ n + 1 := by
  induction n using Nat.strongRecOn with
  | _ n ih =>
    unfold Rv.numN
    split
    · simp
    · have := ih (n / 128) (by omega)
      simp only [List.length_cons]
      omega
theorem enc_len (l : Rv.Link) : l.enc.length ≤ 1099511627776 := by
  unfold Rv.Link.enc
  split
  · have h1 := Rv.numB_len l.number
    have h2 := Rv.numB_len l.bytes
    have h3 : l.sl.bytes.length ≤ 6 := by unfold Rv.Seal.bytes; split <;> simp [Rv.b3]
    simp only [List.length_append]
    omega
  · simp
theorem ten_sets {w : World} {g : Nat} {a0 a1 a2 a3 a4 a5 a6 a7 a8 a9 : Value} (b0 b1 b2 b3 b4 b5 b6 b7 b8 b9 : Value) {t : TypeId} {R : HP} (h : Sat w (pt g (.cells #[a0, a1, a2, a3, a4, a5, a6, a7, a8, a9] t) * R)) : Sat ((((((((((w.setCell ⟨g, 0, none⟩ b0).setCell ⟨g, 1, none⟩ b1).setCell ⟨g, 2, none⟩ b2).setCell ⟨g, 3, none⟩ b3).setCell ⟨g, 4, none⟩ b4).setCell ⟨g, 5, none⟩ b5).setCell ⟨g, 6, none⟩ b6).setCell ⟨g, 7, none⟩ b7).setCell ⟨g, 8, none⟩ b8).setCell ⟨g, 9, none⟩ b9) (pt g (.cells #[b0, b1, b2, b3, b4, b5, b6, b7, b8, b9] t) * R) := by
  replace h : Sat _ (pt g (.cells #[b0, a1, a2, a3, a4, a5, a6, a7, a8, a9] t) * R) := h.setCell (i := 0) b0
  replace h : Sat _ (pt g (.cells #[b0, b1, a2, a3, a4, a5, a6, a7, a8, a9] t) * R) := h.setCell (i := 1) b1
  replace h : Sat _ (pt g (.cells #[b0, b1, b2, a3, a4, a5, a6, a7, a8, a9] t) * R) := h.setCell (i := 2) b2
  replace h : Sat _ (pt g (.cells #[b0, b1, b2, b3, a4, a5, a6, a7, a8, a9] t) * R) := h.setCell (i := 3) b3
  replace h : Sat _ (pt g (.cells #[b0, b1, b2, b3, b4, a5, a6, a7, a8, a9] t) * R) := h.setCell (i := 4) b4
  replace h : Sat _ (pt g (.cells #[b0, b1, b2, b3, b4, b5, a6, a7, a8, a9] t) * R) := h.setCell (i := 5) b5
  replace h : Sat _ (pt g (.cells #[b0, b1, b2, b3, b4, b5, b6, a7, a8, a9] t) * R) := h.setCell (i := 6) b6
  replace h : Sat _ (pt g (.cells #[b0, b1, b2, b3, b4, b5, b6, b7, a8, a9] t) * R) := h.setCell (i := 7) b7
  replace h : Sat _ (pt g (.cells #[b0, b1, b2, b3, b4, b5, b6, b7, b8, a9] t) * R) := h.setCell (i := 8) b8
  replace h : Sat _ (pt g (.cells #[b0, b1, b2, b3, b4, b5, b6, b7, b8, b9] t) * R) := h.setCell (i := 9) b9
  exact h
theorem adds_big {m : Rv.Maker} {r : Rv.Rec} {piece : Rv.Bs} (c : Rv.Coder) (h : addSize m r piece > 4194304) : m.adds r c piece = (⟨c, addOwed m r, m.link, piece, addCheck m r, [], false⟩, false) := by
  show (if addSize m r piece > 4194304 then _ else _) = _
  rw [if_pos h]
  rfl
theorem adds_fit {m : Rv.Maker} {r : Rv.Rec} {piece : Rv.Bs} (c : Rv.Coder) (h : ¬ addSize m r piece > 4194304) : m.adds r c piece = (⟨c, addOwed m r, addLink m r piece, piece, addCheck m r, addTr m r piece, addEnds m⟩, decide (addSize m r piece + (addTr m r piece).length ≤ 4194304)) := by
  show (if addSize m r piece > 4194304 then _ else _) = _
  rw [if_neg h]
  unfold addTr addLink
  by_cases hk : ((m.records : Int) + 1) % m.p.seg = 0
  · have : addEnds m = true := decide_eq_true hk
    rw [this]
    simp only [if_pos hk, if_true]
    rfl
  · have : addEnds m = false := decide_eq_false hk
    rw [this]
    simp only [if_neg hk]
    rfl
theorem nil_check {m : Rv.Maker} {r : Rv.Rec} {A : Option Addr} {c : Nat} (h : addOwed m r = none → A = none ∧ c = 0) : addOwed m r = none → Value.slice A (addCheck m r).length c = .slice none 0 0 := fun e => by
  obtain ⟨rfl, rfl⟩ := h e
  unfold addCheck
  rw [e]
  rfl
/-- Behind the trailer. -/
def AddsEnd (Q F : HP) (w wx : World) (g10 gl gc : Nat) (m : Rv.Maker) (r : Rv.Rec) (pv ov cv : Value) (piece : Rv.Bs) : Prop :=
  ∃ B d, Sat wx (pt g10 (.cells (stepCells gc ov (addLink m r piece) pv cv (.slice B (addTr m r piece).length d) (addEnds m)) 74) * (owedP Q ov (addOwed m r) * (bytesP cv (addCheck m r) * (bytesP (.slice B (addTr m r piece).length d) (addTr m r piece) * (ledP Q gl m.owed * (Q * F)))))) ∧ Same w wx

set_option maxHeartbeats 8000000 in
set_option maxRecDepth 100000 in
theorem adds_any (T : TypeId) (w : World) (Q R : HP) (g gc0 gl gc : Nat) (m : Rv.Maker) (r : Rv.Rec) (c : Rv.Coder) (piece : List UInt8) (sA : Option Addr) (sc : Nat) (ev : Value) (pA : Option Addr) (pc : Nat)
    (hm : MOk m) (h : Sat w (makBox T g m.p gc0 gl m.link (.slice sA m.segment.length sc) m.records m.size ev * (ledP Q gl m.owed * (bytesP (.slice sA m.segment.length sc) m.segment * (Q * R))))) (hp : RdIn R pA (u8s piece)) (hnil : pA = none → pc = 0) (hpl : piece.length ≤ 4194304)
    (hr : r.right = 0) (ht : m.coder.tick ≤ r.tick) :
    Calls Tryz.prog 24 #[.pointer (some ⟨g, 0, none⟩), .agg #[.int .i64 r.tick, .string r.key, .int .i64 r.cost, .int .i64 r.verdict], .pointer (some ⟨gc, 0, none⟩), .slice pA piece.length pc] w fun e w' =>
      ∃ ov cv tv Q', e = .returned (.tuple #[.agg (stepCells gc ov (m.adds r c piece).1.link (.slice pA piece.length pc) cv tv (m.adds r c piece).1.ends), .bool (m.adds r c piece).2]) ∧ Ext Q Q' ∧
        Sat w' (makBox T g m.p gc0 gl m.link (.slice sA m.segment.length sc) m.records m.size ev * (owedP Q' ov (m.adds r c piece).1.owed * (bytesP cv (m.adds r c piece).1.check * (bytesP tv (m.adds r c piece).1.trailer * (ledP Q' gl m.owed * (bytesP (.slice sA m.segment.length sc) m.segment * (Q' * R))))))) ∧ Same w w' ∧ ((m.adds r c piece).1.owed = none → cv = .slice none 0 0) := by
  obtain ⟨p1, p2, p3, p4⟩ := seg_pos hm.ok
  have hn1 := hm.n1
  have hz1 := hm.z1
  have S0 : Hid (Sat (((w.alloc (.cells #[.int .i64 r.tick, .string r.key, .int .i64 r.cost, .int .i64 r.verdict] 44)).alloc (.cells stepZero 74)).alloc (.cells (stepCells gc (.pointer none) m.link (.slice pA piece.length pc) (.slice none 0 0) (.slice none 0 0) false) 74)) (pt (w.heap.size + 1 + 1) (.cells (stepCells gc (.pointer none) m.link (.slice pA piece.length pc) (.slice none 0 0) (.slice none 0 0) false) 74) * (pt (w.heap.size + 1) (.cells stepZero 74) * (pt w.heap.size (.cells #[.int .i64 r.tick, .string r.key, .int .i64 r.cost, .int .i64 r.verdict] 44) * (makBox T g m.p gc0 gl m.link (.slice sA m.segment.length sc) m.records m.size ev * (ledP Q gl m.owed * (bytesP (.slice sA m.segment.length sc) m.segment * (Q * R)))))))) := Lib.hid (by
    have := ((h.alloc (.cells #[.int .i64 r.tick, .string r.key, .int .i64 r.cost, .int .i64 r.verdict] 44)).alloc (.cells stepZero 74)).alloc (.cells (stepCells gc (.pointer none) m.link (.slice pA piece.length pc) (.slice none 0 0) (.slice none 0 0) false) 74)
    simpa only [World.size_alloc] using this)
  have Z0 : Hid (Same w (((w.alloc (.cells #[.int .i64 r.tick, .string r.key, .int .i64 r.cost, .int .i64 r.verdict] 44)).alloc (.cells stepZero 74)).alloc (.cells (stepCells gc (.pointer none) m.link (.slice pA piece.length pc) (.slice none 0 0) (.slice none 0 0) false) 74))) := Lib.hid (Same.of ((((Kept.refl (fun _ => False) w).alloc _).alloc _).alloc _))
  have K0 := Lib.hid (mak_facts h)
  have HM := Lib.hid hm
  have HPI := Lib.hid hp
  have HN := Lib.hid hnil
  have HR := Lib.hid hr
  have H := Lib.hid h
  obtain ⟨d8, d9, d10, d11, d12, d13, d14, d15, d16, d17, d18, d19⟩ := K0.out
  have hg := h.lt
  clear h hm hp hnil hr
  go_enter Tryz.func24, Tryz.ntmps24
  go_upto_region 2 with (fail)
  clear K0 H d8 d9 d10 d11 d12 d13 d14 d15 d16 d17 d18 d19
  generalize (((w.alloc (.cells #[.int .i64 r.tick, .string r.key, .int .i64 r.cost, .int .i64 r.verdict] 44)).alloc (.cells stepZero 74)).alloc (.cells (stepCells gc (.pointer none) m.link (.slice pA piece.length pc) (.slice none 0 0) (.slice none 0 0) false) 74)) = w0 at *
  generalize w.heap.size + 1 + 1 = g10 at *
  generalize w.heap.size + 1 = g8 at *
  generalize w.heap.size = g5 at *
  obtain ⟨d8, d9, d10, d11, d12, d13, d14, d15, d16, d17, d18, d19⟩ := mak_facts S0.out.right.right.right
  have hcl := lclone_any w0 Q (Q * (makBox T g m.p gc0 gl m.link (.slice sA m.segment.length sc) m.records m.size ev * (bytesP (.slice sA m.segment.length sc) m.segment * (pt g10 (.cells (stepCells gc (.pointer none) m.link (.slice pA piece.length pc) (.slice none 0 0) (.slice none 0 0) false) 74) * (pt g8 (.cells stepZero 74) * (pt g5 (.cells #[.int .i64 r.tick, .string r.key, .int .i64 r.cost, .int .i64 r.verdict] 44) * R)))))) gl m.owed (S0.out.perm (by ac_rfl))
  have HCL := Lib.hid hcl
  clear hcl
  obtain ⟨cnd, hcnd⟩ : ∃ b : Bool, b = decide (0 < m.p.every ∧ ((m.records : Int) + 1) % m.p.every = 0) := ⟨_, rfl⟩
  have HCND := Lib.hid hcnd
  clear hcnd
  go_upto_region 3 with (fail)
  go_cut [40] (fun c wx => c = .bool cnd ∧ wx = w0)
  case first =>
    by_cases h1 : 0 < m.p.every
    · have e1 : decide (0 < m.p.every) = true := by simpa using h1
      have hb : Hid (cnd = (((m.records : Int) + 1) % m.p.every == 0)) := Lib.hid (by rw [HCND.out]; simp [h1]; rfl)
      go_wp2_with fail
      go_meet
      case rel => exact ⟨by rw [hb.out], rfl⟩
    · have e1 : decide (0 < m.p.every) = false := by simpa using h1
      have hb : Hid (cnd = false) := Lib.hid (by rw [HCND.out]; simp [h1])
      go_wp2_with fail
      go_meet
      case rel => exact ⟨by rw [hb.out], rfl⟩
  case rest =>
    obtain ⟨rfl, rfl⟩ := hcut
    go_upto_if 40 with (fail)
    go_cut [] (fun w2 => AddsMid Q (makBox T g m.p gc0 gl m.link (.slice sA m.segment.length sc) m.records m.size ev * (bytesP (.slice sA m.segment.length sc) m.segment * (pt g8 (.cells stepZero 74) * (pt g5 (.cells #[.int .i64 r.tick, .string r.key, .int .i64 r.cost, .int .i64 r.verdict] 44) * R)))) w w2 g10 gl gc m r (.slice pA piece.length pc))
    case first =>
      cases hc : cnd with
      | false =>
        have hno : addOwed m r = none := by
          have := HCND.out
          rw [hc] at this
          unfold addOwed
          exact if_neg (of_decide_eq_false this.symm)
        have HNO := Lib.hid hno
        clear hno hc
        go_wp2_with fail
        go_meet
        case rel =>
          unfold AddsMid addCheck
          rw [HNO.out]
          refine ⟨.pointer none, none, 0, Q, Ext.refl Q, ?_, Z0.out, by simp, fun _ => ⟨rfl, rfl⟩⟩
          refine (owedP_none (S0.out.row_nil 5)).perm (show owedP Q (.pointer none) none * (bytesP (.slice none 0 0) [] * (pt g10 (.cells (stepCells gc (.pointer none) m.link (.slice pA piece.length pc) (.slice none 0 0) (.slice none 0 0) false) 74) * (pt g8 (.cells stepZero 74) * (pt g5 (.cells #[.int .i64 r.tick, .string r.key, .int .i64 r.cost, .int .i64 r.verdict] 44) * (makBox T g m.p gc0 gl m.link (.slice sA m.segment.length sc) m.records m.size ev * (ledP Q gl m.owed * (bytesP (.slice sA m.segment.length sc) m.segment * (Q * R)))))))) = _ by ac_rfl)
      | true =>
        have hyes : addOwed m r = some (Rv.applyL m.owed r) := by
          have := HCND.out
          rw [hc] at this
          unfold addOwed
          exact if_pos (of_decide_eq_true this.symm)
        have HY := Lib.hid hyes
        clear hyes hc
        go_wp2_with fail
        refine HCL.out.mono ?_
        rintro e w1 ⟨g', rfl, s1, z1⟩
        have S1 : Hid (Sat w1 (pt g10 (.cells (stepCells gc (.pointer none) m.link (.slice pA piece.length pc) (.slice none 0 0) (.slice none 0 0) false) 74) * (ledP Q g' m.owed * (ledP Q gl m.owed * (Q * (makBox T g m.p gc0 gl m.link (.slice sA m.segment.length sc) m.records m.size ev * (bytesP (.slice sA m.segment.length sc) m.segment * (pt g8 (.cells stepZero 74) * (pt g5 (.cells #[.int .i64 r.tick, .string r.key, .int .i64 r.cost, .int .i64 r.verdict] 44) * R))))))))) := Lib.hid (s1.perm (by ac_rfl))
        have Z1 := Lib.hid (Z0.out.then z1)
        have dd1 : w1.cell? ⟨g10, 1, none⟩ = some (.pointer none) := (cells_of S1.out.heap 1).trans rfl
        have f1 : w1.frozen? ⟨g10, 1, none⟩ = false := frozen_of S1.out.heap 1
        have d5 : w1.heap[g5]? = some (.cells #[.int .i64 r.tick, .string r.key, .int .i64 r.cost, .int .i64 r.verdict] 44) := Rv.Sat.heap (S1.out.perm (show _ = pt g5 (.cells #[.int .i64 r.tick, .string r.key, .int .i64 r.cost, .int .i64 r.verdict] 44) * (pt g10 (.cells (stepCells gc (.pointer none) m.link (.slice pA piece.length pc) (.slice none 0 0) (.slice none 0 0) false) 74) * (ledP Q g' m.owed * (ledP Q gl m.owed * (Q * (makBox T g m.p gc0 gl m.link (.slice sA m.segment.length sc) m.records m.size ev * (bytesP (.slice sA m.segment.length sc) m.segment * (pt g8 (.cells stepZero 74) * R))))))) by ac_rfl))
        clear s1 z1
        go_upto_region 5 with (fail)
        have S2 : Hid (Sat (w1.setCell ⟨g10, 1, none⟩ (.pointer (some ⟨g', 0, none⟩))) (pt g10 (.cells (stepCells gc (.pointer (some ⟨g', 0, none⟩)) m.link (.slice pA piece.length pc) (.slice none 0 0) (.slice none 0 0) false) 74) * (ledP Q g' m.owed * (ledP Q gl m.owed * (Q * (makBox T g m.p gc0 gl m.link (.slice sA m.segment.length sc) m.records m.size ev * (bytesP (.slice sA m.segment.length sc) m.segment * (pt g8 (.cells stepZero 74) * (pt g5 (.cells #[.int .i64 r.tick, .string r.key, .int .i64 r.cost, .int .i64 r.verdict] 44) * R))))))))) := Lib.hid (S1.out.setCell (i := 1) (.pointer (some ⟨g', 0, none⟩)))
        have Z2 : Hid (Same w (w1.setCell ⟨g10, 1, none⟩ (.pointer (some ⟨g', 0, none⟩)))) := Lib.hid (Z1.out.then (Kept.setCell (Kept.refl _ _) _ _ (.inl trivial)))
        clear f1 dd1 d5 S1 Z1
        generalize w1.setCell ⟨g10, 1, none⟩ (.pointer (some ⟨g', 0, none⟩)) = w2 at *
        have d1 : w2.cell? ⟨g10, 1, none⟩ = some (.pointer (some ⟨g', 0, none⟩)) := (cells_of S2.out.heap 1).trans rfl
        have q5 : w2.heap[g5]? = some (.cells #[.int .i64 r.tick, .string r.key, .int .i64 r.cost, .int .i64 r.verdict] 44) := Rv.Sat.heap (S2.out.perm (show _ = pt g5 (.cells #[.int .i64 r.tick, .string r.key, .int .i64 r.cost, .int .i64 r.verdict] 44) * (pt g10 (.cells (stepCells gc (.pointer (some ⟨g', 0, none⟩)) m.link (.slice pA piece.length pc) (.slice none 0 0) (.slice none 0 0) false) 74) * (ledP Q g' m.owed * (ledP Q gl m.owed * (Q * (makBox T g m.p gc0 gl m.link (.slice sA m.segment.length sc) m.records m.size ev * (bytesP (.slice sA m.segment.length sc) m.segment * (pt g8 (.cells stepZero 74) * R))))))) by ac_rfl))
        have r0 : w2.cell? ⟨g5, 0, none⟩ = some (.int .i64 r.tick) := (cells_of q5 0).trans rfl
        have r1 : w2.cell? ⟨g5, 1, none⟩ = some (.string r.key) := (cells_of q5 1).trans rfl
        have r2 : w2.cell? ⟨g5, 2, none⟩ = some (.int .i64 r.cost) := (cells_of q5 2).trans rfl
        have r3 : w2.cell? ⟨g5, 3, none⟩ = some (.int .i64 r.verdict) := (cells_of q5 3).trans rfl
        have hap := apply_any w2 Q (ledP Q gl m.owed * (pt g10 (.cells (stepCells gc (.pointer (some ⟨g', 0, none⟩)) m.link (.slice pA piece.length pc) (.slice none 0 0) (.slice none 0 0) false) 74) * (makBox T g m.p gc0 gl m.link (.slice sA m.segment.length sc) m.records m.size ev * (bytesP (.slice sA m.segment.length sc) m.segment * (pt g8 (.cells stepZero 74) * (pt g5 (.cells #[.int .i64 r.tick, .string r.key, .int .i64 r.cost, .int .i64 r.verdict] 44) * R)))))) g' m.owed r (S2.out.perm (by ac_rfl)) HR.out (Int.le_trans HM.out.tk ht)
        have HAP := Lib.hid hap
        clear hap q5
        go_wp2_with fail
        refine HAP.out.mono ?_
        rintro e w3 ⟨rfl, Q1, x1, s3, z3⟩
        have S3 : Hid (Sat w3 (pt g10 (.cells (stepCells gc (.pointer (some ⟨g', 0, none⟩)) m.link (.slice pA piece.length pc) (.slice none 0 0) (.slice none 0 0) false) 74) * (ledP Q1 g' (Rv.applyL m.owed r) * (ledP Q1 gl m.owed * (Q1 * (makBox T g m.p gc0 gl m.link (.slice sA m.segment.length sc) m.records m.size ev * (bytesP (.slice sA m.segment.length sc) m.segment * (pt g8 (.cells stepZero 74) * (pt g5 (.cells #[.int .i64 r.tick, .string r.key, .int .i64 r.cost, .int .i64 r.verdict] 44) * R))))))))) := Lib.hid ((ledP_ext (s3.perm (show _ = ledP Q gl m.owed * (pt g10 (.cells (stepCells gc (.pointer (some ⟨g', 0, none⟩)) m.link (.slice pA piece.length pc) (.slice none 0 0) (.slice none 0 0) false) 74) * (ledP Q1 g' (Rv.applyL m.owed r) * (Q1 * (makBox T g m.p gc0 gl m.link (.slice sA m.segment.length sc) m.records m.size ev * (bytesP (.slice sA m.segment.length sc) m.segment * (pt g8 (.cells stepZero 74) * (pt g5 (.cells #[.int .i64 r.tick, .string r.key, .int .i64 r.cost, .int .i64 r.verdict] 44) * R))))))) by ac_rfl)) x1).perm (by ac_rfl))
        have Z3 := Lib.hid (Z2.out.then z3)
        have X3 := Lib.hid x1
        have d1 : w3.cell? ⟨g10, 1, none⟩ = some (.pointer (some ⟨g', 0, none⟩)) := (cells_of S3.out.heap 1).trans rfl
        clear x1 s3 z3 S2 Z2 r0 r1 r2 r3 HAP
        have hlb := ledbytes_any w3 Q1 (ledP Q1 gl m.owed * (pt g10 (.cells (stepCells gc (.pointer (some ⟨g', 0, none⟩)) m.link (.slice pA piece.length pc) (.slice none 0 0) (.slice none 0 0) false) 74) * (makBox T g m.p gc0 gl m.link (.slice sA m.segment.length sc) m.records m.size ev * (bytesP (.slice sA m.segment.length sc) m.segment * (pt g8 (.cells stepZero 74) * (pt g5 (.cells #[.int .i64 r.tick, .string r.key, .int .i64 r.cost, .int .i64 r.verdict] 44) * R)))))) g' (Rv.applyL m.owed r) (S3.out.perm (by ac_rfl)) (by have := of_apply m.owed r; have := HM.out.o1; have := HM.out.n1; omega)
        have HLB := Lib.hid hlb
        clear hlb
        go_wp2_with fail
        refine HLB.out.mono ?_
        rintro e w4 ⟨B, C, rfl, s4, z4⟩
        have S4 : Hid (Sat w4 (pt g10 (.cells (stepCells gc (.pointer (some ⟨g', 0, none⟩)) m.link (.slice pA piece.length pc) (.slice none 0 0) (.slice none 0 0) false) 74) * (ledP Q1 g' (Rv.applyL m.owed r) * (bytesP (.slice B (Rv.applyL m.owed r).bytes.length C) (Rv.applyL m.owed r).bytes * (ledP Q1 gl m.owed * (Q1 * (makBox T g m.p gc0 gl m.link (.slice sA m.segment.length sc) m.records m.size ev * (bytesP (.slice sA m.segment.length sc) m.segment * (pt g8 (.cells stepZero 74) * (pt g5 (.cells #[.int .i64 r.tick, .string r.key, .int .i64 r.cost, .int .i64 r.verdict] 44) * R)))))))))) := Lib.hid (s4.perm (by ac_rfl))
        have Z4 := Lib.hid (Z3.out.then z4)
        have dd7 : w4.cell? ⟨g10, 7, none⟩ = some (.slice none 0 0) := (cells_of S4.out.heap 7).trans rfl
        have f7 : w4.frozen? ⟨g10, 7, none⟩ = false := frozen_of S4.out.heap 7
        clear s4 z4 S3 Z3 HLB
        go_wp2_with fail
        go_meet
        case rel =>
          unfold AddsMid addCheck
          rw [HY.out]
          refine ⟨.pointer (some ⟨g', 0, none⟩), B, C, Q1, X3.out, (owedP_some ((S4.out.setCell (i := 7) (.slice B (Rv.applyL m.owed r).bytes.length C)).swap)).swap, Z4.out.then (Kept.setCell (Kept.refl _ _) _ _ (.inl trivial)), led_bytes_len S4.out.right (by have := of_apply m.owed r; have := HM.out.o1; have := HM.out.n1; omega), fun h => by cases h⟩
    case rest =>
      rename World => w3
      obtain ⟨ov, A, c1, Q1, x1, s1, z1, hcl, hcn⟩ := hcut
      have HCN := Lib.hid hcn
      clear hcn
      obtain ⟨op, rfl⟩ := owedP_ptr s1.right
      have S1 := Lib.hid s1
      have Z1 := Lib.hid z1
      have X1 := Lib.hid x1
      clear s1 z1 x1 S0 Z0 HCL HCND d8 d9 d10 d11 d12 d13 d14 d15 d16 d17 d18 d19
      have SM : Hid (Sat w3 (makBox T g m.p gc0 gl m.link (.slice sA m.segment.length sc) m.records m.size ev * (pt g10 (.cells (stepCells gc (.pointer op) m.link (.slice pA piece.length pc) (.slice A (addCheck m r).length c1) (.slice none 0 0) false) 74) * (owedP Q1 (.pointer op) (addOwed m r) * (bytesP (.slice A (addCheck m r).length c1) (addCheck m r) * (ledP Q1 gl m.owed * (Q1 * (bytesP (.slice sA m.segment.length sc) m.segment * (pt g8 (.cells stepZero 74) * (pt g5 (.cells #[.int .i64 r.tick, .string r.key, .int .i64 r.cost, .int .i64 r.verdict] 44) * R)))))))))) := Lib.hid (S1.out.perm (by ac_rfl))
      obtain ⟨d8, d9, d10, d11, d12, d13, d14, d15, d16, d17, d18, d19⟩ := mak_facts SM.out
      obtain ⟨s0, s1, s2, s3, s4, s5, s6, s7, s8, s9⟩ := stp_facts S1.out
      go_upto_region 7 with (fail)
      go_cut [12] (fun z wx => z = .int .i64 (addSize m r piece : Nat) ∧ wx = w3.drew)
      case first =>
        go_region
        all_goals (go_wp2_with fail)
        all_goals go_meet
        case rel => exact ⟨by unfold addSize; go_num, rfl⟩
      case rest =>
        rename World => wd
        obtain ⟨rfl, hwd⟩ := hcut
        have S2 : Hid (Sat w3.drew _) := Lib.hid S1.out.drew
        have SN : Hid (Sat w3.drew _) := Lib.hid SM.out.drew
        have Z2 : Hid (Same w w3.drew) := Lib.hid Z1.out.drew
        rw [← hwd] at S2 SN Z2
        clear S1 SM Z1 d8 d9 d10 d11 d12 d13 d14 d15 d16 d17 d18 d19 s0 s1 s2 s3 s4 s5 s6 s7 s8 s9 hwd
        obtain ⟨d8, d9, d10, d11, d12, d13, d14, d15, d16, d17, d18, d19⟩ := mak_facts SN.out
        obtain ⟨s0, s1, s2, s3, s4, s5, s6, s7, s8, s9⟩ := stp_facts S2.out
        by_cases hb : addSize m r piece > 4194304
        · have e1 : decide ((4194304 : Int) < (addSize m r piece : Nat)) = true := by simp; omega
          have HE := Lib.hid (adds_big c hb)
          have q10 := Lib.hid S2.out.heap
          have S3 : Hid (Sat wd (pt g8 (.cells stepZero 74) * (makBox T g m.p gc0 gl m.link (.slice sA m.segment.length sc) m.records m.size ev * (pt g10 (.cells (stepCells gc (.pointer op) m.link (.slice pA piece.length pc) (.slice A (addCheck m r).length c1) (.slice none 0 0) false) 74) * (owedP Q1 (.pointer op) (addOwed m r) * (bytesP (.slice A (addCheck m r).length c1) (addCheck m r) * (ledP Q1 gl m.owed * (Q1 * (bytesP (.slice sA m.segment.length sc) m.segment * (pt g5 (.cells #[.int .i64 r.tick, .string r.key, .int .i64 r.cost, .int .i64 r.verdict] 44) * R)))))))))) := Lib.hid (SN.out.perm (by ac_rfl))
          clear hb S2 SN d8 d9 d10 d11 d12 d13 d14 d15 d16 d17 d18 d19 s0 s1 s2 s3 s4 s5 s6 s7 s8 s9
          go_wp2_with (first
            | ((with_reducible refine at_slot 68 ?_); refine wpList_load_row rfl 74 (.tmp 10) rfl g10 (by rfl) 74 (stepCells gc (.pointer op) m.link (.slice pA piece.length pc) (.slice A (addCheck m r).length c1) (.slice none 0 0) false) (0, 0) _ q10.out Tryz.underlying74 (by rfl) info_step ?_)
            | ((with_reducible refine at_store 74 8 68 ?_); refine wpList_store_row rfl 74 (.tmp 8) (.tmp 68) rfl g8 (stepCells gc (.pointer op) m.link (.slice pA piece.length pc) (.slice A (addCheck m r).length c1) (.slice none 0 0) false) (by rfl) (by rfl) 74 stepZero S3.out.heap info_step (by rfl) (one_step _ _ _ _ _ _ _ _ _ _ _ _ _) ?_; simp only [Act.put]))
          have S4 := Lib.hid (sat_setRow (n := (stepCells gc (.pointer op) m.link (.slice pA piece.length pc) (.slice A (addCheck m r).length c1) (.slice none 0 0) false)) S3.out)
          refine bodyPost_ret (results_cell_tmp Tryz.results24 _ _ g8 74 (stepCells gc (.pointer op) m.link (.slice pA piece.length pc) (.slice A (addCheck m r).length c1) (.slice none 0 0) false) (0, 0) _ (.bool false) (by rfl) (by rfl) S4.out.heap Tryz.underlying74 (by rfl) info_step) rfl ?_
          refine ⟨.pointer op, (.slice A (addCheck m r).length c1), .slice none 0 0, Q1, by rw [HE.out], X1.out, ?_, Z2.out.then (same_setRow _ _ _), by rw [HE.out]; exact nil_check HCN.out⟩
          rw [HE.out]
          have s5 := (S4.out.right.drop2.perm (show _ = pt g5 (.cells #[.int .i64 r.tick, .string r.key, .int .i64 r.cost, .int .i64 r.verdict] 44) * (makBox T g m.p gc0 gl m.link (.slice sA m.segment.length sc) m.records m.size ev * (owedP Q1 (.pointer op) (addOwed m r) * (bytesP (.slice A (addCheck m r).length c1) (addCheck m r) * (ledP Q1 gl m.owed * (bytesP (.slice sA m.segment.length sc) m.segment * (Q1 * R)))))) by ac_rfl)).right
          show Sat _ (makBox T g m.p gc0 gl m.link (.slice sA m.segment.length sc) m.records m.size ev * (owedP Q1 (.pointer op) (addOwed m r) * (bytesP (.slice A (addCheck m r).length c1) (addCheck m r) * (bytesP (.slice none 0 0) [] * (ledP Q1 gl m.owed * (bytesP (.slice sA m.segment.length sc) m.segment * (Q1 * R)))))))
          exact (s5.row_nil 5).perm (show bytesP (.slice none 0 0) [] * _ = _ by ac_rfl)
        · have e1 : decide ((4194304 : Int) < (addSize m r piece : Nat)) = false := by simp; omega
          have HE := Lib.hid (adds_fit c hb)
          have HS := Lib.hid hb
          clear hb
          go_upto_if 76 with (fail)
          go_cut [] (fun wx => AddsEnd Q1 (makBox T g m.p gc0 gl m.link (.slice sA m.segment.length sc) m.records m.size ev * (bytesP (.slice sA m.segment.length sc) m.segment * (pt g8 (.cells stepZero 74) * (pt g5 (.cells #[.int .i64 r.tick, .string r.key, .int .i64 r.cost, .int .i64 r.verdict] 44) * R)))) w wx g10 gl gc m r (.slice pA piece.length pc) (.pointer op) (.slice A (addCheck m r).length c1) piece)
          case first =>
            cases hc : addEnds m with
            | false =>
              have hk : (((m.records : Int) + 1) % m.p.seg == 0) = false := by unfold addEnds at hc; simpa using hc
              have HC := Lib.hid hc
              clear hc
              go_wp2_with fail
              go_meet
              case rel =>
                unfold AddsEnd addTr addLink
                simp only [HC.out]
                refine ⟨none, 0, ?_, Z2.out⟩
                exact (S2.out.row_nil 5).perm (show bytesP (.slice none 0 0) [] * _ = pt g10 (.cells (stepCells gc (.pointer op) m.link (.slice pA piece.length pc) (.slice A (addCheck m r).length c1) (.slice none 0 0) false) 74) * (owedP Q1 (.pointer op) (addOwed m r) * (bytesP (.slice A (addCheck m r).length c1) (addCheck m r) * (bytesP (.slice none 0 0) [] * (ledP Q1 gl m.owed * (Q1 * (makBox T g m.p gc0 gl m.link (.slice sA m.segment.length sc) m.records m.size ev * (bytesP (.slice sA m.segment.length sc) m.segment * (pt g8 (.cells stepZero 74) * (pt g5 (.cells #[.int .i64 r.tick, .string r.key, .int .i64 r.cost, .int .i64 r.verdict] 44) * R))))))))) by ac_rfl)
            | true =>
              have hk : (((m.records : Int) + 1) % m.p.seg == 0) = true := by unfold addEnds at hc; simpa using hc
              have HC := Lib.hid hc
              clear hc
              have f9 : wd.frozen? ⟨g10, 9, none⟩ = false := frozen_of S2.out.heap 9
              go_upto_region 12 with (fail)
              have S3 : Hid (Sat (wd.setCell ⟨g10, 9, none⟩ (.bool true)) (makBox T g m.p gc0 gl m.link (.slice sA m.segment.length sc) m.records m.size ev * (pt g10 (.cells (stepCells gc (.pointer op) m.link (.slice pA piece.length pc) (.slice A (addCheck m r).length c1) (.slice none 0 0) true) 74) * (owedP Q1 (.pointer op) (addOwed m r) * (bytesP (.slice A (addCheck m r).length c1) (addCheck m r) * (ledP Q1 gl m.owed * (Q1 * (bytesP (.slice sA m.segment.length sc) m.segment * (pt g8 (.cells stepZero 74) * (pt g5 (.cells #[.int .i64 r.tick, .string r.key, .int .i64 r.cost, .int .i64 r.verdict] 44) * R)))))))))) := Lib.hid ((S2.out.setCell (i := 9) (.bool true)).perm (show pt g10 (.cells (stepCells gc (.pointer op) m.link (.slice pA piece.length pc) (.slice A (addCheck m r).length c1) (.slice none 0 0) true) 74) * (owedP Q1 (.pointer op) (addOwed m r) * (bytesP (.slice A (addCheck m r).length c1) (addCheck m r) * (ledP Q1 gl m.owed * (Q1 * (makBox T g m.p gc0 gl m.link (.slice sA m.segment.length sc) m.records m.size ev * (bytesP (.slice sA m.segment.length sc) m.segment * (pt g8 (.cells stepZero 74) * (pt g5 (.cells #[.int .i64 r.tick, .string r.key, .int .i64 r.cost, .int .i64 r.verdict] 44) * R)))))))) = _ by ac_rfl))
              have Z3 : Hid (Same w (wd.setCell ⟨g10, 9, none⟩ (.bool true))) := Lib.hid (Z2.out.then (Kept.setCell (Kept.refl _ _) _ _ (.inl trivial)))
              clear f9 S2 SN Z2 d8 d9 d10 d11 d12 d13 d14 d15 d16 d17 d18 d19 s0 s1 s2 s3 s4 s5 s6 s7 s8 s9
              generalize wd.setCell ⟨g10, 9, none⟩ (.bool true) = wA at *
              have HK0 : Hid (∀ (w' : World) (lx : Rv.Link) (X : HP), Sat w' (makBox T g m.p gc0 gl m.link (.slice sA m.segment.length sc) m.records m.size ev * (pt g10 (.cells (stepCells gc (.pointer op) lx (.slice pA piece.length pc) (.slice A (addCheck m r).length c1) (.slice none 0 0) true) 74) * X)) → (w'.cell? ⟨g, 12, none⟩ = some (.int .i64 m.link.number) ∧ w'.cell? ⟨g, 13, none⟩ = some (.int .i64 m.link.bytes) ∧ w'.cell? ⟨g, 14, none⟩ = some (.int .i64 m.link.sl.re) ∧ w'.cell? ⟨g, 15, none⟩ = some (.int .i64 m.link.sl.im) ∧ w'.cell? ⟨g, 16, none⟩ = some (.slice sA m.segment.length sc) ∧ w'.cell? ⟨g10, 7, none⟩ = some (.slice A (addCheck m r).length c1))) := Lib.hid (fun w' lx X h => by
                obtain ⟨_, _, _, _, d12, d13, d14, d15, d16, _, _, _⟩ := mak_facts h
                obtain ⟨_, _, _, _, _, _, _, s7, _, _⟩ := stp_facts h.right
                exact ⟨d12, d13, d14, d15, d16, s7⟩)
              have K0 := Lib.hid (HK0.out _ _ _ S3.out)
              have S4 : Hid (Sat (wA.alloc (.cells #[(.slice sA m.segment.length sc), (.slice pA piece.length pc), (.slice A (addCheck m r).length c1)] 22)).drew (makBox T g m.p gc0 gl m.link (.slice sA m.segment.length sc) m.records m.size ev * (pt g10 (.cells (stepCells gc (.pointer op) m.link (.slice pA piece.length pc) (.slice A (addCheck m r).length c1) (.slice none 0 0) true) 74) * (pt wA.heap.size (.cells #[(.slice sA m.segment.length sc), (.slice pA piece.length pc), (.slice A (addCheck m r).length c1)] 22) * (owedP Q1 (.pointer op) (addOwed m r) * (bytesP (.slice A (addCheck m r).length c1) (addCheck m r) * (ledP Q1 gl m.owed * (Q1 * (bytesP (.slice sA m.segment.length sc) m.segment * (pt g8 (.cells stepZero 74) * (pt g5 (.cells #[.int .i64 r.tick, .string r.key, .int .i64 r.cost, .int .i64 r.verdict] 44) * R))))))))))) := Lib.hid ((S3.out.alloc (.cells #[(.slice sA m.segment.length sc), (.slice pA piece.length pc), (.slice A (addCheck m r).length c1)] 22)).drew.perm (by ac_rfl))
              have Z4 : Hid (Same w (wA.alloc (.cells #[(.slice sA m.segment.length sc), (.slice pA piece.length pc), (.slice A (addCheck m r).length c1)] 22)).drew) := Lib.hid (Z3.out.then (Same.of ((Kept.refl (fun _ => False) wA).alloc _)).drew)
              have K1 := Lib.hid (HK0.out _ _ _ S4.out)
              have hseg := bytesP_shape (S4.out.perm (show _ = bytesP (.slice sA m.segment.length sc) m.segment * (makBox T g m.p gc0 gl m.link (.slice sA m.segment.length sc) m.records m.size ev * (pt g10 (.cells (stepCells gc (.pointer op) m.link (.slice pA piece.length pc) (.slice A (addCheck m r).length c1) (.slice none 0 0) true) 74) * (pt wA.heap.size (.cells #[(.slice sA m.segment.length sc), (.slice pA piece.length pc), (.slice A (addCheck m r).length c1)] 22) * (owedP Q1 (.pointer op) (addOwed m r) * (bytesP (.slice A (addCheck m r).length c1) (addCheck m r) * (ledP Q1 gl m.owed * (Q1 * (pt g8 (.cells stepZero 74) * (pt g5 (.cells #[.int .i64 r.tick, .string r.key, .int .i64 r.cost, .int .i64 r.verdict] 44) * R))))))))) by ac_rfl))
              have hsegn := (bytesP_own (S4.out.perm (show _ = bytesP (.slice sA m.segment.length sc) m.segment * (makBox T g m.p gc0 gl m.link (.slice sA m.segment.length sc) m.records m.size ev * (pt g10 (.cells (stepCells gc (.pointer op) m.link (.slice pA piece.length pc) (.slice A (addCheck m r).length c1) (.slice none 0 0) true) 74) * (pt wA.heap.size (.cells #[(.slice sA m.segment.length sc), (.slice pA piece.length pc), (.slice A (addCheck m r).length c1)] 22) * (owedP Q1 (.pointer op) (addOwed m r) * (bytesP (.slice A (addCheck m r).length c1) (addCheck m r) * (ledP Q1 gl m.owed * (Q1 * (pt g8 (.cells stepZero 74) * (pt g5 (.cells #[.int .i64 r.tick, .string r.key, .int .i64 r.cost, .int .i64 r.verdict] 44) * R))))))))) by ac_rfl))).nilcap
              have hchk := bytesP_shape (S4.out.perm (show _ = bytesP (.slice A (addCheck m r).length c1) (addCheck m r) * (makBox T g m.p gc0 gl m.link (.slice sA m.segment.length sc) m.records m.size ev * (pt g10 (.cells (stepCells gc (.pointer op) m.link (.slice pA piece.length pc) (.slice A (addCheck m r).length c1) (.slice none 0 0) true) 74) * (pt wA.heap.size (.cells #[(.slice sA m.segment.length sc), (.slice pA piece.length pc), (.slice A (addCheck m r).length c1)] 22) * (owedP Q1 (.pointer op) (addOwed m r) * (bytesP (.slice sA m.segment.length sc) m.segment * (ledP Q1 gl m.owed * (Q1 * (pt g8 (.cells stepZero 74) * (pt g5 (.cells #[.int .i64 r.tick, .string r.key, .int .i64 r.cost, .int .i64 r.verdict] 44) * R))))))))) by ac_rfl))
              have hchkn := (bytesP_own (S4.out.perm (show _ = bytesP (.slice A (addCheck m r).length c1) (addCheck m r) * (makBox T g m.p gc0 gl m.link (.slice sA m.segment.length sc) m.records m.size ev * (pt g10 (.cells (stepCells gc (.pointer op) m.link (.slice pA piece.length pc) (.slice A (addCheck m r).length c1) (.slice none 0 0) true) 74) * (pt wA.heap.size (.cells #[(.slice sA m.segment.length sc), (.slice pA piece.length pc), (.slice A (addCheck m r).length c1)] 22) * (owedP Q1 (.pointer op) (addOwed m r) * (bytesP (.slice sA m.segment.length sc) m.segment * (ledP Q1 gl m.owed * (Q1 * (pt g8 (.cells stepZero 74) * (pt g5 (.cells #[.int .i64 r.tick, .string r.key, .int .i64 r.cost, .int .i64 r.verdict] 44) * R))))))))) by ac_rfl))).nilcap
              obtain ⟨_, _, e1', _, _, hseg⟩ := hseg
              obtain ⟨_, _, e2', _, _, hchk⟩ := hchk
              cases e1'
              cases e2'
              have hpie : RdB (wA.alloc (.cells #[(.slice sA m.segment.length sc), (.slice pA piece.length pc), (.slice A (addCheck m r).length c1)] 22)).drew pA piece := rdV_u8 (HPI.out _ (S4.out.perm (show _ = R * (makBox T g m.p gc0 gl m.link (.slice sA m.segment.length sc) m.records m.size ev * (pt g10 (.cells (stepCells gc (.pointer op) m.link (.slice pA piece.length pc) (.slice A (addCheck m r).length c1) (.slice none 0 0) true) 74) * (pt wA.heap.size (.cells #[(.slice sA m.segment.length sc), (.slice pA piece.length pc), (.slice A (addCheck m r).length c1)] 22) * (owedP Q1 (.pointer op) (addOwed m r) * (bytesP (.slice A (addCheck m r).length c1) (addCheck m r) * (ledP Q1 gl m.owed * (Q1 * (bytesP (.slice sA m.segment.length sc) m.segment * (pt g8 (.cells stepZero 74) * pt g5 (.cells #[.int .i64 r.tick, .string r.key, .int .i64 r.cost, .int .i64 r.verdict] 44)))))))))) by ac_rfl)).left)
              have q22 := (S4.out.third).heap
              have hlen : m.segment.length + piece.length + (addCheck m r).length ≤ 4194304 := by have := HM.out.s1; have := HS.out; unfold addSize at this; omega
              have hfl : flatP [(sA, sc, m.segment), (pA, pc, piece), (A, c1, addCheck m r)] = m.segment ++ piece ++ addCheck m r := by simp [flatP]
              have hcat := concat_any (wA.alloc (.cells #[(.slice sA m.segment.length sc), (.slice pA piece.length pc), (.slice A (addCheck m r).length c1)] 22)).drew ⟨wA.heap.size, 0, none⟩ 3 3 [(sA, sc, m.segment), (pA, pc, piece), (A, c1, addCheck m r)] rfl (by
                  intro k u hu
                  refine ⟨_, rfl, ?_⟩
                  have hk : k < 3 := by have := (List.getElem?_eq_some_iff.1 hu).1; simpa using this
                  rw [add_zero_off, cells_of q22]
                  match k, hk with
                  | 0, _ => exact hu
                  | 1, _ => exact hu
                  | 2, _ => exact hu) (by
                  intro q hq
                  simp only [List.mem_cons, List.not_mem_nil, or_false] at hq
                  rcases hq with rfl | rfl | rfl
                  · exact ⟨hseg, hsegn⟩
                  · exact ⟨hpie, HN.out⟩
                  · exact ⟨hchk, hchkn⟩) (by rw [hfl]; simp only [List.length_append]; omega) (by omega)
              obtain ⟨cat, hct⟩ : ∃ cat, (m.segment ++ piece ++ addCheck m r) = cat := ⟨_, rfl⟩
              have hcl : cat.length ≤ 4194304 := by rw [← hct]; simp only [List.length_append]; omega
              rw [hfl, hct] at hcat
              obtain ⟨⟨lk, er⟩, hlk⟩ : ∃ x, m.link.next cat = x := ⟨_, rfl⟩
              have HNX : Hid (∀ (w : World) (B : Option Addr) (d : Nat), RdB w B cat → Calls Tryz.prog 46 #[.agg #[.int .i64 m.link.number, .int .i64 m.link.bytes, .int .i64 m.link.sl.re, .int .i64 m.link.sl.im], .slice B cat.length d] w fun e w' => e = .returned (.tuple #[.agg #[.int .i64 lk.number, .int .i64 lk.bytes, .int .i64 lk.sl.re, .int .i64 lk.sl.im], .int .i64 er]) ∧ Below w.heap.size w w') := Lib.hid (fun w B d h => by
                have := next_any m.link B cat d w h hcl HM.out.may
                rw [hlk] at this
                exact this)
              have HCAT := Lib.hid hcat
              have HLK := Lib.hid hlk
              have hlm : lk.may = true := by have := next_may HM.out.may hcl; rw [hlk] at this; exact this
              have HLM := Lib.hid hlm
              clear hlm
              have HCT := Lib.hid hct
              clear hcat hlen hlk hct hcl hfl q22 hpie hchk hseg hsegn hchkn
              go_region_held3 (fun w' => w'.cell? ⟨g, 12, none⟩ = some (.int .i64 m.link.number) ∧ w'.cell? ⟨g, 13, none⟩ = some (.int .i64 m.link.bytes) ∧ w'.cell? ⟨g, 14, none⟩ = some (.int .i64 m.link.sl.re) ∧ w'.cell? ⟨g, 15, none⟩ = some (.int .i64 m.link.sl.im) ∧ w'.cell? ⟨g, 16, none⟩ = some (.slice sA m.segment.length sc) ∧ w'.cell? ⟨g10, 7, none⟩ = some (.slice A (addCheck m r).length c1))
                (first | exact K2.out | exact K0.out | exact K1.out | exact K3.out | exact KE.out | go_keep)
                (first
                  | (go_at_call 47; refine HCAT.out.mono ?_; rintro e w2 ⟨B, d, rfl, o2, b2⟩; have S5 := Lib.hid (S4.out.below b2); have Z5 := Lib.hid (Z4.out.then (Rv.Same.below b2)); have O2 : Hid (RdB w2 B cat) := Lib.hid (by obtain ⟨_, _, e', _, _, h⟩ := o2.shape; cases e'; exact h); have K2 := Lib.hid (HK0.out _ _ _ S5.out); clear o2 b2)
                  | (go_at_call 46; refine (HNX.out w2 B d O2.out).mono ?_; rintro e w3 ⟨rfl, b3⟩; have S6 := Lib.hid (S5.out.below b3); have Z6 := Lib.hid (Z5.out.then (Rv.Same.below b3)); have K3 := Lib.hid (HK0.out _ _ _ S6.out); have f2 : w3.frozen? ⟨g10, 2, none⟩ = false := frozen_of S6.out.right.heap 2; have f3 : w3.frozen? ⟨g10, 3, none⟩ = false := frozen_of S6.out.right.heap 3; have f4 : w3.frozen? ⟨g10, 4, none⟩ = false := frozen_of S6.out.right.heap 4; have f5 : w3.frozen? ⟨g10, 5, none⟩ = false := frozen_of S6.out.right.heap 5; obtain ⟨_, _, y2, y3, y4, y5, _, _, _, _⟩ := stp_facts S6.out.right; have S7 : Hid (Sat ((((w3.setCell ⟨g10, 2, none⟩ (.int .i64 lk.number)).setCell ⟨g10, 3, none⟩ (.int .i64 lk.bytes)).setCell ⟨g10, 4, none⟩ (.int .i64 lk.sl.re)).setCell ⟨g10, 5, none⟩ (.int .i64 lk.sl.im)) (pt g10 (.cells (stepCells gc (.pointer op) lk (.slice pA piece.length pc) (.slice A (addCheck m r).length c1) (.slice none 0 0) true) 74) * (makBox T g m.p gc0 gl m.link (.slice sA m.segment.length sc) m.records m.size ev * (pt wA.heap.size (.cells #[(.slice sA m.segment.length sc), (.slice pA piece.length pc), (.slice A (addCheck m r).length c1)] 22) * (owedP Q1 (.pointer op) (addOwed m r) * (bytesP (.slice A (addCheck m r).length c1) (addCheck m r) * (ledP Q1 gl m.owed * (Q1 * (bytesP (.slice sA m.segment.length sc) m.segment * (pt g8 (.cells stepZero 74) * (pt g5 (.cells #[.int .i64 r.tick, .string r.key, .int .i64 r.cost, .int .i64 r.verdict] 44) * R))))))))))) := Lib.hid ((((S6.out.swap.setCell (i := 2) (.int .i64 lk.number)).setCell (i := 3) (.int .i64 lk.bytes)).setCell (i := 4) (.int .i64 lk.sl.re)).setCell (i := 5) (.int .i64 lk.sl.im)); have KE := Lib.hid (HK0.out _ _ _ S7.out.swap); clear b3))
              have Z7 : Hid (Same w ((((w3.setCell ⟨g10, 2, none⟩ (.int .i64 lk.number)).setCell ⟨g10, 3, none⟩ (.int .i64 lk.bytes)).setCell ⟨g10, 4, none⟩ (.int .i64 lk.sl.re)).setCell ⟨g10, 5, none⟩ (.int .i64 lk.sl.im))) := Lib.hid ((((Z6.out.then (Kept.setCell (Kept.refl _ _) _ _ (.inl trivial))).then (Kept.setCell (Kept.refl _ _) _ _ (.inl trivial))).then (Kept.setCell (Kept.refl _ _) _ _ (.inl trivial))).then (Kept.setCell (Kept.refl _ _) _ _ (.inl trivial)))
              clear K0 K1 K2 K3 KE f2 f3 f4 f5 y2 y3 y4 y5 S3 S4 S5 S6 Z3 Z4 Z5 Z6 O2 HCAT HNX HK0
              generalize ((((w3.setCell ⟨g10, 2, none⟩ (.int .i64 lk.number)).setCell ⟨g10, 3, none⟩ (.int .i64 lk.bytes)).setCell ⟨g10, 4, none⟩ (.int .i64 lk.sl.re)).setCell ⟨g10, 5, none⟩ (.int .i64 lk.sl.im)) = wE at *
              obtain ⟨_, _, s2, s3, s4, s5, _, _, _, _⟩ := stp_facts S7.out
              go_wp2_with fail
              refine (lbytes_any lk wE HLM.out).mono ?_
              rintro e w5 ⟨v, rfl, o5, b5⟩
              obtain ⟨B5, d5, rfl, -, -, -⟩ := o5.shape
              have S8 : Hid (Sat w5 (pt g10 (.cells (stepCells gc (.pointer op) lk (.slice pA piece.length pc) (.slice A (addCheck m r).length c1) (.slice none 0 0) true) 74) * (owedP Q1 (.pointer op) (addOwed m r) * (bytesP (.slice A (addCheck m r).length c1) (addCheck m r) * (bytesP (.slice B5 lk.enc.length d5) lk.enc * (ledP Q1 gl m.owed * (Q1 * (makBox T g m.p gc0 gl m.link (.slice sA m.segment.length sc) m.records m.size ev * (bytesP (.slice sA m.segment.length sc) m.segment * (pt g8 (.cells stepZero 74) * (pt g5 (.cells #[.int .i64 r.tick, .string r.key, .int .i64 r.cost, .int .i64 r.verdict] 44) * R))))))))))) := Lib.hid (((bytesP_new S7.out o5 b5).perm (show _ = pt wA.heap.size (.cells #[(.slice sA m.segment.length sc), (.slice pA piece.length pc), (.slice A (addCheck m r).length c1)] 22) * (pt g10 (.cells (stepCells gc (.pointer op) lk (.slice pA piece.length pc) (.slice A (addCheck m r).length c1) (.slice none 0 0) true) 74) * (owedP Q1 (.pointer op) (addOwed m r) * (bytesP (.slice A (addCheck m r).length c1) (addCheck m r) * (bytesP (.slice B5 lk.enc.length d5) lk.enc * (ledP Q1 gl m.owed * (Q1 * (makBox T g m.p gc0 gl m.link (.slice sA m.segment.length sc) m.records m.size ev * (bytesP (.slice sA m.segment.length sc) m.segment * (pt g8 (.cells stepZero 74) * (pt g5 (.cells #[.int .i64 r.tick, .string r.key, .int .i64 r.cost, .int .i64 r.verdict] 44) * R)))))))))) by ac_rfl)).right)
              have Z8 := Lib.hid (Z7.out.then (Rv.Same.below b5))
              obtain ⟨_, _, _, _, _, _, _, _, y8, _⟩ := stp_facts S8.out
              have f8 : w5.frozen? ⟨g10, 8, none⟩ = false := frozen_of S8.out.heap 8
              clear o5 b5 S7 Z7 s2 s3 s4 s5
              go_wp2_with fail
              go_meet
              case rel =>
                have hlk : addLink m r piece = lk := by unfold addLink; rw [HC.out, HCT.out, HLK.out]; rfl
                unfold AddsEnd addTr
                rw [hlk, HC.out]
                exact ⟨B5, d5, S8.out.setCell (i := 8) (.slice B5 lk.enc.length d5), Z8.out.then (Kept.setCell (Kept.refl _ _) _ _ (.inl trivial))⟩
          case rest =>
            rename World => wz
            obtain ⟨B, d, s1, z1⟩ := hcut
            have S3 := Lib.hid s1
            have Z3 := Lib.hid z1
            clear s1 z1 S2 SN Z2 d8 d9 d10 d11 d12 d13 d14 d15 d16 d17 d18 d19 s0 s2 s3 s4 s5 s6 s7 s8 s9
            have htl : (addTr m r piece).length ≤ 1099511627776 := by
              unfold addTr
              split
              · exact enc_len _
              · simp
            generalize addLink m r piece = lk at *
            generalize addTr m r piece = tr at *
            generalize addEnds m = en at *
            have S4 : Hid (Sat wz (pt g8 (.cells stepZero 74) * (pt g10 (.cells (stepCells gc (.pointer op) lk (.slice pA piece.length pc) (.slice A (addCheck m r).length c1) (.slice B tr.length d) en) 74) * (makBox T g m.p gc0 gl m.link (.slice sA m.segment.length sc) m.records m.size ev * (owedP Q1 (.pointer op) (addOwed m r) * (bytesP (.slice A (addCheck m r).length c1) (addCheck m r) * (bytesP (.slice B tr.length d) tr * (ledP Q1 gl m.owed * (bytesP (.slice sA m.segment.length sc) m.segment * (Q1 * (pt g5 (.cells #[.int .i64 r.tick, .string r.key, .int .i64 r.cost, .int .i64 r.verdict] 44) * R))))))))))) := Lib.hid (S3.out.perm (by ac_rfl))
            have S5 := Lib.hid (sat_setRow (n := (stepCells gc (.pointer op) lk (.slice pA piece.length pc) (.slice A (addCheck m r).length c1) (.slice B tr.length d) en)) S4.out)
            have q8 := Lib.hid S4.out.heap
            have q10 := Lib.hid S3.out.heap
            have K0 := Lib.hid (stp_facts S3.out)
            have KE := Lib.hid (stp_facts S5.out.right)
            have hbs : addSize m r piece ≤ 4194304 := by have := HS.out; omega
            obtain ⟨y0, y1, y2, y3, y4, y5, y6, y7, y8, y9⟩ := stp_facts S3.out
            clear S3
            have hwr : IntKind.i64.wrap ((addSize m r piece : Nat) + (tr.length : Int)) = (addSize m r piece : Nat) + (tr.length : Int) := by rw [IntKind.wrap_i64]; omega
            go_upto_region 14 with (fail)
            clear y0 y1 y2 y3 y4 y5 y6 y7 y8 y9
            refine wp_region_held_drew (S := fun w' => w'.cell? ⟨g10, 0, none⟩ = some (.pointer (some ⟨gc, 0, none⟩)) ∧ w'.cell? ⟨g10, 1, none⟩ = some (.pointer op) ∧ w'.cell? ⟨g10, 2, none⟩ = some (.int .i64 lk.number) ∧ w'.cell? ⟨g10, 3, none⟩ = some (.int .i64 lk.bytes) ∧ w'.cell? ⟨g10, 4, none⟩ = some (.int .i64 lk.sl.re) ∧ w'.cell? ⟨g10, 5, none⟩ = some (.int .i64 lk.sl.im) ∧ w'.cell? ⟨g10, 6, none⟩ = some (.slice pA piece.length pc) ∧ w'.cell? ⟨g10, 7, none⟩ = some (.slice A (addCheck m r).length c1) ∧ w'.cell? ⟨g10, 8, none⟩ = some (.slice B tr.length d) ∧ w'.cell? ⟨g10, 9, none⟩ = some (.bool en)) (by kernel_rfl) K0.out (fun hHeld => ?_)
            refine wpAnyH_take (i := 0) (oi := ⟨some 103, .load 74 (.tmp 10), 74, "tape.go:76", #[], none⟩) (v := ?_) rfl (by kernel_rfl) (by kernel_rfl) (by kernel_rfl) (fun _ _ _ h => h) (Or.inl ⟨by rfl, ?_⟩) (by assumption) ?_
            rotate_left
            · intro w hSw
              try dsimp only at hSw
              go_simp
              try with_reducible rfl
            try simp only [Act.put, List.setIfInBounds_toArray, List.set_cons_zero, List.set_cons_succ]
            refine wpAnyH_take (i := 1) (oi := ⟨some 104, .move (.tmp 12), 3, "tape.go:76", #[⟨7, .gcOnly .lateStores⟩], none⟩) (v := ?_) rfl (by kernel_rfl) (by kernel_rfl) (by kernel_rfl) (fun _ _ _ h => h) (Or.inl ⟨by rfl, ?_⟩) (by assumption) ?_
            rotate_left
            · intro w hSw
              try dsimp only at hSw
              go_simp
              try with_reducible rfl
            try simp only [Act.put, List.setIfInBounds_toArray, List.set_cons_zero, List.set_cons_succ]
            refine wpAnyH_take (i := 2) (oi := ⟨some 105, .fieldAddr 74 (.tmp 10) 5, 0, "tape.go:76", #[], none⟩) (v := ?_) rfl (by kernel_rfl) (by kernel_rfl) (by kernel_rfl) (fun _ _ _ h => h) (Or.inl ⟨by rfl, ?_⟩) (by assumption) ?_
            rotate_left
            · intro w hSw
              try dsimp only at hSw
              go_simp
              try with_reducible rfl
            try simp only [Act.put, List.setIfInBounds_toArray, List.set_cons_zero, List.set_cons_succ]
            refine wpAnyH_take (i := 3) (oi := ⟨some 106, .load 22 (.tmp 105), 22, "tape.go:76", #[⟨2, .data⟩], none⟩) (v := ?_) rfl (by kernel_rfl) (by kernel_rfl) (by kernel_rfl) (fun _ _ _ h => h) (Or.inl ⟨by rfl, ?_⟩) (by assumption) ?_
            rotate_left
            · intro w hSw
              try dsimp only at hSw
              go_simp
              try with_reducible rfl
            try simp only [Act.put, List.setIfInBounds_toArray, List.set_cons_zero, List.set_cons_succ]
            refine wpAnyH_take (i := 4) (oi := ⟨some 107, .call { callee := .builtin .len, args := #[.tmp 106], argTypes := #[22] }, 3, "tape.go:76", #[⟨3, .data⟩], none⟩) (v := ?_) rfl (by kernel_rfl) (by kernel_rfl) (by kernel_rfl) (fun _ _ _ h => h) (Or.inl ⟨by rfl, ?_⟩) (by assumption) ?_
            rotate_left
            · intro w hSw
              try dsimp only at hSw
              go_simp
              try with_reducible rfl
            try simp only [Act.put, List.setIfInBounds_toArray, List.set_cons_zero, List.set_cons_succ]
            refine wpAnyH_take (i := 5) (oi := ⟨some 108, .binOp .add 3 (.tmp 104) (.tmp 107) 3, 3, "tape.go:76", #[⟨1, .data⟩, ⟨4, .data⟩, ⟨7, .gcOnly .lateStores⟩], none⟩) (v := ?_) rfl (by kernel_rfl) (by kernel_rfl) (by kernel_rfl) (fun _ _ _ h => h) (Or.inl ⟨by rfl, ?_⟩) (by assumption) ?_
            rotate_left
            · intro w hSw
              try dsimp only at hSw
              go_simp
              try with_reducible rfl
            try simp only [Act.put, List.setIfInBounds_toArray, List.set_cons_zero, List.set_cons_succ]
            refine wpAnyH_take (i := 6) (oi := ⟨some 109, .binOp .leq 3 (.tmp 108) (.const (.int .i64 4194304)) 3, 4, "tape.go:76", #[⟨5, .data⟩, ⟨7, .gcOnly .lateStores⟩], none⟩) (v := ?_) rfl (by kernel_rfl) (by kernel_rfl) (by kernel_rfl) (fun _ _ _ h => h) (Or.inl ⟨by rfl, ?_⟩) (by assumption) ?_
            rotate_left
            · intro w hSw
              try dsimp only at hSw
              go_simp
              try with_reducible rfl
            try simp only [Act.put, List.setIfInBounds_toArray, List.set_cons_zero, List.set_cons_succ]
            refine wpAnyH_ready (rs := [7]) (by kernel_rfl) (by simp) ?_
            refine AllReadyH.cons (o := ⟨none, .store 74 (.tmp 8) (.tmp 103), 0, "tape.go:76", #[⟨0, .data⟩, ⟨0, .phase⟩, ⟨1, .textOnly .lateStores⟩, ⟨2, .textOnly .lateStores⟩, ⟨3, .textOnly .lateStores⟩, ⟨4, .textOnly .lateStoresUnsure⟩, ⟨5, .textOnly .lateStores⟩, ⟨6, .textOnly .lateStores⟩], none⟩) rfl (fun K hK => ?_) AllReadyH.nil
            refine step_store_row rfl 74 (.tmp 8) (.tmp 103) rfl g8 (stepCells gc (.pointer op) lk (.slice pA piece.length pc) (.slice A (addCheck m r).length c1) (.slice B tr.length d) en) (by rfl) (by rfl) 74 stepZero q8.out info_step (by rfl) (one_step _ _ _ _ _ _ _ _ _ _ _ _ _) ?_
            refine hK.out _ _ KE.out (fun hHeld => ?_)
            clear hK K
            try simp only [Act.put, List.setIfInBounds_toArray, List.set_cons_zero, List.set_cons_succ]
            refine wpAnyH_take (i := 8) (oi := ⟨some 9, .assign (.tmp 109), 4, "tape.go:76", #[⟨6, .data⟩, ⟨7, .chain⟩, ⟨0, .phase⟩, ⟨1, .phase⟩, ⟨2, .phase⟩, ⟨3, .phase⟩, ⟨4, .phase⟩, ⟨5, .phase⟩, ⟨6, .phase⟩, ⟨7, .phase⟩], none⟩) (v := ?_) rfl (by kernel_rfl) (by kernel_rfl) (by kernel_rfl) (fun _ _ _ h => h) (Or.inl ⟨by rfl, ?_⟩) (by assumption) ?_
            rotate_left
            · intro w hSw
              try dsimp only at hSw
              go_simp
              try with_reducible rfl
            try simp only [Act.put, List.setIfInBounds_toArray, List.set_cons_zero, List.set_cons_succ]
            refine wpAnyH_done (by kernel_rfl) ?_ _
            clear hHeld
            go_wp2_with fail
            refine bodyPost_ret (results_cell_tmp Tryz.results24 _ _ g8 74 (stepCells gc (.pointer op) lk (.slice pA piece.length pc) (.slice A (addCheck m r).length c1) (.slice B tr.length d) en) (0, 0) _ (.bool (decide ((addSize m r piece : Int) + (tr.length : Int) ≤ 4194304))) (by rfl) (by rfl) S5.out.heap Tryz.underlying74 (by rfl) info_step) rfl ?_
            have hdec : decide ((addSize m r piece : Int) + (tr.length : Int) ≤ 4194304) = decide (addSize m r piece + tr.length ≤ 4194304) := decide_eq_decide.2 (by omega)
            rw [hdec]
            refine ⟨(.pointer op), (.slice A (addCheck m r).length c1), .slice B tr.length d, Q1, by rw [HE.out], X1.out, ?_, Z3.out.drew.then (same_setRow _ _ _), by rw [HE.out]; exact nil_check HCN.out⟩
            rw [HE.out]
            exact ((S5.out.right.right.perm (show _ = pt g5 (.cells #[.int .i64 r.tick, .string r.key, .int .i64 r.cost, .int .i64 r.verdict] 44) * (makBox T g m.p gc0 gl m.link (.slice sA m.segment.length sc) m.records m.size ev * (owedP Q1 (.pointer op) (addOwed m r) * (bytesP (.slice A (addCheck m r).length c1) (addCheck m r) * (bytesP (.slice B tr.length d) tr * (ledP Q1 gl m.owed * (bytesP (.slice sA m.segment.length sc) m.segment * (Q1 * R))))))) by ac_rfl)).right)
end Go.Proofs.YtcmndglhileeoaaGreat
