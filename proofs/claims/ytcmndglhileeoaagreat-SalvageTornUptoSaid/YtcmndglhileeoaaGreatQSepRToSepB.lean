/- A part of the proof: its texts in a row: SepR, SepB. Each text's own remark stands at its head. -/
import Derived.Test.YtcmndglhileeoaaGreatQPutToCClone
import Derived.Test.YtcmndglhileeoaaGreatQSep
import Derived.Lib.AppendStr
/- Contracts of packages dict and record over parts of memory. -/
set_option linter.unusedSimpArgs false
set_option linter.unusedVariables false
namespace Go.Proofs.YtcmndglhileeoaaGreat
open Go.RowKit
open Rv (HP Sat Same pt allOf sat_all RdIn row own Lcl)

theorem DictAt.loc (g : Nat) (d : Rv.Dict) : Lcl (fun w S => DictAt w S g d) := by
  intro w w' S h hk
  obtain ⟨ok, kv, bm, ov, es, clock, h1, h2, h3, h4, h5, h6, h7, h8, h9, h10⟩ := h
  have l1 := (Array.getElem?_eq_some_iff.1 h1).1
  have l4 := (Array.getElem?_eq_some_iff.1 h4).1
  refine ⟨ok, kv, bm, ov, es, clock, (hk g h7 l1).trans h1, h2.step fun k e l => hk k (h9 k e) l, h3.step fun k e l => hk k (h10 k e) l, (hk bm h8 l4).trans h4, h5, h6, ⟨h7, l1⟩, ⟨h8, l4⟩, fun k e => ⟨h9 k e, (h2.block k e).2⟩, fun k e => ⟨h10 k e, (h3.block k e).2⟩⟩
theorem CoderAt.loc (g : Nat) (c : Rv.Coder) : Lcl (fun w S => CoderAt w S g c) := by
  intro w w' S h hk
  obtain ⟨ok, hg, gd, h1, h2⟩ := h
  have l1 := (Array.getElem?_eq_some_iff.1 h1).1
  refine ⟨ok, ⟨hg, l1⟩, gd, (hk g hg l1).trans h1, ?_⟩
  refine (DictAt.loc gd c.d w w' _ h2 (fun k hk' l => hk k hk'.1 l)).mono (fun i _ h => ⟨⟨h.1.1, h.2⟩, h.1.2⟩)

def dictP (g : Nat) (d : Rv.Dict) : HP := own (fun w S => DictAt w S g d)
def coderP (g : Nat) (c : Rv.Coder) : HP := own (fun w S => CoderAt w S g c)
def bytesP (v : Value) (xs : List UInt8) : HP := row 5 v (u8s xs)

theorem coderP_ok {w : World} {R : HP} {g : Nat} {c : Rv.Coder} (h : Sat w (coderP g c * R)) : COk c ∧ DOk c.d ∧ g < w.heap.size := by
  obtain ⟨S, h1, h2, _⟩ := Rv.Sat.own_turn (CoderAt.loc g c) h
  obtain ⟨ok, hg, gd, q1, q2⟩ := h1
  exact ⟨ok, q2.1, h2 g hg⟩

/-- Put, of a record that may be and does not fall. -/
theorem sput_ok (w : World) (R : HP) (g : Nat) (c : Rv.Coder) (r : Rv.Rec) (h : Sat w (coderP g c * R)) (hr : r.right = 0) (ht : c.tick ≤ r.tick) :
    Calls Tryz.prog 23 #[.pointer (some ⟨g, 0, none⟩), .agg #[.int .i64 r.tick, .string r.key, .int .i64 r.cost, .int .i64 r.verdict]] w fun e w' =>
      ∃ B C, e = .returned (.tuple #[.slice B (c.put r).2.length C, .int .i64 0]) ∧ Sat w' (bytesP (.slice B (c.put r).2.length C) (c.put r).2 * (coderP g (c.put r).1 * R)) ∧ Same w w' := by
  obtain ⟨S, h1, h2, h3⟩ := Rv.Sat.own_turn (CoderAt.loc g c) h
  refine (cput_ok w S g c r h1 h2 hr ht).mono ?_
  rintro e w' ⟨B, C, S', rfl, o, cd, mv, hd⟩
  refine ⟨B, C, rfl, ?_, Same.of mv.1⟩
  refine Rv.Sat.own_two (h3 w' (fun w S => ∃ A B' : Nat → Prop, Rv.rowX 5 (.slice B (c.put r).2.length C) (u8s (c.put r).2) w A ∧ CoderAt w B' g (c.put r).1 ∧ (∀ k, A k → ¬ B' k) ∧ (∀ k, A k → S k) ∧ (∀ k, B' k → S k))
    (fun k => (Value.slice B (c.put r).2.length C).ownBlock = some k ∨ S' k) mv.1 ?_ ?_)
  · exact ⟨fun k => (Value.slice B (c.put r).2.length C).ownBlock = some k, S', ⟨(o.mono (Nat.zero_le _)).toV, fun k hk => hk⟩, cd, hd, fun k hk => .inl hk, fun k hk => .inr hk⟩
  · rintro k (hk | hk)
    · exact .inr (o.toV.block k hk).1
    · exact (mv.2 k hk).1
theorem sput_bad (w : World) (R : HP) (g : Nat) (c : Rv.Coder) (r : Rv.Rec) (h : Sat w (coderP g c * R)) (hr : c.putE r ≠ 0) :
    Calls Tryz.prog 23 #[.pointer (some ⟨g, 0, none⟩), .agg #[.int .i64 r.tick, .string r.key, .int .i64 r.cost, .int .i64 r.verdict]] w fun e w' => e = .returned (.tuple #[.slice none 0 0, .int .i64 (c.putE r)]) ∧ Below w.heap.size w w' := by
  obtain ⟨S, h1, h2, h3⟩ := Rv.Sat.own_turn (CoderAt.loc g c) h
  unfold Rv.Coder.putE at hr ⊢
  by_cases h0 : r.right = 0
  · rw [if_neg (by omega)] at hr ⊢
    by_cases ht : r.tick < c.tick
    · rw [if_pos ht]; exact cput_back w S g c r h1 h0 ht
    · rw [if_neg ht] at hr; exact absurd rfl hr
  · rw [if_pos h0]; exact cput_wrong w S g c r h1 h0
theorem sclone (w : World) (R : HP) (g : Nat) (c : Rv.Coder) (h : Sat w (coderP g c * R)) :
    Calls Tryz.prog 22 #[.pointer (some ⟨g, 0, none⟩)] w fun e w' => ∃ g', e = .returned (.pointer (some ⟨g', 0, none⟩)) ∧ Sat w' (coderP g' c * (coderP g c * R)) ∧ Below w.heap.size w w' := by
  obtain ⟨S, h1, h2, h3⟩ := Rv.Sat.own_turn (CoderAt.loc g c) h
  refine (cclone_any w S g c h1).mono ?_
  rintro e w' ⟨g', rfl, cd, hb⟩
  exact ⟨g', rfl, h.own_new hb _ cd (fun k hk => hk.1), hb⟩

/-! ### dict -/
theorem dictP_ok {w : World} {R : HP} {g : Nat} {d : Rv.Dict} (h : Sat w (dictP g d * R)) : DOk d := by
  obtain ⟨S, h1, _⟩ := Rv.Sat.own_turn (DictAt.loc g d) h
  exact h1.1
theorem suse (w : World) (R : HP) (g : Nat) (d : Rv.Dict) (key : ByteArray) (h : Sat w (dictP g d * R)) (h0 : 1 ≤ key.size) (h1 : key.size ≤ 64) :
    Calls Tryz.prog 42 #[.pointer (some ⟨g, 0, none⟩), .string key] w fun e w' => e = .returned (.tuple #[.int .i64 ((d.use key).2.1 : Int), .bool (d.use key).2.2, .int .i64 0]) ∧ Sat w' (dictP g (d.use key).1 * R) ∧ Same w w' := by
  obtain ⟨S, q1, q2, q3⟩ := Rv.Sat.own_turn (DictAt.loc g d) h
  refine (use_moved w S g d key q1 h0 h1).mono ?_
  rintro e w' ⟨rfl, S', hd, mv⟩
  exact ⟨rfl, q3 w' _ S' mv.1 hd (fun k hk => (mv.2 k hk).1), Same.of mv.1⟩
theorem stouch_yes (w : World) (R : HP) (g : Nat) (d : Rv.Dict) (s : Nat) (key : ByteArray) (h : Sat w (dictP g d * R)) (hk : d.keys[s]? = some key) :
    Calls Tryz.prog 123 #[.pointer (some ⟨g, 0, none⟩), .int .i64 (s : Int)] w fun e w' => e = .returned (.tuple #[.string key, .int .i64 0]) ∧ Sat w' (dictP g (d.used s) * R) ∧ Same w w' := by
  obtain ⟨S, q1, q2, q3⟩ := Rv.Sat.own_turn (DictAt.loc g d) h
  refine (touch_yes w S g d s key q1 hk).mono ?_
  rintro e w' ⟨rfl, hd, mv⟩
  exact ⟨rfl, q3 w' _ S mv hd (fun k hk => .inl hk), Same.of mv⟩
theorem stouch_no (w : World) (R : HP) (g : Nat) (d : Rv.Dict) (s : Nat) (h : Sat w (dictP g d * R)) (hk : d.keys.length ≤ s) :
    Calls Tryz.prog 123 #[.pointer (some ⟨g, 0, none⟩), .int .i64 (s : Int)] w fun e w' => e = .returned (.tuple #[.string ⟨#[]⟩, .int .i64 50]) ∧ w = w' := by
  obtain ⟨S, q1, q2, q3⟩ := Rv.Sat.own_turn (DictAt.loc g d) h
  exact touch_no w S g d s q1 hk
theorem slook (w : World) (R : HP) (g : Nat) (d : Rv.Dict) (key : ByteArray) (h : Sat w (dictP g d * R)) :
    Calls Tryz.prog 85 #[.pointer (some ⟨g, 0, none⟩), .string key] w fun e w' => e = .returned (.int .i64 (lookRes (d.find key))) ∧ w = w' := by
  obtain ⟨S, q1, q2, q3⟩ := Rv.Sat.own_turn (DictAt.loc g d) h
  exact look_any w S g d key q1
theorem snew_dict (w : World) (R : HP) (room : Nat) (h : Sat w R) (h0 : 1 ≤ room) (h1 : room ≤ 64) :
    Calls Tryz.prog 73 #[.int .i64 (room : Int)] w fun e w' => ∃ g, e = .returned (.tuple #[.pointer (some ⟨g, 0, none⟩), .int .i64 0]) ∧ Sat w' (dictP g (Rv.Dict.new room) * R) ∧ Same w w' := by
  refine (dnew_any w room h0 h1).mono ?_
  rintro e w' ⟨g, rfl, hd, hb⟩
  exact ⟨g, rfl, h.own_new hb _ hd (fun k hk => hk), Rv.Same.below hb⟩

/-- A coder in its parts: its box, its dictionary. -/
theorem coderP_open {w : World} {R : HP} {g : Nat} {c : Rv.Coder} (h : Sat w (coderP g c * R)) :
    COk c ∧ ∃ gd, Sat w (pt g (.cells #[.pointer (some ⟨gd, 0, none⟩), .int .i64 c.tick, .int .i64 c.cost] 108 (0, 0)) * (dictP gd c.d * R)) := by
  obtain ⟨S, q1, q2, q3⟩ := Rv.Sat.own_out (CoderAt.loc g c) h
  obtain ⟨ok, hg, gd, h1, h2⟩ := q1
  refine ⟨ok, gd, ?_⟩
  obtain ⟨a, p1, p2, p3⟩ := Rv.own_of (X := fun w S => DictAt w S gd c.d) h2
  refine (q3 w (pt g _ * dictP gd c.d) (fun k => (if k = g then some (.cells #[.pointer (some ⟨gd, 0, none⟩), .int .i64 c.tick, .int .i64 c.cost] 108 (0, 0)) else none : Option Obj).or (a k)) (fun _ _ _ => rfl) ?_ ?_ ?_).perm (Rv.star_assoc _ _ _)
  · refine ⟨_, a, fun k => ?_, rfl, rfl, p1⟩
    by_cases e : k = g
    · exact .inr (p3 k (fun hk => hk.2 e))
    · exact .inl (if_neg e)
  · intro k o hk
    by_cases e : k = g
    · subst e; rw [if_pos rfl, Option.some_or] at hk; rw [h1]; exact hk
    · rw [if_neg e, Option.none_or] at hk; exact p2 k o hk
  · intro k hk hlt
    have e : k ≠ g := fun e => hk (e ▸ hg)
    simp only [if_neg e, Option.none_or]
    exact p3 k (fun h => hk h.1)
theorem coderP_shut {w : World} {R : HP} {g gd : Nat} {c : Rv.Coder} (ok : COk c) (h : Sat w (pt g (.cells #[.pointer (some ⟨gd, 0, none⟩), .int .i64 c.tick, .int .i64 c.cost] 108 (0, 0)) * (dictP gd c.d * R))) : Sat w (coderP g c * R) := by
  obtain ⟨a, b, hp, ⟨a2, b2, hd2, rfl, q1, q2⟩, hd, ha, hb⟩ := h.parts
  have hb1 : ∀ k o, a2 k = some o → w.heap[k]? = some o := fun k o hk => hb k o (by simp only [hk, Option.some_or])
  have hb2 : ∀ k o, b2 k = some o → w.heap[k]? = some o := fun k o hk => hb k o (by
    rcases hd2 k with d | d
    · simp only [d, hk, Option.none_or]
    · rw [d] at hk; cases hk)
  have dd := Rv.own_get (DictAt.loc gd c.d) q1 hb1
  have hgn : ∀ o, a2 g ≠ some o := fun o ho => by
    have := hd g
    simp only at this
    rw [Rv.pt_at hp, if_pos rfl, ho] at this
    simp at this
  have hga : w.heap[g]? = some (.cells #[.pointer (some ⟨gd, 0, none⟩), .int .i64 c.tick, .int .i64 c.cost] 108 (0, 0)) := ha g _ (by rw [Rv.pt_at hp, if_pos rfl])
  have cd : CoderAt w (fun k => k = g ∨ ∃ o, a2 k = some o) g c := ⟨ok, .inl rfl, gd, hga, dd.mono (fun i _ h' => ⟨.inr h', fun e => h'.elim (fun o1 ho => hgn o1 (e ▸ ho))⟩)⟩
  obtain ⟨a', r1, r2, r3⟩ := Rv.own_of (X := fun w S => CoderAt w S g c) cd
  refine Rv.Sat.of_parts r1 q2 (fun k => ?_) r2 hb2
  cases hk : b2 k with
  | none => exact .inr rfl
  | some o =>
    refine .inl (r3 k ?_)
    rintro (e | ⟨o', ho'⟩)
    · subst e
      have := hd k
      simp only at this
      rw [Rv.pt_at hp, if_pos rfl] at this
      rcases hd2 k with d | d
      · simp [d, hk] at this
      · rw [d] at hk; cases hk
    · rcases hd2 k with d | d
      · rw [d] at ho'; cases ho'
      · rw [d] at hk; cases hk
end Go.Proofs.YtcmndglhileeoaaGreat

/- Steps of a walk over parts of memory: append. No program beyond its name. -/
set_option linter.unusedSimpArgs false
set_option linter.unusedVariables false
namespace Go.Proofs.YtcmndglhileeoaaGreat
open Go.RowKit
open Rv (HP Sat Same pt allOf sat_all RdIn row own)

theorem bytesP_own {w : World} {v : Value} {xs : List UInt8} {R : HP} (h : Sat w (bytesP v xs * R)) : OwnB w 0 v xs := (Rv.Sat.row_own h).toB
theorem bytesP_shape {w : World} {v : Value} {xs : List UInt8} {R : HP} (h : Sat w (bytesP v xs * R)) : ∃ A c, v = .slice A xs.length c ∧ xs.length ≤ c ∧ c ≤ maxLen ∧ RdB w A xs := (bytesP_own h).shape
theorem bytesP_new {w w' : World} {v : Value} {xs : List UInt8} {R : HP} (h : Sat w R) (ho : OwnB w' w.heap.size v xs) (hb : Below w.heap.size w w') : Sat w' (bytesP v xs * R) :=
  h.row_new hb (ho.mono (Nat.zero_le _)).toV (fun k hk => (ho.toV.block k hk).1)
theorem Same.of_below' {w w' : World} (h : Below w.heap.size w w') : Same w w' := Rv.Same.below h

theorem run_append_own_string_at {P : Program} (w : World) (t u ty e : TypeId) (i : TypeInfo) (ht : P.underlying t = some (.slice e)) (hu : P.underlying u = some .string) (hi : P.info? e = some i) (hz : i.zero = some (.int .u8 0))
    (hsize : i.size = 1) (hby : i.bytes = 1) (v : Value) (n : Nat) (xs : List Value) (hown : w.ownsRow 0 e 1 v n xs) (s : ByteArray) (h63 : n + s.size ≤ maxLen) (hbytes : n + s.size ≤ 140737488355328) :
    ∃ v' w', (Builtin.append_ #[t, u] ty #[v, .string s]).run P w = .ok v' w' ∧ w'.ownsRow 0 e 1 v' (n + s.size) (xs ++ Lib.strCells s) ∧ w.grownBy w' v.ownBlock ∧ ∀ k, v'.ownBlock = some k → v.ownBlock = some k ∨ w.heap.size ≤ k := by
  obtain ⟨v', w', hr, ho, hg, _⟩ := Lib.run_append_own_string w 0 t u ty e i ht hu hi hz hsize hby v n xs hown s h63 hbytes (Nat.zero_le _)
  refine ⟨v', w', hr, ho, hg, ?_⟩
  have hsmall : n + s.size ≤ 9223372036854775807 := by simp only [maxLen] at h63; omega
  rcases hown.2 with ⟨rfl, rfl⟩ | ⟨g, cap, cur, rfl, hbg, hgg, hnc, hcm, hcs, htake⟩
  · have hown2 : w.ownsRow w.heap.size e 1 (.slice none 0 0) 0 xs := ⟨hown.1, .inl ⟨rfl, rfl⟩⟩
    obtain ⟨v2, w2, hr2, ho2, _⟩ := Lib.run_append_own_string w w.heap.size t u ty e i ht hu hi hz hsize hby _ 0 xs hown2 s h63 hbytes (Nat.le_refl _)
    rw [hr] at hr2
    injection hr2 with e1 e2
    subst e1; subst e2
    exact fun k hk => .inr (ho2.lt k hk).1
  · by_cases hroom : n + s.size ≤ cap
    · have hcs' : cur.size = cap := by simpa using hcs
      have hr2 := Lib.run_append_room_string (P := P) w t u ty e i ht hu hi hsize g n cap cur hgg s hroom (by omega)
      rw [hr] at hr2
      injection hr2 with e1 e2
      subst e1
      exact fun k hk => .inl hk
    · have hxl : xs.length = n := by simpa using hown.1
      have holds : ∀ j u, xs[j]? = some u → w.cell? ((⟨g, 0, none⟩ : Addr).add j) = some u := hown.cells (g := g) rfl
      have hr2 := Lib.run_append_grow_string (P := P) w t u ty e i (.int .u8 0) ht hu hi hz ⟨g, 0, none⟩ n cap xs (by rw [hsize]; simpa using hxl) holds s (by omega) (by omega) (by rw [hby]; exact growslice_fits (by omega) (by omega))
      rw [hr] at hr2
      injection hr2 with e1 e2
      subst e1
      intro k hk
      have : w.heap.size = k := by simpa [Value.ownBlock] using hk
      exact .inr (by omega)

section
variable {P : Program} {ops : Array Oper} {rest : List Oper} {o : Oper} {a : Act} {Q : Exit → Act → World → Prop}
/-- An arm's gate: the operation that writes this slot. -/
theorem at_slot (n : Tmp) {op : Op} {ty : TypeId} {pos : String} {after : Array Edge} {g : Option (Nat × Bool)} {W : World} (h : wpList P ops Q (⟨some n, op, ty, pos, after, g⟩ :: rest) a W) : wpList P ops Q (⟨some n, op, ty, pos, after, g⟩ :: rest) a W := h
/-- An arm's gate: a store of a type. -/
theorem at_store (t : TypeId) (x y : Tmp) {ty : TypeId} {pos : String} {after : Array Edge} {g : Option (Nat × Bool)} {W : World} (h : wpList P ops Q (⟨none, .store t (.tmp x) (.tmp y), ty, pos, after, g⟩ :: rest) a W) : wpList P ops Q (⟨none, .store t (.tmp x) (.tmp y), ty, pos, after, g⟩ :: rest) a W := h
/-- append of bytes that stand somewhere onto a row of one's own. -/
theorem sapp {W : World} {R : HP} (hgd : o.guard = none) (s x : Operand) (t : TypeId) (ho : o.op = .call { callee := .builtin .append, args := #[s, x], argTypes := #[t, t] })
    (ht : P.underlying t = some (.slice 5)) (hinfo : (P.info? 5).map (fun i => (i.zero, i.size, i.bytes)) = some (some (.int .u8 0), 1, 1))
    (v : Value) (xs news : List UInt8) (A : Option Addr) (n c : Nat) (hs : a.eval s = v) (hx : a.eval x = .slice A n c) (hn : n = news.length) (HS : Sat W (bytesP v xs * R)) (HR : RdB W A news) (hnone : A = none → c = 0)
    (N : Nat) (hN : xs.length + news.length = N) (hl : N ≤ 140737488355328)
    (h : ∀ B1 c1 w1, Sat w1 (bytesP (.slice B1 N c1) (xs ++ news) * R) → Same W w1 → wpList P ops Q rest (a.put o.dst (.slice B1 N c1)) w1) : wpList P ops Q (o :: rest) a W := by
  subst hn
  refine app_src_at hgd s x t 5 (.int .u8 0) 1 ho ht hinfo rfl (by omega) v (u8s xs) (u8s news) A c hs (by rw [u8s_length]; exact hx) (u8s_one _) (Rv.Sat.row_own HS) HR.toV (by rw [u8s_length, u8s_length]; omega) hnone N (by rw [u8s_length, u8s_length]; exact hN) ?_
  intro B1 c1 w1 h1 h2 h3
  rw [← u8s_append] at h1
  exact h B1 c1 w1 (HS.row_turn h2 h1 h3) (Rv.Same.of h2)
/-- append of one byte that lies in a new box. -/
theorem sapp_str {W : World} {R : HP} (hgd : o.guard = none) (s x : Operand) (t u : TypeId) (ho : o.op = .call { callee := .builtin .append, args := #[s, x], argTypes := #[t, u] })
    (ht : P.underlying t = some (.slice 5)) (hu : P.underlying u = some .string) (hinfo : (P.info? 5).map (fun i => (i.zero, i.size, i.bytes)) = some (some (.int .u8 0), 1, 1))
    (v : Value) (xs : List UInt8) (str : ByteArray) (hs : a.eval s = v) (hx : a.eval x = .string str) (HS : Sat W (bytesP v xs * R)) (N : Nat) (hN : xs.length + str.size = N) (hl : N ≤ 140737488355328)
    (h : ∀ B1 c1 w1, Sat w1 (bytesP (.slice B1 N c1) (xs ++ Rv.bytesOf str) * R) → Same W w1 → wpList P ops Q rest (a.put o.dst (.slice B1 N c1)) w1) : wpList P ops Q (o :: rest) a W := by
  subst hN
  obtain ⟨i0, hi, hz0, hz1, hz2⟩ := info_parts' hinfo
  have HO := bytesP_own HS
  refine wpList_plain hgd fun K hK => ?_
  obtain ⟨v', w', hr, h2, h3, h4⟩ := run_append_own_string_at (P := P) W t u o.type 5 i0 ht hu hi hz0 hz1 hz2 v xs.length (u8s xs) HO str (by simp only [maxLen]; omega) hl
  unfold Oper.wp execOp
  simp only [ho, resolve, invoke, builtin, Sem.run_bind, Sem.run_pure, Result.andThen_ok, List.map_toArray, List.map_cons, List.map_nil, hs, hx, hr]
  have e : u8s xs ++ Lib.strCells str = u8s (xs ++ Rv.bytesOf str) := by rw [u8s_append]; rfl
  have hlen : (xs ++ Rv.bytesOf str).length = xs.length + str.size := by rw [List.length_append]; congr 1
  have o2 : OwnB w' 0 v' (xs ++ Rv.bytesOf str) := by unfold OwnB; rw [← e, hlen]; exact h2
  obtain ⟨B1, C1, rfl, -, -, -⟩ := o2.shape
  rw [hlen] at o2 h4 ⊢
  exact hK _ _ (h B1 C1 w' (HS.row_turn (Kept.of_grown h3 fun k hk _ => hk) o2.toV h4) (Rv.Same.of (Kept.of_grown (S := fun _ => True) h3 fun _ _ _ => trivial)))
/-- A row of one's own; or one without room, that stands somewhere. -/
def AppOk (W : World) (R : HP) (v : Value) (xs : List UInt8) : Prop := Sat W (bytesP v xs * R) ∨ (Sat W R ∧ ∃ A, v = .slice (some A) xs.length xs.length ∧ RdB W (some A) xs)
theorem AppOk.shape {W : World} {R : HP} {v : Value} {xs : List UInt8} (h : AppOk W R v xs) : ∃ A c, v = .slice A xs.length c ∧ xs.length ≤ c ∧ RdB W A xs ∧ (A = none → c = 0) := by
  rcases h with h | ⟨h, A, rfl, hr⟩
  · obtain ⟨A, c, rfl, h1, h2, h3⟩ := bytesP_shape h
    exact ⟨A, c, rfl, h1, h3, (bytesP_own h).nilcap⟩
  · exact ⟨some A, _, rfl, Nat.le_refl _, hr, by simp⟩
theorem AppOk.base {W : World} {R : HP} {v : Value} {xs : List UInt8} (h : AppOk W R v xs) : Sat W R := h.elim (fun h => h.right) (fun h => h.1)
theorem AppOk.below {W W' : World} {R : HP} {v : Value} {xs : List UInt8} (h : AppOk W R v xs) (hb : Below W.heap.size W W') : AppOk W' R v xs := by
  rcases h with h | ⟨h, A, rfl, hr⟩
  · exact .inl (h.below hb)
  · exact .inr ⟨h.below hb, A, rfl, hr.below hb⟩
theorem AppOk.drew {W : World} {R : HP} {v : Value} {xs : List UInt8} (h : AppOk W R v xs) : AppOk W.drew R v xs := h.below ⟨rfl, rfl, rfl, Nat.le_refl _, fun _ _ => rfl⟩
/-- Something more beside it, that is new. -/
theorem AppOk.add {W W' : World} {P' R : HP} {v : Value} {xs : List UInt8} (h : AppOk W R v xs) (hb : Below W.heap.size W W') (f : ∀ R', Sat W R' → Sat W' (P' * R')) : AppOk W' (P' * R) v xs := by
  rcases h with h | ⟨h, A, rfl, hr⟩
  · exact .inl ((f _ h).perm (by ac_rfl))
  · exact .inr ⟨f _ h, A, rfl, hr.below hb⟩
theorem AppOk.drop {W : World} {P' R : HP} {v : Value} {xs : List UInt8} (h : AppOk W (P' * R) v xs) : AppOk W R v xs := by
  rcases h with h | ⟨h, A, rfl, hr⟩
  · exact .inl ((h.perm (show bytesP v xs * (P' * R) = P' * (bytesP v xs * R) by ac_rfl)).right)
  · exact .inr ⟨h.right, A, rfl, hr⟩

theorem sapp_ok {W : World} {R : HP} (hgd : o.guard = none) (s x : Operand) (t : TypeId) (ho : o.op = .call { callee := .builtin .append, args := #[s, x], argTypes := #[t, t] })
    (ht : P.underlying t = some (.slice 5)) (hinfo : (P.info? 5).map (fun i => (i.zero, i.size, i.bytes)) = some (some (.int .u8 0), 1, 1))
    (v : Value) (xs news : List UInt8) (A : Option Addr) (n c : Nat) (hs : a.eval s = v) (hx : a.eval x = .slice A n c) (hn : n = news.length) (hpos : 0 < news.length) (HS : AppOk W R v xs) (HR : RdB W A news)
    (N : Nat) (hN : xs.length + news.length = N) (hl : N ≤ 140737488355328)
    (h : ∀ B1 c1 w1, Sat w1 (bytesP (.slice B1 N c1) (xs ++ news) * R) → Same W w1 → wpList P ops Q rest (a.put o.dst (.slice B1 N c1)) w1) : wpList P ops Q (o :: rest) a W := by
  subst hn
  obtain ⟨u, hu⟩ := some_at hpos
  obtain ⟨ad, rfl, _⟩ := HR 0 u hu
  rcases HS with HS | ⟨HS, B, rfl, hr⟩
  · exact sapp hgd s x t ho ht hinfo v xs news (some ad) news.length c hs hx rfl HS HR (by simp) N hN hl h
  · subst hN
    obtain ⟨i0, hi, hz0, hz1, hz2⟩ := info_parts' hinfo
    refine wpList_plain hgd fun K hK => ?_
    have hr2 := run_append_grow (P := P) W t o.type 5 i0 (.int .u8 0) ht hi hz0 B xs.length xs.length (u8s xs) (by rw [hz1, u8s_length]; omega) (fun j u hu => by obtain ⟨ad', e', hc⟩ := hr.toV j u hu; cases e'; exact hc)
      ad news.length c (u8s news) (by rw [hz1, u8s_length]; omega) (fun j u hu => by obtain ⟨ad', e', hc⟩ := HR.toV j u hu; cases e'; exact hc) (by omega) (by omega) (by rw [hz2]; exact growslice_fits (by omega) (by omega))
    unfold Oper.wp execOp
    simp only [ho, resolve, invoke, builtin, Sem.run_bind, Sem.run_pure, Result.andThen_ok, List.map_toArray, List.map_cons, List.map_nil, hs, hx, hr2]
    refine hK _ _ (h _ _ _ ?_ ⟨rfl, rfl, rfl, by simp, fun _ _ h => absurd trivial h⟩)
    have hge := grownCap_ge W (xs.length + news.length) xs.length 5
    have hcm := grownCap_le_maxLen W (xs.length + news.length) xs.length 5 (by simp only [maxLen]; omega)
    refine HS.row_new (((Below.refl _ W).drew).alloc (Nat.le_refl _) _) ?_ (fun k hk => Nat.le_of_eq (by simpa [Value.ownBlock] using hk))
    have hlen : (u8s (xs ++ news)).length = xs.length + news.length := by rw [u8s_length, List.length_append]
    refine ⟨by simp, .inr ⟨W.heap.size, _, _, by rw [hlen], Nat.zero_le _, heap_alloc_new W.drew _, by rw [hlen]; exact hge, hcm, ?_, ?_⟩⟩
    · have hz1 : (Value.int IntKind.u8 0).cells.size = 1 := rfl
      simp only [Array.size_append, List.size_toArray, size_zeroCells, hz1, u8s_length]
      omega
    · simp only [Array.toList_append, List.append_assoc]
      rw [← List.append_assoc, ← u8s_append, Nat.mul_one]
      exact List.take_left
end
end Go.Proofs.YtcmndglhileeoaaGreat
