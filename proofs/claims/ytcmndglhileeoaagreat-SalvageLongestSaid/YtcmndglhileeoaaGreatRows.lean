/-
  No cell of these rows narrows 'for every input' (looked for: loops, veiled, ifaces, maps, wideKeys, modest, calm, conditions, laid).
  DERIVED. THE GIVEN ROWS OF THIS SEAT. 4 by the template 'for every input the law returns true; each argument reads behind the call as it read before'; 0 by the template 'total and deterministic' (their statements: YtcmndglhileeoaaGreatTotals.lean).
  GIVEN WITH THE SEED: the statements are not yours to turn. If you find one false, say at which input.
  Laid BY PROGRAM, IN A SANDBOX (cutbox-rows.mjs): the forced cells as the released guide's own fill.sh prints them over the translation 116a1f80da56b135… (all of the seat's roots in one cut). By AI agents, Wed Nov 11 2026. No macro, syntax, notation, axiom, sorry.
-/
import Derived.Test.YtcmndglhileeoaaGreatChecked
import GoSem.Claim
import GoSem.ClaimJoined
import GoSem.ClaimMapViews
import Derived.JoinedTies
import Derived.KernelRfl
namespace Go.Proofs.YtcmndglhileeoaaGreat
/- THE CELL 'sum', in the pinned program and in every row, IS THE sha256 OF THE DUMP (.gsa) THAT YtcmndglhileeoaaGreatProg.lean LOADS. Nothing in Lean hashes anything: it is a label: what it is worth is what the hold of that sum in a sandbox is worth. -/
noncomputable def Tryz.pinned : Pinned := { name := "ytcmndglhileeoaagreat", sum := "116a1f80da56b135e1064c7acc877900237b8382593eb3a48950edf5a48d7583", checked := Tryz.checked }
namespace Rows
def none {H : Type} : Left H := { results := [], args := [] }

/-- 'reevelaw14.SalvageScans': WHATEVER THE INPUT: true; the input reads as it did. -/
def salvageScansSpec : ChangeSpec := { name := "salvageScans", fn := fun _ => fun
  | [d] => { results := [.lit (.bool true)], args := [d] }
  | _ => none }
def salvageScansRow : OpenClaim := { program := "ytcmndglhileeoaagreat", sum := "116a1f80da56b135e1064c7acc877900237b8382593eb3a48950edf5a48d7583", func := "reeve/reevelaw14.SalvageScans", spec := "salvageScans", inPlace := ["maps.clone"], unfollowed := true, recurses := true, apart := false }
def SalvageScansSaid : Prop := salvageScansRow.holds Tryz.pinned (OpenSpec.ofChange salvageScansSpec)

/-- ITS FALSE NEIGHBOUR: 'it returns false'. Refute it at one input. -/
def salvageScansWrong : ChangeSpec := { name := "salvageScans", fn := fun _ => fun
  | [d] => { results := [.lit (.bool false)], args := [d] }
  | _ => none }
def SalvageScansWrongFalsely : Prop := salvageScansRow.holds Tryz.pinned (OpenSpec.ofChange salvageScansWrong)

/-- 'reevelaw14.SalvageTorn': WHATEVER THE INPUT: true; the input reads as it did. -/
def salvageTornSpec : ChangeSpec := { name := "salvageTorn", fn := fun _ => fun
  | [d1, d2, d3] => { results := [.lit (.bool true)], args := [d1, d2, d3] }
  | _ => none }
def salvageTornRow : OpenClaim := { program := "ytcmndglhileeoaagreat", sum := "116a1f80da56b135e1064c7acc877900237b8382593eb3a48950edf5a48d7583", func := "reeve/reevelaw14.SalvageTorn", spec := "salvageTorn", inPlace := ["maps.clone"], unfollowed := true, recurses := true, apart := false }
def SalvageTornSaid : Prop := salvageTornRow.holds Tryz.pinned (OpenSpec.ofChange salvageTornSpec)

/-- ITS FALSE NEIGHBOUR: 'it returns false'. Refute it at one input. -/
def salvageTornWrong : ChangeSpec := { name := "salvageTorn", fn := fun _ => fun
  | [d1, d2, d3] => { results := [.lit (.bool false)], args := [d1, d2, d3] }
  | _ => none }
def SalvageTornWrongFalsely : Prop := salvageTornRow.holds Tryz.pinned (OpenSpec.ofChange salvageTornWrong)

/-- 'reevelaw14.SalvageMore': WHATEVER THE INPUT: true; the input reads as it did. -/
def salvageMoreSpec : ChangeSpec := { name := "salvageMore", fn := fun _ => fun
  | [d1, d2, d3] => { results := [.lit (.bool true)], args := [d1, d2, d3] }
  | _ => none }
def salvageMoreRow : OpenClaim := { program := "ytcmndglhileeoaagreat", sum := "116a1f80da56b135e1064c7acc877900237b8382593eb3a48950edf5a48d7583", func := "reeve/reevelaw14.SalvageMore", spec := "salvageMore", inPlace := ["maps.clone"], unfollowed := true, recurses := true, apart := false }
def SalvageMoreSaid : Prop := salvageMoreRow.holds Tryz.pinned (OpenSpec.ofChange salvageMoreSpec)

/-- ITS FALSE NEIGHBOUR: 'it returns false'. Refute it at one input. -/
def salvageMoreWrong : ChangeSpec := { name := "salvageMore", fn := fun _ => fun
  | [d1, d2, d3] => { results := [.lit (.bool false)], args := [d1, d2, d3] }
  | _ => none }
def SalvageMoreWrongFalsely : Prop := salvageMoreRow.holds Tryz.pinned (OpenSpec.ofChange salvageMoreWrong)

/-- 'reevelaw14.SalvageLongest': WHATEVER THE INPUT: true; the input reads as it did. -/
def salvageLongestSpec : ChangeSpec := { name := "salvageLongest", fn := fun _ => fun
  | [d] => { results := [.lit (.bool true)], args := [d] }
  | _ => none }
def salvageLongestRow : OpenClaim := { program := "ytcmndglhileeoaagreat", sum := "116a1f80da56b135e1064c7acc877900237b8382593eb3a48950edf5a48d7583", func := "reeve/reevelaw14.SalvageLongest", spec := "salvageLongest", inPlace := ["maps.clone"], unfollowed := true, recurses := true, apart := false }
def SalvageLongestSaid : Prop := salvageLongestRow.holds Tryz.pinned (OpenSpec.ofChange salvageLongestSpec)

/-- ITS FALSE NEIGHBOUR: 'it returns false'. Refute it at one input. -/
def salvageLongestWrong : ChangeSpec := { name := "salvageLongest", fn := fun _ => fun
  | [d] => { results := [.lit (.bool false)], args := [d] }
  | _ => none }
def SalvageLongestWrongFalsely : Prop := salvageLongestRow.holds Tryz.pinned (OpenSpec.ofChange salvageLongestWrong)

/- THE SECOND FORM. 'bulk': how many values and letters a reading holds, each counted each time it is reached (what is shared counts as often as it is met; a slice's spare places count too). A statement '..UptoSaid' is the law's where the arguments, and the package variables that the reading takes, are together of bulk at most 1048576: NARROWER than '..Said'. Prove '..Said' where nothing that the law and all that it calls make is longer than what came in: it says more and counts as full. Else prove '..UptoSaid'. A law counts once. -/
mutual
def uptoBulk {H : Type} : DataW H → Nat
  | .lit (.string bytes) => bytes.length + 1
  | .lit _ => 1
  | .nil => 1
  | .ptr d => uptoBulk d + 1
  | .slice elems spare => uptoBulkAll elems + uptoBulkAll spare + 1
  | .agg parts => uptoBulkAll parts + 1
  | .iface _ d => uptoBulk d + 1
  | .map entries => uptoBulkEntries entries + 1
  | .held _ => 1
def uptoBulkAll {H : Type} : List (DataW H) → Nat
  | [] => 0
  | d :: r => uptoBulk d + uptoBulkAll r
def uptoBulkEntries {H : Type} : List (Lit × DataW H) → Nat
  | [] => 0
  | x :: r => uptoBulkEntry x + uptoBulkEntries r
def uptoBulkEntry {H : Type} : Lit × DataW H → Nat
  | (.string bytes, d) => bytes.length + uptoBulk d + 1
  | (_, d) => uptoBulk d + 1
 end
def uptoSmall : (H : Type) → List (DataW H) → Bool := fun _ ds => decide (uptoBulkAll ds ≤ 1048576)
def OpenSpec.upto (s : _root_.Go.ChangeSpec) : _root_.Go.OpenSpec := { _root_.Go.OpenSpec.ofChange s with cond := some uptoSmall }

/-- 'reevelaw14.SalvageScans', WHERE WHAT IT READS IS OF BULK AT MOST 1048576: true; the input reads as it did. -/
def salvageScansUptoRow : OpenClaim := { program := "ytcmndglhileeoaagreat", sum := "116a1f80da56b135e1064c7acc877900237b8382593eb3a48950edf5a48d7583", func := "reeve/reevelaw14.SalvageScans", spec := "salvageScans", inPlace := ["maps.clone"], unfollowed := true, recurses := true, apart := false, narrowed := true }
def SalvageScansUptoSaid : Prop := salvageScansUptoRow.holds Tryz.pinned (OpenSpec.upto salvageScansSpec)

/-- 'reevelaw14.SalvageTorn', WHERE WHAT IT READS IS OF BULK AT MOST 1048576: true; the input reads as it did. -/
def salvageTornUptoRow : OpenClaim := { program := "ytcmndglhileeoaagreat", sum := "116a1f80da56b135e1064c7acc877900237b8382593eb3a48950edf5a48d7583", func := "reeve/reevelaw14.SalvageTorn", spec := "salvageTorn", inPlace := ["maps.clone"], unfollowed := true, recurses := true, apart := false, narrowed := true }
def SalvageTornUptoSaid : Prop := salvageTornUptoRow.holds Tryz.pinned (OpenSpec.upto salvageTornSpec)

/-- 'reevelaw14.SalvageMore', WHERE WHAT IT READS IS OF BULK AT MOST 1048576: true; the input reads as it did. -/
def salvageMoreUptoRow : OpenClaim := { program := "ytcmndglhileeoaagreat", sum := "116a1f80da56b135e1064c7acc877900237b8382593eb3a48950edf5a48d7583", func := "reeve/reevelaw14.SalvageMore", spec := "salvageMore", inPlace := ["maps.clone"], unfollowed := true, recurses := true, apart := false, narrowed := true }
def SalvageMoreUptoSaid : Prop := salvageMoreUptoRow.holds Tryz.pinned (OpenSpec.upto salvageMoreSpec)

/-- 'reevelaw14.SalvageLongest', WHERE WHAT IT READS IS OF BULK AT MOST 1048576: true; the input reads as it did. -/
def salvageLongestUptoRow : OpenClaim := { program := "ytcmndglhileeoaagreat", sum := "116a1f80da56b135e1064c7acc877900237b8382593eb3a48950edf5a48d7583", func := "reeve/reevelaw14.SalvageLongest", spec := "salvageLongest", inPlace := ["maps.clone"], unfollowed := true, recurses := true, apart := false, narrowed := true }
def SalvageLongestUptoSaid : Prop := salvageLongestUptoRow.holds Tryz.pinned (OpenSpec.upto salvageLongestSpec)

end Rows
end Go.Proofs.YtcmndglhileeoaaGreat
