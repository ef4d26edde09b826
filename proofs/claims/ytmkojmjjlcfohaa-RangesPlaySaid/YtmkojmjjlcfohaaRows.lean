/-
  No cell of these rows narrows 'for every input' (looked for: loops, veiled, ifaces, maps, wideKeys, modest, calm, conditions, laid).
  DERIVED. THE GIVEN ROWS OF THIS SEAT. 9 by the template 'for every input the law returns true; each argument reads behind the call as it read before'; 0 by the template 'total and deterministic' (their statements: YtmkojmjjlcfohaaTotals.lean).
  GIVEN WITH THE SEED: the statements are not yours to turn. If you find one false, say at which input.
  Laid BY PROGRAM, IN A SANDBOX (cutbox-rows.mjs): the forced cells as the released guide's own fill.sh prints them over the translation a9f54196086cd754… (all of the seat's roots in one cut). By AI agents, Wed Nov 11 2026. No macro, syntax, notation, axiom, sorry.
-/
import Derived.Test.YtmkojmjjlcfohaaChecked
import GoSem.Claim
import GoSem.ClaimJoined
import GoSem.ClaimMapViews
import Derived.JoinedTies
import Derived.KernelRfl
namespace Go.Proofs.Ytmkojmjjlcfohaa
/- THE CELL 'sum', in the pinned program and in every row, IS THE sha256 OF THE DUMP (.gsa) THAT YtmkojmjjlcfohaaProg.lean LOADS. Nothing in Lean hashes anything: it is a label: what it is worth is what the hold of that sum in a sandbox is worth. -/
noncomputable def Try.pinned : Pinned := { name := "ytmkojmjjlcfohaa", sum := "a9f54196086cd7543d762b4dbd6a9e3d04b6edca62059c55b15d1862fba84f64", checked := Try.checked }
namespace Rows
def none {H : Type} : Left H := { results := [], args := [] }

/-- 'caravellaw17.PacerEnough': WHATEVER THE INPUT: true; the input reads as it did. -/
def pacerEnoughSpec : ChangeSpec := { name := "pacerEnough", fn := fun _ => fun
  | [d1, d2] => { results := [.lit (.bool true)], args := [d1, d2] }
  | _ => none }
def pacerEnoughRow : OpenClaim := { program := "ytmkojmjjlcfohaa", sum := "a9f54196086cd7543d762b4dbd6a9e3d04b6edca62059c55b15d1862fba84f64", func := "caravel/caravellaw17.PacerEnough", spec := "pacerEnough", inPlace := ["math/bits.Add64"], unfollowed := true, recurses := true, named := ["math/bits.divideError", "math/bits.overflowError"], apart := false }
def PacerEnoughSaid : Prop := pacerEnoughRow.holds Try.pinned (OpenSpec.ofChange pacerEnoughSpec)

/-- ITS FALSE NEIGHBOUR: 'it returns false'. Refute it at one input. -/
def pacerEnoughWrong : ChangeSpec := { name := "pacerEnough", fn := fun _ => fun
  | [d1, d2] => { results := [.lit (.bool false)], args := [d1, d2] }
  | _ => none }
def PacerEnoughWrongFalsely : Prop := pacerEnoughRow.holds Try.pinned (OpenSpec.ofChange pacerEnoughWrong)

/-- 'caravellaw05.RangesOrder': WHATEVER THE INPUT: true; the input reads as it did. -/
def rangesOrderSpec : ChangeSpec := { name := "rangesOrder", fn := fun _ => fun
  | [d1, d2] => { results := [.lit (.bool true)], args := [d1, d2] }
  | _ => none }
def rangesOrderRow : OpenClaim := { program := "ytmkojmjjlcfohaa", sum := "a9f54196086cd7543d762b4dbd6a9e3d04b6edca62059c55b15d1862fba84f64", func := "caravel/caravellaw05.RangesOrder", spec := "rangesOrder", inPlace := ["slices.overlaps[caravel/api.Span]"], unfollowed := true, recurses := true, apart := false }
def RangesOrderSaid : Prop := rangesOrderRow.holds Try.pinned (OpenSpec.ofChange rangesOrderSpec)

/-- ITS FALSE NEIGHBOUR: 'it returns false'. Refute it at one input. -/
def rangesOrderWrong : ChangeSpec := { name := "rangesOrder", fn := fun _ => fun
  | [d1, d2] => { results := [.lit (.bool false)], args := [d1, d2] }
  | _ => none }
def RangesOrderWrongFalsely : Prop := rangesOrderRow.holds Try.pinned (OpenSpec.ofChange rangesOrderWrong)

/-- 'caravellaw05.RangesClone': WHATEVER THE INPUT: true; the input reads as it did. -/
def rangesCloneSpec : ChangeSpec := { name := "rangesClone", fn := fun _ => fun
  | [d1, d2] => { results := [.lit (.bool true)], args := [d1, d2] }
  | _ => none }
def rangesCloneRow : OpenClaim := { program := "ytmkojmjjlcfohaa", sum := "a9f54196086cd7543d762b4dbd6a9e3d04b6edca62059c55b15d1862fba84f64", func := "caravel/caravellaw05.RangesClone", spec := "rangesClone", inPlace := ["slices.overlaps[caravel/api.Span]"], unfollowed := true, recurses := true, apart := false }
def RangesCloneSaid : Prop := rangesCloneRow.holds Try.pinned (OpenSpec.ofChange rangesCloneSpec)

/-- ITS FALSE NEIGHBOUR: 'it returns false'. Refute it at one input. -/
def rangesCloneWrong : ChangeSpec := { name := "rangesClone", fn := fun _ => fun
  | [d1, d2] => { results := [.lit (.bool false)], args := [d1, d2] }
  | _ => none }
def RangesCloneWrongFalsely : Prop := rangesCloneRow.holds Try.pinned (OpenSpec.ofChange rangesCloneWrong)

/-- 'caravellaw08.SeenSoon': WHATEVER THE INPUT: true; the input reads as it did. -/
def seenSoonSpec : ChangeSpec := { name := "seenSoon", fn := fun _ => fun
  | [d1, d2, d3] => { results := [.lit (.bool true)], args := [d1, d2, d3] }
  | _ => none }
def seenSoonRow : OpenClaim := { program := "ytmkojmjjlcfohaa", sum := "a9f54196086cd7543d762b4dbd6a9e3d04b6edca62059c55b15d1862fba84f64", func := "caravel/caravellaw08.SeenSoon", spec := "seenSoon", inPlace := ["slices.overlaps[caravel/api.Span]"], unfollowed := true, recurses := true, apart := false }
def SeenSoonSaid : Prop := seenSoonRow.holds Try.pinned (OpenSpec.ofChange seenSoonSpec)

/-- ITS FALSE NEIGHBOUR: 'it returns false'. Refute it at one input. -/
def seenSoonWrong : ChangeSpec := { name := "seenSoon", fn := fun _ => fun
  | [d1, d2, d3] => { results := [.lit (.bool false)], args := [d1, d2, d3] }
  | _ => none }
def SeenSoonWrongFalsely : Prop := seenSoonRow.holds Try.pinned (OpenSpec.ofChange seenSoonWrong)

/-- 'caravellaw05.RangesNobody': WHATEVER THE INPUT: true; the input reads as it did. -/
def rangesNobodySpec : ChangeSpec := { name := "rangesNobody", fn := fun _ => fun
  | [d] => { results := [.lit (.bool true)], args := [d] }
  | _ => none }
def rangesNobodyRow : OpenClaim := { program := "ytmkojmjjlcfohaa", sum := "a9f54196086cd7543d762b4dbd6a9e3d04b6edca62059c55b15d1862fba84f64", func := "caravel/caravellaw05.RangesNobody", spec := "rangesNobody", inPlace := ["slices.overlaps[caravel/api.Span]"], unfollowed := true, recurses := true, apart := false }
def RangesNobodySaid : Prop := rangesNobodyRow.holds Try.pinned (OpenSpec.ofChange rangesNobodySpec)

/-- ITS FALSE NEIGHBOUR: 'it returns false'. Refute it at one input. -/
def rangesNobodyWrong : ChangeSpec := { name := "rangesNobody", fn := fun _ => fun
  | [d] => { results := [.lit (.bool false)], args := [d] }
  | _ => none }
def RangesNobodyWrongFalsely : Prop := rangesNobodyRow.holds Try.pinned (OpenSpec.ofChange rangesNobodyWrong)

/-- 'caravellaw05.RangesPlay': WHATEVER THE INPUT: true; the input reads as it did. -/
def rangesPlaySpec : ChangeSpec := { name := "rangesPlay", fn := fun _ => fun
  | [d] => { results := [.lit (.bool true)], args := [d] }
  | _ => none }
def rangesPlayRow : OpenClaim := { program := "ytmkojmjjlcfohaa", sum := "a9f54196086cd7543d762b4dbd6a9e3d04b6edca62059c55b15d1862fba84f64", func := "caravel/caravellaw05.RangesPlay", spec := "rangesPlay", inPlace := ["slices.overlaps[caravel/api.Span]"], unfollowed := true, recurses := true, apart := false }
def RangesPlaySaid : Prop := rangesPlayRow.holds Try.pinned (OpenSpec.ofChange rangesPlaySpec)

/-- ITS FALSE NEIGHBOUR: 'it returns false'. Refute it at one input. -/
def rangesPlayWrong : ChangeSpec := { name := "rangesPlay", fn := fun _ => fun
  | [d] => { results := [.lit (.bool false)], args := [d] }
  | _ => none }
def RangesPlayWrongFalsely : Prop := rangesPlayRow.holds Try.pinned (OpenSpec.ofChange rangesPlayWrong)

/-- 'caravellaw05.RangesUndo': WHATEVER THE INPUT: true; the input reads as it did. -/
def rangesUndoSpec : ChangeSpec := { name := "rangesUndo", fn := fun _ => fun
  | [d1, d2] => { results := [.lit (.bool true)], args := [d1, d2] }
  | _ => none }
def rangesUndoRow : OpenClaim := { program := "ytmkojmjjlcfohaa", sum := "a9f54196086cd7543d762b4dbd6a9e3d04b6edca62059c55b15d1862fba84f64", func := "caravel/caravellaw05.RangesUndo", spec := "rangesUndo", inPlace := ["slices.overlaps[caravel/api.Span]"], unfollowed := true, recurses := true, apart := false }
def RangesUndoSaid : Prop := rangesUndoRow.holds Try.pinned (OpenSpec.ofChange rangesUndoSpec)

/-- ITS FALSE NEIGHBOUR: 'it returns false'. Refute it at one input. -/
def rangesUndoWrong : ChangeSpec := { name := "rangesUndo", fn := fun _ => fun
  | [d1, d2] => { results := [.lit (.bool false)], args := [d1, d2] }
  | _ => none }
def RangesUndoWrongFalsely : Prop := rangesUndoRow.holds Try.pinned (OpenSpec.ofChange rangesUndoWrong)

/-- 'caravellaw08.SeenOnce': WHATEVER THE INPUT: true; the input reads as it did. -/
def seenOnceSpec : ChangeSpec := { name := "seenOnce", fn := fun _ => fun
  | [d1, d2] => { results := [.lit (.bool true)], args := [d1, d2] }
  | _ => none }
def seenOnceRow : OpenClaim := { program := "ytmkojmjjlcfohaa", sum := "a9f54196086cd7543d762b4dbd6a9e3d04b6edca62059c55b15d1862fba84f64", func := "caravel/caravellaw08.SeenOnce", spec := "seenOnce", inPlace := ["slices.overlaps[caravel/api.Span]"], unfollowed := true, recurses := true, apart := false }
def SeenOnceSaid : Prop := seenOnceRow.holds Try.pinned (OpenSpec.ofChange seenOnceSpec)

/-- ITS FALSE NEIGHBOUR: 'it returns false'. Refute it at one input. -/
def seenOnceWrong : ChangeSpec := { name := "seenOnce", fn := fun _ => fun
  | [d1, d2] => { results := [.lit (.bool false)], args := [d1, d2] }
  | _ => none }
def SeenOnceWrongFalsely : Prop := seenOnceRow.holds Try.pinned (OpenSpec.ofChange seenOnceWrong)

/-- 'caravellaw08.SeenNobody': WHATEVER THE INPUT: true; the input reads as it did. -/
def seenNobodySpec : ChangeSpec := { name := "seenNobody", fn := fun _ => fun
  | [d] => { results := [.lit (.bool true)], args := [d] }
  | _ => none }
def seenNobodyRow : OpenClaim := { program := "ytmkojmjjlcfohaa", sum := "a9f54196086cd7543d762b4dbd6a9e3d04b6edca62059c55b15d1862fba84f64", func := "caravel/caravellaw08.SeenNobody", spec := "seenNobody", inPlace := ["slices.overlaps[caravel/api.Span]"], unfollowed := true, recurses := true, apart := false }
def SeenNobodySaid : Prop := seenNobodyRow.holds Try.pinned (OpenSpec.ofChange seenNobodySpec)

/-- ITS FALSE NEIGHBOUR: 'it returns false'. Refute it at one input. -/
def seenNobodyWrong : ChangeSpec := { name := "seenNobody", fn := fun _ => fun
  | [d] => { results := [.lit (.bool false)], args := [d] }
  | _ => none }
def SeenNobodyWrongFalsely : Prop := seenNobodyRow.holds Try.pinned (OpenSpec.ofChange seenNobodyWrong)

/- THE SECOND FORM. 'bulk': how many values and letters a reading holds, each counted each time it is reached (what is shared counts as often as it is met; a slice's spare places count too). A statement '..UptoSaid' is the law's where the arguments, and the package variables that the reading takes, are together of bulk at most 1048576: NARROWER than '..Said'. Prove '..Said' where nothing that the law and all that it calls make is longer than what came in: it says more and counts as full. Else prove '..UptoSaid'. A law counts once. -/
mutual
def uptoBulk {H : Type} : DataW H → Nat
  | .lit (.string bytes) => bytes.length + 1
  | .lit _ => 1
  | .nil => 1
  | .ptr d => uptoBulk d + 1
  | .slice elems spare => uptoBulkAll elems + uptoBulkAll spare + 1
  | .agg parts => uptoBulkAll parts + 1
  | .iface _ d => uptoBulk d + 1
  | .map entries => uptoBulkEntries entries + 1
  | .held _ => 1
def uptoBulkAll {H : Type} : List (DataW H) → Nat
  | [] => 0
  | d :: r => uptoBulk d + uptoBulkAll r
def uptoBulkEntries {H : Type} : List (Lit × DataW H) → Nat
  | [] => 0
  | x :: r => uptoBulkEntry x + uptoBulkEntries r
def uptoBulkEntry {H : Type} : Lit × DataW H → Nat
  | (.string bytes, d) => bytes.length + uptoBulk d + 1
  | (_, d) => uptoBulk d + 1
 end
def uptoSmall : (H : Type) → List (DataW H) → Bool := fun _ ds => decide (uptoBulkAll ds ≤ 1048576)
def OpenSpec.upto (s : _root_.Go.ChangeSpec) : _root_.Go.OpenSpec := { _root_.Go.OpenSpec.ofChange s with cond := some uptoSmall }

/-- 'caravellaw17.PacerEnough', WHERE WHAT IT READS IS OF BULK AT MOST 1048576: true; the input reads as it did. -/
def pacerEnoughUptoRow : OpenClaim := { program := "ytmkojmjjlcfohaa", sum := "a9f54196086cd7543d762b4dbd6a9e3d04b6edca62059c55b15d1862fba84f64", func := "caravel/caravellaw17.PacerEnough", spec := "pacerEnough", inPlace := ["math/bits.Add64"], unfollowed := true, recurses := true, named := ["math/bits.divideError", "math/bits.overflowError"], apart := false, narrowed := true }
def PacerEnoughUptoSaid : Prop := pacerEnoughUptoRow.holds Try.pinned (OpenSpec.upto pacerEnoughSpec)

/-- 'caravellaw05.RangesOrder', WHERE WHAT IT READS IS OF BULK AT MOST 1048576: true; the input reads as it did. -/
def rangesOrderUptoRow : OpenClaim := { program := "ytmkojmjjlcfohaa", sum := "a9f54196086cd7543d762b4dbd6a9e3d04b6edca62059c55b15d1862fba84f64", func := "caravel/caravellaw05.RangesOrder", spec := "rangesOrder", inPlace := ["slices.overlaps[caravel/api.Span]"], unfollowed := true, recurses := true, apart := false, narrowed := true }
def RangesOrderUptoSaid : Prop := rangesOrderUptoRow.holds Try.pinned (OpenSpec.upto rangesOrderSpec)

/-- 'caravellaw05.RangesClone', WHERE WHAT IT READS IS OF BULK AT MOST 1048576: true; the input reads as it did. -/
def rangesCloneUptoRow : OpenClaim := { program := "ytmkojmjjlcfohaa", sum := "a9f54196086cd7543d762b4dbd6a9e3d04b6edca62059c55b15d1862fba84f64", func := "caravel/caravellaw05.RangesClone", spec := "rangesClone", inPlace := ["slices.overlaps[caravel/api.Span]"], unfollowed := true, recurses := true, apart := false, narrowed := true }
def RangesCloneUptoSaid : Prop := rangesCloneUptoRow.holds Try.pinned (OpenSpec.upto rangesCloneSpec)

/-- 'caravellaw08.SeenSoon', WHERE WHAT IT READS IS OF BULK AT MOST 1048576: true; the input reads as it did. -/
def seenSoonUptoRow : OpenClaim := { program := "ytmkojmjjlcfohaa", sum := "a9f54196086cd7543d762b4dbd6a9e3d04b6edca62059c55b15d1862fba84f64", func := "caravel/caravellaw08.SeenSoon", spec := "seenSoon", inPlace := ["slices.overlaps[caravel/api.Span]"], unfollowed := true, recurses := true, apart := false, narrowed := true }
def SeenSoonUptoSaid : Prop := seenSoonUptoRow.holds Try.pinned (OpenSpec.upto seenSoonSpec)

/-- 'caravellaw05.RangesNobody', WHERE WHAT IT READS IS OF BULK AT MOST 1048576: true; the input reads as it did. -/
def rangesNobodyUptoRow : OpenClaim := { program := "ytmkojmjjlcfohaa", sum := "a9f54196086cd7543d762b4dbd6a9e3d04b6edca62059c55b15d1862fba84f64", func := "caravel/caravellaw05.RangesNobody", spec := "rangesNobody", inPlace := ["slices.overlaps[caravel/api.Span]"], unfollowed := true, recurses := true, apart := false, narrowed := true }
def RangesNobodyUptoSaid : Prop := rangesNobodyUptoRow.holds Try.pinned (OpenSpec.upto rangesNobodySpec)

/-- 'caravellaw05.RangesPlay', WHERE WHAT IT READS IS OF BULK AT MOST 1048576: true; the input reads as it did. -/
def rangesPlayUptoRow : OpenClaim := { program := "ytmkojmjjlcfohaa", sum := "a9f54196086cd7543d762b4dbd6a9e3d04b6edca62059c55b15d1862fba84f64", func := "caravel/caravellaw05.RangesPlay", spec := "rangesPlay", inPlace := ["slices.overlaps[caravel/api.Span]"], unfollowed := true, recurses := true, apart := false, narrowed := true }
def RangesPlayUptoSaid : Prop := rangesPlayUptoRow.holds Try.pinned (OpenSpec.upto rangesPlaySpec)

/-- 'caravellaw05.RangesUndo', WHERE WHAT IT READS IS OF BULK AT MOST 1048576: true; the input reads as it did. -/
def rangesUndoUptoRow : OpenClaim := { program := "ytmkojmjjlcfohaa", sum := "a9f54196086cd7543d762b4dbd6a9e3d04b6edca62059c55b15d1862fba84f64", func := "caravel/caravellaw05.RangesUndo", spec := "rangesUndo", inPlace := ["slices.overlaps[caravel/api.Span]"], unfollowed := true, recurses := true, apart := false, narrowed := true }
def RangesUndoUptoSaid : Prop := rangesUndoUptoRow.holds Try.pinned (OpenSpec.upto rangesUndoSpec)

/-- 'caravellaw08.SeenOnce', WHERE WHAT IT READS IS OF BULK AT MOST 1048576: true; the input reads as it did. -/
def seenOnceUptoRow : OpenClaim := { program := "ytmkojmjjlcfohaa", sum := "a9f54196086cd7543d762b4dbd6a9e3d04b6edca62059c55b15d1862fba84f64", func := "caravel/caravellaw08.SeenOnce", spec := "seenOnce", inPlace := ["slices.overlaps[caravel/api.Span]"], unfollowed := true, recurses := true, apart := false, narrowed := true }
def SeenOnceUptoSaid : Prop := seenOnceUptoRow.holds Try.pinned (OpenSpec.upto seenOnceSpec)

/-- 'caravellaw08.SeenNobody', WHERE WHAT IT READS IS OF BULK AT MOST 1048576: true; the input reads as it did. -/
def seenNobodyUptoRow : OpenClaim := { program := "ytmkojmjjlcfohaa", sum := "a9f54196086cd7543d762b4dbd6a9e3d04b6edca62059c55b15d1862fba84f64", func := "caravel/caravellaw08.SeenNobody", spec := "seenNobody", inPlace := ["slices.overlaps[caravel/api.Span]"], unfollowed := true, recurses := true, apart := false, narrowed := true }
def SeenNobodyUptoSaid : Prop := seenNobodyUptoRow.holds Try.pinned (OpenSpec.upto seenNobodySpec)

end Rows
end Go.Proofs.Ytmkojmjjlcfohaa
