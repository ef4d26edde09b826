/-
  No cell of these rows narrows 'for every input' (looked for: loops, veiled, ifaces, maps, wideKeys, modest, calm, conditions, laid).
  DERIVED. THE GIVEN ROWS OF THIS SEAT. 5 by the template 'for every input the law returns true; each argument reads behind the call as it read before'; 0 by the template 'total and deterministic' (their statements: YtiadfikhfimcoaaTotals.lean).
  GIVEN WITH THE SEED: the statements are not yours to turn. If you find one false, say at which input.
  Laid BY PROGRAM, IN A SANDBOX (cutbox-rows.mjs): the forced cells as the released guide's own fill.sh prints them over the translation 82d8f20153e4d10e… (all of the seat's roots in one cut). By AI agents, Wed Nov 11 2026. No macro, syntax, notation, axiom, sorry.
-/
import Derived.Test.YtiadfikhfimcoaaChecked
import GoSem.Claim
import GoSem.ClaimJoined
import GoSem.ClaimMapViews
import Derived.JoinedTies
import Derived.KernelRfl
namespace Go.Proofs.Ytiadfikhfimcoaa
/- THE CELL 'sum', in the pinned program and in every row, IS THE sha256 OF THE DUMP (.gsa) THAT YtiadfikhfimcoaaProg.lean LOADS. Nothing in Lean hashes anything: it is a label: what it is worth is what the hold of that sum in a sandbox is worth. -/
noncomputable def Try.pinned : Pinned := { name := "ytiadfikhfimcoaa", sum := "82d8f20153e4d10e95aab9712c0a5e2b92bb62d131c822a8eb7ad8f29d36f68e", checked := Try.checked }
namespace Rows
def none {H : Type} : Left H := { results := [], args := [] }

/-- 'caravellaw15.LedgerThree': WHATEVER THE INPUT: true; the input reads as it did. -/
def ledgerThreeSpec : ChangeSpec := { name := "ledgerThree", fn := fun _ => fun
  | [d1, d2] => { results := [.lit (.bool true)], args := [d1, d2] }
  | _ => none }
def ledgerThreeRow : OpenClaim := { program := "ytiadfikhfimcoaa", sum := "82d8f20153e4d10e95aab9712c0a5e2b92bb62d131c822a8eb7ad8f29d36f68e", func := "caravel/caravellaw15.LedgerThree", spec := "ledgerThree", inPlace := ["slices.overlaps[int]"], unfollowed := true, recurses := true, apart := false }
def LedgerThreeSaid : Prop := ledgerThreeRow.holds Try.pinned (OpenSpec.ofChange ledgerThreeSpec)

/-- ITS FALSE NEIGHBOUR: 'it returns false'. Refute it at one input. -/
def ledgerThreeWrong : ChangeSpec := { name := "ledgerThree", fn := fun _ => fun
  | [d1, d2] => { results := [.lit (.bool false)], args := [d1, d2] }
  | _ => none }
def LedgerThreeWrongFalsely : Prop := ledgerThreeRow.holds Try.pinned (OpenSpec.ofChange ledgerThreeWrong)

/-- 'caravellaw15.LedgerOnce': WHATEVER THE INPUT: true; the input reads as it did. -/
def ledgerOnceSpec : ChangeSpec := { name := "ledgerOnce", fn := fun _ => fun
  | [d] => { results := [.lit (.bool true)], args := [d] }
  | _ => none }
def ledgerOnceRow : OpenClaim := { program := "ytiadfikhfimcoaa", sum := "82d8f20153e4d10e95aab9712c0a5e2b92bb62d131c822a8eb7ad8f29d36f68e", func := "caravel/caravellaw15.LedgerOnce", spec := "ledgerOnce", inPlace := ["slices.overlaps[int]"], unfollowed := true, recurses := true, apart := false }
def LedgerOnceSaid : Prop := ledgerOnceRow.holds Try.pinned (OpenSpec.ofChange ledgerOnceSpec)

/-- ITS FALSE NEIGHBOUR: 'it returns false'. Refute it at one input. -/
def ledgerOnceWrong : ChangeSpec := { name := "ledgerOnce", fn := fun _ => fun
  | [d] => { results := [.lit (.bool false)], args := [d] }
  | _ => none }
def LedgerOnceWrongFalsely : Prop := ledgerOnceRow.holds Try.pinned (OpenSpec.ofChange ledgerOnceWrong)

/-- 'caravellaw15.LedgerPlays': WHATEVER THE INPUT: true; the input reads as it did. -/
def ledgerPlaysSpec : ChangeSpec := { name := "ledgerPlays", fn := fun _ => fun
  | [d1, d2] => { results := [.lit (.bool true)], args := [d1, d2] }
  | _ => none }
def ledgerPlaysRow : OpenClaim := { program := "ytiadfikhfimcoaa", sum := "82d8f20153e4d10e95aab9712c0a5e2b92bb62d131c822a8eb7ad8f29d36f68e", func := "caravel/caravellaw15.LedgerPlays", spec := "ledgerPlays", inPlace := ["slices.overlaps[int]"], unfollowed := true, recurses := true, apart := false }
def LedgerPlaysSaid : Prop := ledgerPlaysRow.holds Try.pinned (OpenSpec.ofChange ledgerPlaysSpec)

/-- ITS FALSE NEIGHBOUR: 'it returns false'. Refute it at one input. -/
def ledgerPlaysWrong : ChangeSpec := { name := "ledgerPlays", fn := fun _ => fun
  | [d1, d2] => { results := [.lit (.bool false)], args := [d1, d2] }
  | _ => none }
def LedgerPlaysWrongFalsely : Prop := ledgerPlaysRow.holds Try.pinned (OpenSpec.ofChange ledgerPlaysWrong)

/-- 'caravellaw23.ConnidBoth': WHATEVER THE INPUT: true; the input reads as it did. -/
def connidBothSpec : ChangeSpec := { name := "connidBoth", fn := fun _ => fun
  | [d1, d2] => { results := [.lit (.bool true)], args := [d1, d2] }
  | _ => none }
def connidBothRow : OpenClaim := { program := "ytiadfikhfimcoaa", sum := "82d8f20153e4d10e95aab9712c0a5e2b92bb62d131c822a8eb7ad8f29d36f68e", func := "caravel/caravellaw23.ConnidBoth", spec := "connidBoth", unfollowed := true, recurses := true, apart := false }
def ConnidBothSaid : Prop := connidBothRow.holds Try.pinned (OpenSpec.ofChange connidBothSpec)

/-- ITS FALSE NEIGHBOUR: 'it returns false'. Refute it at one input. -/
def connidBothWrong : ChangeSpec := { name := "connidBoth", fn := fun _ => fun
  | [d1, d2] => { results := [.lit (.bool false)], args := [d1, d2] }
  | _ => none }
def ConnidBothWrongFalsely : Prop := connidBothRow.holds Try.pinned (OpenSpec.ofChange connidBothWrong)

/-- 'caravellaw23.ConnidNobody': WHATEVER THE INPUT: true; the input reads as it did. -/
def connidNobodySpec : ChangeSpec := { name := "connidNobody", fn := fun _ => fun
  | [d] => { results := [.lit (.bool true)], args := [d] }
  | _ => none }
def connidNobodyRow : OpenClaim := { program := "ytiadfikhfimcoaa", sum := "82d8f20153e4d10e95aab9712c0a5e2b92bb62d131c822a8eb7ad8f29d36f68e", func := "caravel/caravellaw23.ConnidNobody", spec := "connidNobody", inPlace := ["internal/reflectlite.TypeOf"], unfollowed := true, recurses := true, apart := false }
def ConnidNobodySaid : Prop := connidNobodyRow.holds Try.pinned (OpenSpec.ofChange connidNobodySpec)

/-- ITS FALSE NEIGHBOUR: 'it returns false'. Refute it at one input. -/
def connidNobodyWrong : ChangeSpec := { name := "connidNobody", fn := fun _ => fun
  | [d] => { results := [.lit (.bool false)], args := [d] }
  | _ => none }
def ConnidNobodyWrongFalsely : Prop := connidNobodyRow.holds Try.pinned (OpenSpec.ofChange connidNobodyWrong)

/- THE SECOND FORM. 'bulk': how many values and letters a reading holds, each counted each time it is reached (what is shared counts as often as it is met; a slice's spare places count too). A statement '..UptoSaid' is the law's where the arguments, and the package variables that the reading takes, are together of bulk at most 1048576: NARROWER than '..Said'. Prove '..Said' where nothing that the law and all that it calls make is longer than what came in: it says more and counts as full. Else prove '..UptoSaid'. A law counts once. -/
mutual
def uptoBulk {H : Type} : DataW H → Nat
  | .lit (.string bytes) => bytes.length + 1
  | .lit _ => 1
  | .nil => 1
  | .ptr d => uptoBulk d + 1
  | .slice elems spare => uptoBulkAll elems + uptoBulkAll spare + 1
  | .agg parts => uptoBulkAll parts + 1
  | .iface _ d => uptoBulk d + 1
  | .map entries => uptoBulkEntries entries + 1
  | .held _ => 1
def uptoBulkAll {H : Type} : List (DataW H) → Nat
  | [] => 0
  | d :: r => uptoBulk d + uptoBulkAll r
def uptoBulkEntries {H : Type} : List (Lit × DataW H) → Nat
  | [] => 0
  | x :: r => uptoBulkEntry x + uptoBulkEntries r
def uptoBulkEntry {H : Type} : Lit × DataW H → Nat
  | (.string bytes, d) => bytes.length + uptoBulk d + 1
  | (_, d) => uptoBulk d + 1
 end
def uptoSmall : (H : Type) → List (DataW H) → Bool := fun _ ds => decide (uptoBulkAll ds ≤ 1048576)
def OpenSpec.upto (s : _root_.Go.ChangeSpec) : _root_.Go.OpenSpec := { _root_.Go.OpenSpec.ofChange s with cond := some uptoSmall }

/-- 'caravellaw15.LedgerThree', WHERE WHAT IT READS IS OF BULK AT MOST 1048576: true; the input reads as it did. -/
def ledgerThreeUptoRow : OpenClaim := { program := "ytiadfikhfimcoaa", sum := "82d8f20153e4d10e95aab9712c0a5e2b92bb62d131c822a8eb7ad8f29d36f68e", func := "caravel/caravellaw15.LedgerThree", spec := "ledgerThree", inPlace := ["slices.overlaps[int]"], unfollowed := true, recurses := true, apart := false, narrowed := true }
def LedgerThreeUptoSaid : Prop := ledgerThreeUptoRow.holds Try.pinned (OpenSpec.upto ledgerThreeSpec)

/-- 'caravellaw15.LedgerOnce', WHERE WHAT IT READS IS OF BULK AT MOST 1048576: true; the input reads as it did. -/
def ledgerOnceUptoRow : OpenClaim := { program := "ytiadfikhfimcoaa", sum := "82d8f20153e4d10e95aab9712c0a5e2b92bb62d131c822a8eb7ad8f29d36f68e", func := "caravel/caravellaw15.LedgerOnce", spec := "ledgerOnce", inPlace := ["slices.overlaps[int]"], unfollowed := true, recurses := true, apart := false, narrowed := true }
def LedgerOnceUptoSaid : Prop := ledgerOnceUptoRow.holds Try.pinned (OpenSpec.upto ledgerOnceSpec)

/-- 'caravellaw15.LedgerPlays', WHERE WHAT IT READS IS OF BULK AT MOST 1048576: true; the input reads as it did. -/
def ledgerPlaysUptoRow : OpenClaim := { program := "ytiadfikhfimcoaa", sum := "82d8f20153e4d10e95aab9712c0a5e2b92bb62d131c822a8eb7ad8f29d36f68e", func := "caravel/caravellaw15.LedgerPlays", spec := "ledgerPlays", inPlace := ["slices.overlaps[int]"], unfollowed := true, recurses := true, apart := false, narrowed := true }
def LedgerPlaysUptoSaid : Prop := ledgerPlaysUptoRow.holds Try.pinned (OpenSpec.upto ledgerPlaysSpec)

/-- 'caravellaw23.ConnidBoth', WHERE WHAT IT READS IS OF BULK AT MOST 1048576: true; the input reads as it did. -/
def connidBothUptoRow : OpenClaim := { program := "ytiadfikhfimcoaa", sum := "82d8f20153e4d10e95aab9712c0a5e2b92bb62d131c822a8eb7ad8f29d36f68e", func := "caravel/caravellaw23.ConnidBoth", spec := "connidBoth", unfollowed := true, recurses := true, apart := false, narrowed := true }
def ConnidBothUptoSaid : Prop := connidBothUptoRow.holds Try.pinned (OpenSpec.upto connidBothSpec)

/-- 'caravellaw23.ConnidNobody', WHERE WHAT IT READS IS OF BULK AT MOST 1048576: true; the input reads as it did. -/
def connidNobodyUptoRow : OpenClaim := { program := "ytiadfikhfimcoaa", sum := "82d8f20153e4d10e95aab9712c0a5e2b92bb62d131c822a8eb7ad8f29d36f68e", func := "caravel/caravellaw23.ConnidNobody", spec := "connidNobody", inPlace := ["internal/reflectlite.TypeOf"], unfollowed := true, recurses := true, apart := false, narrowed := true }
def ConnidNobodyUptoSaid : Prop := connidNobodyUptoRow.holds Try.pinned (OpenSpec.upto connidNobodySpec)

end Rows
end Go.Proofs.Ytiadfikhfimcoaa
