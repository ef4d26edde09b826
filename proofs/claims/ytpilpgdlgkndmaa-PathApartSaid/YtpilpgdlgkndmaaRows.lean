/-
  No cell of these rows narrows 'for every input' (looked for: loops, veiled, ifaces, maps, wideKeys, modest, calm, conditions, laid).
  DERIVED. THE GIVEN ROWS OF THIS SEAT. 8 by the template 'for every input the law returns true; each argument reads behind the call as it read before'; 0 by the template 'total and deterministic' (their statements: YtpilpgdlgkndmaaTotals.lean).
  GIVEN WITH THE SEED: the statements are not yours to turn. If you find one false, say at which input.
  Laid BY PROGRAM, IN A SANDBOX (cutbox-rows.mjs): the forced cells as the released guide's own fill.sh prints them over the translation 5e4f03555c098e81… (all of the seat's roots in one cut). By AI agents, Wed Nov 11 2026. No macro, syntax, notation, axiom, sorry.
-/
import Derived.Test.YtpilpgdlgkndmaaChecked
import GoSem.Claim
import GoSem.ClaimJoined
import GoSem.ClaimMapViews
import Derived.JoinedTies
import Derived.KernelRfl
namespace Go.Proofs.Ytpilpgdlgkndmaa
/- THE CELL 'sum', in the pinned program and in every row, IS THE sha256 OF THE DUMP (.gsa) THAT YtpilpgdlgkndmaaProg.lean LOADS. Nothing in Lean hashes anything: it is a label: what it is worth is what the hold of that sum in a sandbox is worth. -/
noncomputable def Try.pinned : Pinned := { name := "ytpilpgdlgkndmaa", sum := "5e4f03555c098e813b1296c12b720910a9841b7baa05f8e0670dd7c1963895c5", checked := Try.checked }
namespace Rows
def none {H : Type} : Left H := { results := [], args := [] }

/-- 'caravellaw22.DatagramsFull': WHATEVER THE INPUT: true; the input reads as it did. -/
def datagramsFullSpec : ChangeSpec := { name := "datagramsFull", fn := fun _ => fun
  | [d1, d2] => { results := [.lit (.bool true)], args := [d1, d2] }
  | _ => none }
def datagramsFullRow : OpenClaim := { program := "ytpilpgdlgkndmaa", sum := "5e4f03555c098e813b1296c12b720910a9841b7baa05f8e0670dd7c1963895c5", func := "caravel/caravellaw22.DatagramsFull", spec := "datagramsFull", apart := false }
def DatagramsFullSaid : Prop := datagramsFullRow.holds Try.pinned (OpenSpec.ofChange datagramsFullSpec)

/-- ITS FALSE NEIGHBOUR: 'it returns false'. Refute it at one input. -/
def datagramsFullWrong : ChangeSpec := { name := "datagramsFull", fn := fun _ => fun
  | [d1, d2] => { results := [.lit (.bool false)], args := [d1, d2] }
  | _ => none }
def DatagramsFullWrongFalsely : Prop := datagramsFullRow.holds Try.pinned (OpenSpec.ofChange datagramsFullWrong)

/-- 'caravellaw01.OctetShort': WHATEVER THE INPUT: true; the input reads as it did. -/
def octetShortSpec : ChangeSpec := { name := "octetShort", fn := fun _ => fun
  | [d1, d2, d3] => { results := [.lit (.bool true)], args := [d1, d2, d3] }
  | _ => none }
def octetShortRow : OpenClaim := { program := "ytpilpgdlgkndmaa", sum := "5e4f03555c098e813b1296c12b720910a9841b7baa05f8e0670dd7c1963895c5", func := "caravel/caravellaw01.OctetShort", spec := "octetShort", apart := false }
def OctetShortSaid : Prop := octetShortRow.holds Try.pinned (OpenSpec.ofChange octetShortSpec)

/-- ITS FALSE NEIGHBOUR: 'it returns false'. Refute it at one input. -/
def octetShortWrong : ChangeSpec := { name := "octetShort", fn := fun _ => fun
  | [d1, d2, d3] => { results := [.lit (.bool false)], args := [d1, d2, d3] }
  | _ => none }
def OctetShortWrongFalsely : Prop := octetShortRow.holds Try.pinned (OpenSpec.ofChange octetShortWrong)

/-- 'caravellaw01.OctetNumbers': WHATEVER THE INPUT: true; the input reads as it did. -/
def octetNumbersSpec : ChangeSpec := { name := "octetNumbers", fn := fun _ => fun
  | [d1, d2, d3] => { results := [.lit (.bool true)], args := [d1, d2, d3] }
  | _ => none }
def octetNumbersRow : OpenClaim := { program := "ytpilpgdlgkndmaa", sum := "5e4f03555c098e813b1296c12b720910a9841b7baa05f8e0670dd7c1963895c5", func := "caravel/caravellaw01.OctetNumbers", spec := "octetNumbers", apart := false }
def OctetNumbersSaid : Prop := octetNumbersRow.holds Try.pinned (OpenSpec.ofChange octetNumbersSpec)

/-- ITS FALSE NEIGHBOUR: 'it returns false'. Refute it at one input. -/
def octetNumbersWrong : ChangeSpec := { name := "octetNumbers", fn := fun _ => fun
  | [d1, d2, d3] => { results := [.lit (.bool false)], args := [d1, d2, d3] }
  | _ => none }
def OctetNumbersWrongFalsely : Prop := octetNumbersRow.holds Try.pinned (OpenSpec.ofChange octetNumbersWrong)

/-- 'caravellaw22.DatagramsOnce': WHATEVER THE INPUT: true; the input reads as it did. -/
def datagramsOnceSpec : ChangeSpec := { name := "datagramsOnce", fn := fun _ => fun
  | [d1, d2, d3] => { results := [.lit (.bool true)], args := [d1, d2, d3] }
  | _ => none }
def datagramsOnceRow : OpenClaim := { program := "ytpilpgdlgkndmaa", sum := "5e4f03555c098e813b1296c12b720910a9841b7baa05f8e0670dd7c1963895c5", func := "caravel/caravellaw22.DatagramsOnce", spec := "datagramsOnce", apart := false }
def DatagramsOnceSaid : Prop := datagramsOnceRow.holds Try.pinned (OpenSpec.ofChange datagramsOnceSpec)

/-- ITS FALSE NEIGHBOUR: 'it returns false'. Refute it at one input. -/
def datagramsOnceWrong : ChangeSpec := { name := "datagramsOnce", fn := fun _ => fun
  | [d1, d2, d3] => { results := [.lit (.bool false)], args := [d1, d2, d3] }
  | _ => none }
def DatagramsOnceWrongFalsely : Prop := datagramsOnceRow.holds Try.pinned (OpenSpec.ofChange datagramsOnceWrong)

/-- 'caravellaw22.DatagramsNobody': WHATEVER THE INPUT: true; the input reads as it did. -/
def datagramsNobodySpec : ChangeSpec := { name := "datagramsNobody", fn := fun _ => fun
  | [d] => { results := [.lit (.bool true)], args := [d] }
  | _ => none }
def datagramsNobodyRow : OpenClaim := { program := "ytpilpgdlgkndmaa", sum := "5e4f03555c098e813b1296c12b720910a9841b7baa05f8e0670dd7c1963895c5", func := "caravel/caravellaw22.DatagramsNobody", spec := "datagramsNobody", apart := false }
def DatagramsNobodySaid : Prop := datagramsNobodyRow.holds Try.pinned (OpenSpec.ofChange datagramsNobodySpec)

/-- ITS FALSE NEIGHBOUR: 'it returns false'. Refute it at one input. -/
def datagramsNobodyWrong : ChangeSpec := { name := "datagramsNobody", fn := fun _ => fun
  | [d] => { results := [.lit (.bool false)], args := [d] }
  | _ => none }
def DatagramsNobodyWrongFalsely : Prop := datagramsNobodyRow.holds Try.pinned (OpenSpec.ofChange datagramsNobodyWrong)

/-- 'caravellaw24.PathApart': WHATEVER THE INPUT: true; the input reads as it did. -/
def pathApartSpec : ChangeSpec := { name := "pathApart", fn := fun _ => fun
  | [d1, d2, d3] => { results := [.lit (.bool true)], args := [d1, d2, d3] }
  | _ => none }
def pathApartRow : OpenClaim := { program := "ytpilpgdlgkndmaa", sum := "5e4f03555c098e813b1296c12b720910a9841b7baa05f8e0670dd7c1963895c5", func := "caravel/caravellaw24.PathApart", spec := "pathApart", apart := false }
def PathApartSaid : Prop := pathApartRow.holds Try.pinned (OpenSpec.ofChange pathApartSpec)

/-- ITS FALSE NEIGHBOUR: 'it returns false'. Refute it at one input. -/
def pathApartWrong : ChangeSpec := { name := "pathApart", fn := fun _ => fun
  | [d1, d2, d3] => { results := [.lit (.bool false)], args := [d1, d2, d3] }
  | _ => none }
def PathApartWrongFalsely : Prop := pathApartRow.holds Try.pinned (OpenSpec.ofChange pathApartWrong)

/-- 'caravellaw22.DatagramsPlay': WHATEVER THE INPUT: true; the input reads as it did. -/
def datagramsPlaySpec : ChangeSpec := { name := "datagramsPlay", fn := fun _ => fun
  | [d1, d2, d3] => { results := [.lit (.bool true)], args := [d1, d2, d3] }
  | _ => none }
def datagramsPlayRow : OpenClaim := { program := "ytpilpgdlgkndmaa", sum := "5e4f03555c098e813b1296c12b720910a9841b7baa05f8e0670dd7c1963895c5", func := "caravel/caravellaw22.DatagramsPlay", spec := "datagramsPlay", apart := false }
def DatagramsPlaySaid : Prop := datagramsPlayRow.holds Try.pinned (OpenSpec.ofChange datagramsPlaySpec)

/-- ITS FALSE NEIGHBOUR: 'it returns false'. Refute it at one input. -/
def datagramsPlayWrong : ChangeSpec := { name := "datagramsPlay", fn := fun _ => fun
  | [d1, d2, d3] => { results := [.lit (.bool false)], args := [d1, d2, d3] }
  | _ => none }
def DatagramsPlayWrongFalsely : Prop := datagramsPlayRow.holds Try.pinned (OpenSpec.ofChange datagramsPlayWrong)

/-- 'caravellaw17.PacerRate': WHATEVER THE INPUT: true; the input reads as it did. -/
def pacerRateSpec : ChangeSpec := { name := "pacerRate", fn := fun _ => fun
  | [d1, d2, d3] => { results := [.lit (.bool true)], args := [d1, d2, d3] }
  | _ => none }
def pacerRateRow : OpenClaim := { program := "ytpilpgdlgkndmaa", sum := "5e4f03555c098e813b1296c12b720910a9841b7baa05f8e0670dd7c1963895c5", func := "caravel/caravellaw17.PacerRate", spec := "pacerRate", inPlace := ["math/bits.Add64"], unfollowed := true, recurses := true, named := ["math/bits.divideError", "math/bits.overflowError"], apart := false }
def PacerRateSaid : Prop := pacerRateRow.holds Try.pinned (OpenSpec.ofChange pacerRateSpec)

/-- ITS FALSE NEIGHBOUR: 'it returns false'. Refute it at one input. -/
def pacerRateWrong : ChangeSpec := { name := "pacerRate", fn := fun _ => fun
  | [d1, d2, d3] => { results := [.lit (.bool false)], args := [d1, d2, d3] }
  | _ => none }
def PacerRateWrongFalsely : Prop := pacerRateRow.holds Try.pinned (OpenSpec.ofChange pacerRateWrong)

/- THE SECOND FORM. 'bulk': how many values and letters a reading holds, each counted each time it is reached (what is shared counts as often as it is met; a slice's spare places count too). A statement '..UptoSaid' is the law's where the arguments, and the package variables that the reading takes, are together of bulk at most 1048576: NARROWER than '..Said'. Prove '..Said' where nothing that the law and all that it calls make is longer than what came in: it says more and counts as full. Else prove '..UptoSaid'. A law counts once. -/
mutual
def uptoBulk {H : Type} : DataW H → Nat
  | .lit (.string bytes) => bytes.length + 1
  | .lit _ => 1
  | .nil => 1
  | .ptr d => uptoBulk d + 1
  | .slice elems spare => uptoBulkAll elems + uptoBulkAll spare + 1
  | .agg parts => uptoBulkAll parts + 1
  | .iface _ d => uptoBulk d + 1
  | .map entries => uptoBulkEntries entries + 1
  | .held _ => 1
def uptoBulkAll {H : Type} : List (DataW H) → Nat
  | [] => 0
  | d :: r => uptoBulk d + uptoBulkAll r
def uptoBulkEntries {H : Type} : List (Lit × DataW H) → Nat
  | [] => 0
  | x :: r => uptoBulkEntry x + uptoBulkEntries r
def uptoBulkEntry {H : Type} : Lit × DataW H → Nat
  | (.string bytes, d) => bytes.length + uptoBulk d + 1
  | (_, d) => uptoBulk d + 1
 end
def uptoSmall : (H : Type) → List (DataW H) → Bool := fun _ ds => decide (uptoBulkAll ds ≤ 1048576)
def OpenSpec.upto (s : _root_.Go.ChangeSpec) : _root_.Go.OpenSpec := { _root_.Go.OpenSpec.ofChange s with cond := some uptoSmall }

/-- 'caravellaw22.DatagramsFull', WHERE WHAT IT READS IS OF BULK AT MOST 1048576: true; the input reads as it did. -/
def datagramsFullUptoRow : OpenClaim := { program := "ytpilpgdlgkndmaa", sum := "5e4f03555c098e813b1296c12b720910a9841b7baa05f8e0670dd7c1963895c5", func := "caravel/caravellaw22.DatagramsFull", spec := "datagramsFull", apart := false, narrowed := true }
def DatagramsFullUptoSaid : Prop := datagramsFullUptoRow.holds Try.pinned (OpenSpec.upto datagramsFullSpec)

/-- 'caravellaw01.OctetShort', WHERE WHAT IT READS IS OF BULK AT MOST 1048576: true; the input reads as it did. -/
def octetShortUptoRow : OpenClaim := { program := "ytpilpgdlgkndmaa", sum := "5e4f03555c098e813b1296c12b720910a9841b7baa05f8e0670dd7c1963895c5", func := "caravel/caravellaw01.OctetShort", spec := "octetShort", apart := false, narrowed := true }
def OctetShortUptoSaid : Prop := octetShortUptoRow.holds Try.pinned (OpenSpec.upto octetShortSpec)

/-- 'caravellaw01.OctetNumbers', WHERE WHAT IT READS IS OF BULK AT MOST 1048576: true; the input reads as it did. -/
def octetNumbersUptoRow : OpenClaim := { program := "ytpilpgdlgkndmaa", sum := "5e4f03555c098e813b1296c12b720910a9841b7baa05f8e0670dd7c1963895c5", func := "caravel/caravellaw01.OctetNumbers", spec := "octetNumbers", apart := false, narrowed := true }
def OctetNumbersUptoSaid : Prop := octetNumbersUptoRow.holds Try.pinned (OpenSpec.upto octetNumbersSpec)

/-- 'caravellaw22.DatagramsOnce', WHERE WHAT IT READS IS OF BULK AT MOST 1048576: true; the input reads as it did. -/
def datagramsOnceUptoRow : OpenClaim := { program := "ytpilpgdlgkndmaa", sum := "5e4f03555c098e813b1296c12b720910a9841b7baa05f8e0670dd7c1963895c5", func := "caravel/caravellaw22.DatagramsOnce", spec := "datagramsOnce", apart := false, narrowed := true }
def DatagramsOnceUptoSaid : Prop := datagramsOnceUptoRow.holds Try.pinned (OpenSpec.upto datagramsOnceSpec)

/-- 'caravellaw22.DatagramsNobody', WHERE WHAT IT READS IS OF BULK AT MOST 1048576: true; the input reads as it did. -/
def datagramsNobodyUptoRow : OpenClaim := { program := "ytpilpgdlgkndmaa", sum := "5e4f03555c098e813b1296c12b720910a9841b7baa05f8e0670dd7c1963895c5", func := "caravel/caravellaw22.DatagramsNobody", spec := "datagramsNobody", apart := false, narrowed := true }
def DatagramsNobodyUptoSaid : Prop := datagramsNobodyUptoRow.holds Try.pinned (OpenSpec.upto datagramsNobodySpec)

/-- 'caravellaw24.PathApart', WHERE WHAT IT READS IS OF BULK AT MOST 1048576: true; the input reads as it did. -/
def pathApartUptoRow : OpenClaim := { program := "ytpilpgdlgkndmaa", sum := "5e4f03555c098e813b1296c12b720910a9841b7baa05f8e0670dd7c1963895c5", func := "caravel/caravellaw24.PathApart", spec := "pathApart", apart := false, narrowed := true }
def PathApartUptoSaid : Prop := pathApartUptoRow.holds Try.pinned (OpenSpec.upto pathApartSpec)

/-- 'caravellaw22.DatagramsPlay', WHERE WHAT IT READS IS OF BULK AT MOST 1048576: true; the input reads as it did. -/
def datagramsPlayUptoRow : OpenClaim := { program := "ytpilpgdlgkndmaa", sum := "5e4f03555c098e813b1296c12b720910a9841b7baa05f8e0670dd7c1963895c5", func := "caravel/caravellaw22.DatagramsPlay", spec := "datagramsPlay", apart := false, narrowed := true }
def DatagramsPlayUptoSaid : Prop := datagramsPlayUptoRow.holds Try.pinned (OpenSpec.upto datagramsPlaySpec)

/-- 'caravellaw17.PacerRate', WHERE WHAT IT READS IS OF BULK AT MOST 1048576: true; the input reads as it did. -/
def pacerRateUptoRow : OpenClaim := { program := "ytpilpgdlgkndmaa", sum := "5e4f03555c098e813b1296c12b720910a9841b7baa05f8e0670dd7c1963895c5", func := "caravel/caravellaw17.PacerRate", spec := "pacerRate", inPlace := ["math/bits.Add64"], unfollowed := true, recurses := true, named := ["math/bits.divideError", "math/bits.overflowError"], apart := false, narrowed := true }
def PacerRateUptoSaid : Prop := pacerRateUptoRow.holds Try.pinned (OpenSpec.upto pacerRateSpec)

end Rows
end Go.Proofs.Ytpilpgdlgkndmaa
