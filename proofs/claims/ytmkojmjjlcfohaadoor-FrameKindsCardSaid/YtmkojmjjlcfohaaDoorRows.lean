/-
  NARROWER THAN 'FOR EVERY INPUT', by the rows' own cells (each row's printed sentence says how): ParamsRead: laid · FrameKinds: laid · ConnidOwn: laid.
  DERIVED. THE GIVEN ROWS OF THIS SEAT. 3 by the template 'for every input the law returns true; each argument reads behind the call as it read before'; 0 by the template 'total and deterministic' (their statements: YtmkojmjjlcfohaaDoorTotals.lean).
  GIVEN WITH THE SEED: the statements are not yours to turn. If you find one false, say at which input.
  Laid BY PROGRAM, IN A SANDBOX (cutbox-rows.mjs): the forced cells as the released guide's own fill.sh prints them over the translation e03882db36dbdf48… (all of the seat's roots in one cut). By AI agents, Wed Nov 11 2026. No macro, syntax, notation, axiom, sorry.
-/
import Derived.Test.YtmkojmjjlcfohaaDoorChecked
import GoSem.Claim
import GoSem.ClaimJoined
import GoSem.ClaimMapViews
import Derived.JoinedTies
import Derived.KernelRfl
namespace Go.Proofs.YtmkojmjjlcfohaaDoor
/- THE CELL 'sum', in the pinned program and in every row, IS THE sha256 OF THE DUMP (.gsa) THAT YtmkojmjjlcfohaaDoorProg.lean LOADS. Nothing in Lean hashes anything: it is a label: what it is worth is what the hold of that sum in a sandbox is worth. -/
noncomputable def Tryd.pinned : Pinned := { name := "ytmkojmjjlcfohaadoor", sum := "e03882db36dbdf489a8ee2dbf258dfc185b7c51dca29578401f4d753d1ef2e3e", checked := Tryd.checked }
namespace Rows
def none {H : Type} : Left H := { results := [], args := [] }

/- WHAT THE LISTED PACKAGE-LEVEL VARIABLES READ AS WHEN THE CALL BEGINS. Each datum BY PROGRAM (the guide's laid-datum.mjs) off the statement by which the dump's own 'gosem.cut.vars' lays the variable. In a bare row this is a premise. The card (YtmkojmjjlcfohaaDoorCards.lean) ties it to the program's text. -/
def laid_caravel_octet_widths {H : Type} : DataW H := .agg [.lit (.int .i64 6), .lit (.int .i64 14), .lit (.int .i64 30), .lit (.int .i64 62)]
def laid_errors_errorType {H : Type} : DataW H := .iface "internal/reflectlite.rtype" (.agg [.ptr (.lit (.string [101, 114, 114, 111, 114]))])

/-- 'caravellaw03.ParamsRead': WHATEVER THE INPUT: true; the input reads as it did. -/
def paramsReadSpec : ChangeSpec := { name := "paramsRead", fn := fun _ => fun
  | [d1, d2] => { results := [.lit (.bool true)], args := [d1, d2] }
  | _ => none }
def paramsReadRow : OpenClaim := { program := "ytmkojmjjlcfohaadoor", sum := "e03882db36dbdf489a8ee2dbf258dfc185b7c51dca29578401f4d753d1ef2e3e", func := "caravel/caravellaw03.ParamsRead", spec := "paramsRead", inPlace := ["internal/reflectlite.TypeOf"], unfollowed := true, recurses := true, named := ["caravel/octet.widths"], apart := false, laid := [("caravel/octet.widths", laid_caravel_octet_widths)] }
def ParamsReadSaid : Prop := paramsReadRow.holds Tryd.pinned (OpenSpec.ofChange paramsReadSpec)

/-- ITS FALSE NEIGHBOUR: 'it returns false'. Refute it at one input. -/
def paramsReadWrong : ChangeSpec := { name := "paramsRead", fn := fun _ => fun
  | [d1, d2] => { results := [.lit (.bool false)], args := [d1, d2] }
  | _ => none }
def ParamsReadWrongFalsely : Prop := paramsReadRow.holds Tryd.pinned (OpenSpec.ofChange paramsReadWrong)

/-- 'caravellaw04.FrameKinds': WHATEVER THE INPUT: true; the input reads as it did. -/
def frameKindsSpec : ChangeSpec := { name := "frameKinds", fn := fun _ => fun
  | [d1, d2] => { results := [.lit (.bool true)], args := [d1, d2] }
  | _ => none }
def frameKindsRow : OpenClaim := { program := "ytmkojmjjlcfohaadoor", sum := "e03882db36dbdf489a8ee2dbf258dfc185b7c51dca29578401f4d753d1ef2e3e", func := "caravel/caravellaw04.FrameKinds", spec := "frameKinds", inPlace := ["internal/reflectlite.ValueOf", "(internal/reflectlite.Value).Type", "(internal/reflectlite.Value).IsNil", "internal/reflectlite.TypeOf", "(internal/reflectlite.Value).Elem", "(internal/reflectlite.Value).Set"], unfollowed := true, recurses := true, named := ["errors.errorType"], apart := false, laid := [("errors.errorType", laid_errors_errorType)] }
def FrameKindsSaid : Prop := frameKindsRow.holds Tryd.pinned (OpenSpec.ofChange frameKindsSpec)

/-- ITS FALSE NEIGHBOUR: 'it returns false'. Refute it at one input. -/
def frameKindsWrong : ChangeSpec := { name := "frameKinds", fn := fun _ => fun
  | [d1, d2] => { results := [.lit (.bool false)], args := [d1, d2] }
  | _ => none }
def FrameKindsWrongFalsely : Prop := frameKindsRow.holds Tryd.pinned (OpenSpec.ofChange frameKindsWrong)

/-- 'caravellaw23.ConnidOwn': WHATEVER THE INPUT: true; the input reads as it did. -/
def connidOwnSpec : ChangeSpec := { name := "connidOwn", fn := fun _ => fun
  | [d1, d2, d3] => { results := [.lit (.bool true)], args := [d1, d2, d3] }
  | _ => none }
def connidOwnRow : OpenClaim := { program := "ytmkojmjjlcfohaadoor", sum := "e03882db36dbdf489a8ee2dbf258dfc185b7c51dca29578401f4d753d1ef2e3e", func := "caravel/caravellaw23.ConnidOwn", spec := "connidOwn", inPlace := ["internal/reflectlite.ValueOf", "(internal/reflectlite.Value).Type", "(internal/reflectlite.Value).IsNil", "internal/reflectlite.TypeOf", "(internal/reflectlite.Value).Elem", "(internal/reflectlite.Value).Set"], unfollowed := true, recurses := true, named := ["errors.errorType"], apart := false, laid := [("errors.errorType", laid_errors_errorType)] }
def ConnidOwnSaid : Prop := connidOwnRow.holds Tryd.pinned (OpenSpec.ofChange connidOwnSpec)

/-- ITS FALSE NEIGHBOUR: 'it returns false'. Refute it at one input. -/
def connidOwnWrong : ChangeSpec := { name := "connidOwn", fn := fun _ => fun
  | [d1, d2, d3] => { results := [.lit (.bool false)], args := [d1, d2, d3] }
  | _ => none }
def ConnidOwnWrongFalsely : Prop := connidOwnRow.holds Tryd.pinned (OpenSpec.ofChange connidOwnWrong)

/- THE SECOND FORM. 'bulk': how many values and letters a reading holds, each counted each time it is reached (what is shared counts as often as it is met; a slice's spare places count too). A statement '..UptoSaid' is the law's where the arguments, and the package variables that the reading takes, are together of bulk at most 1048576: NARROWER than '..Said'. Prove '..Said' where nothing that the law and all that it calls make is longer than what came in: it says more and counts as full. Else prove '..UptoSaid'. A law counts once. -/
mutual
def uptoBulk {H : Type} : DataW H → Nat
  | .lit (.string bytes) => bytes.length + 1
  | .lit _ => 1
  | .nil => 1
  | .ptr d => uptoBulk d + 1
  | .slice elems spare => uptoBulkAll elems + uptoBulkAll spare + 1
  | .agg parts => uptoBulkAll parts + 1
  | .iface _ d => uptoBulk d + 1
  | .map entries => uptoBulkEntries entries + 1
  | .held _ => 1
def uptoBulkAll {H : Type} : List (DataW H) → Nat
  | [] => 0
  | d :: r => uptoBulk d + uptoBulkAll r
def uptoBulkEntries {H : Type} : List (Lit × DataW H) → Nat
  | [] => 0
  | x :: r => uptoBulkEntry x + uptoBulkEntries r
def uptoBulkEntry {H : Type} : Lit × DataW H → Nat
  | (.string bytes, d) => bytes.length + uptoBulk d + 1
  | (_, d) => uptoBulk d + 1
 end
def uptoSmall : (H : Type) → List (DataW H) → Bool := fun _ ds => decide (uptoBulkAll ds ≤ 1048576)
def OpenSpec.upto (s : _root_.Go.ChangeSpec) : _root_.Go.OpenSpec := { _root_.Go.OpenSpec.ofChange s with cond := some uptoSmall }

/-- 'caravellaw03.ParamsRead', WHERE WHAT IT READS IS OF BULK AT MOST 1048576: true; the input reads as it did. -/
def paramsReadUptoRow : OpenClaim := { program := "ytmkojmjjlcfohaadoor", sum := "e03882db36dbdf489a8ee2dbf258dfc185b7c51dca29578401f4d753d1ef2e3e", func := "caravel/caravellaw03.ParamsRead", spec := "paramsRead", inPlace := ["internal/reflectlite.TypeOf"], unfollowed := true, recurses := true, named := ["caravel/octet.widths"], apart := false, laid := [("caravel/octet.widths", laid_caravel_octet_widths)], narrowed := true }
def ParamsReadUptoSaid : Prop := paramsReadUptoRow.holds Tryd.pinned (OpenSpec.upto paramsReadSpec)

/-- 'caravellaw04.FrameKinds', WHERE WHAT IT READS IS OF BULK AT MOST 1048576: true; the input reads as it did. -/
def frameKindsUptoRow : OpenClaim := { program := "ytmkojmjjlcfohaadoor", sum := "e03882db36dbdf489a8ee2dbf258dfc185b7c51dca29578401f4d753d1ef2e3e", func := "caravel/caravellaw04.FrameKinds", spec := "frameKinds", inPlace := ["internal/reflectlite.ValueOf", "(internal/reflectlite.Value).Type", "(internal/reflectlite.Value).IsNil", "internal/reflectlite.TypeOf", "(internal/reflectlite.Value).Elem", "(internal/reflectlite.Value).Set"], unfollowed := true, recurses := true, named := ["errors.errorType"], apart := false, laid := [("errors.errorType", laid_errors_errorType)], narrowed := true }
def FrameKindsUptoSaid : Prop := frameKindsUptoRow.holds Tryd.pinned (OpenSpec.upto frameKindsSpec)

/-- 'caravellaw23.ConnidOwn', WHERE WHAT IT READS IS OF BULK AT MOST 1048576: true; the input reads as it did. -/
def connidOwnUptoRow : OpenClaim := { program := "ytmkojmjjlcfohaadoor", sum := "e03882db36dbdf489a8ee2dbf258dfc185b7c51dca29578401f4d753d1ef2e3e", func := "caravel/caravellaw23.ConnidOwn", spec := "connidOwn", inPlace := ["internal/reflectlite.ValueOf", "(internal/reflectlite.Value).Type", "(internal/reflectlite.Value).IsNil", "internal/reflectlite.TypeOf", "(internal/reflectlite.Value).Elem", "(internal/reflectlite.Value).Set"], unfollowed := true, recurses := true, named := ["errors.errorType"], apart := false, laid := [("errors.errorType", laid_errors_errorType)], narrowed := true }
def ConnidOwnUptoSaid : Prop := connidOwnUptoRow.holds Tryd.pinned (OpenSpec.upto connidOwnSpec)

end Rows
end Go.Proofs.YtmkojmjjlcfohaaDoor
