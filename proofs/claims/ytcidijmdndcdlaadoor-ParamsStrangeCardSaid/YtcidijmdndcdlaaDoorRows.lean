/-
  NARROWER THAN 'FOR EVERY INPUT', by the rows' own cells (each row's printed sentence says how): ParamsBack: laid · ParamsStrange: laid · ParamsTurned: laid · ParamsPut: laid · ParamsRead: laid.
  DERIVED. THE GIVEN ROWS OF THIS SEAT. 5 by the template 'for every input the law returns true; each argument reads behind the call as it read before'; 0 by the template 'total and deterministic' (their statements: YtcidijmdndcdlaaDoorTotals.lean).
  GIVEN WITH THE SEED: the statements are not yours to turn. If you find one false, say at which input.
  Laid BY PROGRAM, IN A SANDBOX (cutbox-rows.mjs): the forced cells as the released guide's own fill.sh prints them over the translation b4417138ec307128… (all of the seat's roots in one cut). By AI agents, Wed Nov 11 2026. No macro, syntax, notation, axiom, sorry.
-/
import Derived.Test.YtcidijmdndcdlaaDoorChecked
import GoSem.Claim
import GoSem.ClaimJoined
import GoSem.ClaimMapViews
import Derived.JoinedTies
import Derived.KernelRfl
namespace Go.Proofs.YtcidijmdndcdlaaDoor
/- THE CELL 'sum', in the pinned program and in every row, IS THE sha256 OF THE DUMP (.gsa) THAT YtcidijmdndcdlaaDoorProg.lean LOADS. Nothing in Lean hashes anything: it is a label: what it is worth is what the hold of that sum in a sandbox is worth. -/
noncomputable def Tryd.pinned : Pinned := { name := "ytcidijmdndcdlaadoor", sum := "b4417138ec3071288659a973693a24f32d7e5729702eeaead399f93d78bfddd0", checked := Tryd.checked }
namespace Rows
def none {H : Type} : Left H := { results := [], args := [] }

/- WHAT THE LISTED PACKAGE-LEVEL VARIABLES READ AS WHEN THE CALL BEGINS. Each datum BY PROGRAM (the guide's laid-datum.mjs) off the statement by which the dump's own 'gosem.cut.vars' lays the variable. In a bare row this is a premise. The card (YtcidijmdndcdlaaDoorCards.lean) ties it to the program's text. -/
def laid_caravel_octet_widths {H : Type} : DataW H := .agg [.lit (.int .i64 6), .lit (.int .i64 14), .lit (.int .i64 30), .lit (.int .i64 62)]

/-- 'caravellaw03.ParamsBack': WHATEVER THE INPUT: true; the input reads as it did. -/
def paramsBackSpec : ChangeSpec := { name := "paramsBack", fn := fun _ => fun
  | [d1, d2, d3] => { results := [.lit (.bool true)], args := [d1, d2, d3] }
  | _ => none }
def paramsBackRow : OpenClaim := { program := "ytcidijmdndcdlaadoor", sum := "b4417138ec3071288659a973693a24f32d7e5729702eeaead399f93d78bfddd0", func := "caravel/caravellaw03.ParamsBack", spec := "paramsBack", inPlace := ["internal/reflectlite.TypeOf"], unfollowed := true, recurses := true, named := ["caravel/octet.widths"], apart := false, laid := [("caravel/octet.widths", laid_caravel_octet_widths)] }
def ParamsBackSaid : Prop := paramsBackRow.holds Tryd.pinned (OpenSpec.ofChange paramsBackSpec)

/-- ITS FALSE NEIGHBOUR: 'it returns false'. Refute it at one input. -/
def paramsBackWrong : ChangeSpec := { name := "paramsBack", fn := fun _ => fun
  | [d1, d2, d3] => { results := [.lit (.bool false)], args := [d1, d2, d3] }
  | _ => none }
def ParamsBackWrongFalsely : Prop := paramsBackRow.holds Tryd.pinned (OpenSpec.ofChange paramsBackWrong)

/-- 'caravellaw03.ParamsStrange': WHATEVER THE INPUT: true; the input reads as it did. -/
def paramsStrangeSpec : ChangeSpec := { name := "paramsStrange", fn := fun _ => fun
  | [d1, d2, d3] => { results := [.lit (.bool true)], args := [d1, d2, d3] }
  | _ => none }
def paramsStrangeRow : OpenClaim := { program := "ytcidijmdndcdlaadoor", sum := "b4417138ec3071288659a973693a24f32d7e5729702eeaead399f93d78bfddd0", func := "caravel/caravellaw03.ParamsStrange", spec := "paramsStrange", inPlace := ["internal/reflectlite.TypeOf"], unfollowed := true, recurses := true, named := ["caravel/octet.widths"], apart := false, laid := [("caravel/octet.widths", laid_caravel_octet_widths)] }
def ParamsStrangeSaid : Prop := paramsStrangeRow.holds Tryd.pinned (OpenSpec.ofChange paramsStrangeSpec)

/-- ITS FALSE NEIGHBOUR: 'it returns false'. Refute it at one input. -/
def paramsStrangeWrong : ChangeSpec := { name := "paramsStrange", fn := fun _ => fun
  | [d1, d2, d3] => { results := [.lit (.bool false)], args := [d1, d2, d3] }
  | _ => none }
def ParamsStrangeWrongFalsely : Prop := paramsStrangeRow.holds Tryd.pinned (OpenSpec.ofChange paramsStrangeWrong)

/-- 'caravellaw03.ParamsTurned': WHATEVER THE INPUT: true; the input reads as it did. -/
def paramsTurnedSpec : ChangeSpec := { name := "paramsTurned", fn := fun _ => fun
  | [d1, d2] => { results := [.lit (.bool true)], args := [d1, d2] }
  | _ => none }
def paramsTurnedRow : OpenClaim := { program := "ytcidijmdndcdlaadoor", sum := "b4417138ec3071288659a973693a24f32d7e5729702eeaead399f93d78bfddd0", func := "caravel/caravellaw03.ParamsTurned", spec := "paramsTurned", inPlace := ["internal/reflectlite.TypeOf"], unfollowed := true, recurses := true, named := ["caravel/octet.widths"], apart := false, laid := [("caravel/octet.widths", laid_caravel_octet_widths)] }
def ParamsTurnedSaid : Prop := paramsTurnedRow.holds Tryd.pinned (OpenSpec.ofChange paramsTurnedSpec)

/-- ITS FALSE NEIGHBOUR: 'it returns false'. Refute it at one input. -/
def paramsTurnedWrong : ChangeSpec := { name := "paramsTurned", fn := fun _ => fun
  | [d1, d2] => { results := [.lit (.bool false)], args := [d1, d2] }
  | _ => none }
def ParamsTurnedWrongFalsely : Prop := paramsTurnedRow.holds Tryd.pinned (OpenSpec.ofChange paramsTurnedWrong)

/-- 'caravellaw03.ParamsPut': WHATEVER THE INPUT: true; the input reads as it did. -/
def paramsPutSpec : ChangeSpec := { name := "paramsPut", fn := fun _ => fun
  | [d1, d2] => { results := [.lit (.bool true)], args := [d1, d2] }
  | _ => none }
def paramsPutRow : OpenClaim := { program := "ytcidijmdndcdlaadoor", sum := "b4417138ec3071288659a973693a24f32d7e5729702eeaead399f93d78bfddd0", func := "caravel/caravellaw03.ParamsPut", spec := "paramsPut", unfollowed := true, recurses := true, named := ["caravel/octet.widths"], apart := false, laid := [("caravel/octet.widths", laid_caravel_octet_widths)] }
def ParamsPutSaid : Prop := paramsPutRow.holds Tryd.pinned (OpenSpec.ofChange paramsPutSpec)

/-- ITS FALSE NEIGHBOUR: 'it returns false'. Refute it at one input. -/
def paramsPutWrong : ChangeSpec := { name := "paramsPut", fn := fun _ => fun
  | [d1, d2] => { results := [.lit (.bool false)], args := [d1, d2] }
  | _ => none }
def ParamsPutWrongFalsely : Prop := paramsPutRow.holds Tryd.pinned (OpenSpec.ofChange paramsPutWrong)

/-- 'caravellaw03.ParamsRead': WHATEVER THE INPUT: true; the input reads as it did. -/
def paramsReadSpec : ChangeSpec := { name := "paramsRead", fn := fun _ => fun
  | [d1, d2] => { results := [.lit (.bool true)], args := [d1, d2] }
  | _ => none }
def paramsReadRow : OpenClaim := { program := "ytcidijmdndcdlaadoor", sum := "b4417138ec3071288659a973693a24f32d7e5729702eeaead399f93d78bfddd0", func := "caravel/caravellaw03.ParamsRead", spec := "paramsRead", inPlace := ["internal/reflectlite.TypeOf"], unfollowed := true, recurses := true, named := ["caravel/octet.widths"], apart := false, laid := [("caravel/octet.widths", laid_caravel_octet_widths)] }
def ParamsReadSaid : Prop := paramsReadRow.holds Tryd.pinned (OpenSpec.ofChange paramsReadSpec)

/-- ITS FALSE NEIGHBOUR: 'it returns false'. Refute it at one input. -/
def paramsReadWrong : ChangeSpec := { name := "paramsRead", fn := fun _ => fun
  | [d1, d2] => { results := [.lit (.bool false)], args := [d1, d2] }
  | _ => none }
def ParamsReadWrongFalsely : Prop := paramsReadRow.holds Tryd.pinned (OpenSpec.ofChange paramsReadWrong)

/- THE SECOND FORM. 'bulk': how many values and letters a reading holds, each counted each time it is reached (what is shared counts as often as it is met; a slice's spare places count too). A statement '..UptoSaid' is the law's where the arguments, and the package variables that the reading takes, are together of bulk at most 1048576: NARROWER than '..Said'. Prove '..Said' where nothing that the law and all that it calls make is longer than what came in: it says more and counts as full. Else prove '..UptoSaid'. A law counts once. -/
mutual
def uptoBulk {H : Type} : DataW H → Nat
  | .lit (.string bytes) => bytes.length + 1
  | .lit _ => 1
  | .nil => 1
  | .ptr d => uptoBulk d + 1
  | .slice elems spare => uptoBulkAll elems + uptoBulkAll spare + 1
  | .agg parts => uptoBulkAll parts + 1
  | .iface _ d => uptoBulk d + 1
  | .map entries => uptoBulkEntries entries + 1
  | .held _ => 1
def uptoBulkAll {H : Type} : List (DataW H) → Nat
  | [] => 0
  | d :: r => uptoBulk d + uptoBulkAll r
def uptoBulkEntries {H : Type} : List (Lit × DataW H) → Nat
  | [] => 0
  | x :: r => uptoBulkEntry x + uptoBulkEntries r
def uptoBulkEntry {H : Type} : Lit × DataW H → Nat
  | (.string bytes, d) => bytes.length + uptoBulk d + 1
  | (_, d) => uptoBulk d + 1
 end
def uptoSmall : (H : Type) → List (DataW H) → Bool := fun _ ds => decide (uptoBulkAll ds ≤ 1048576)
def OpenSpec.upto (s : _root_.Go.ChangeSpec) : _root_.Go.OpenSpec := { _root_.Go.OpenSpec.ofChange s with cond := some uptoSmall }

/-- 'caravellaw03.ParamsBack', WHERE WHAT IT READS IS OF BULK AT MOST 1048576: true; the input reads as it did. -/
def paramsBackUptoRow : OpenClaim := { program := "ytcidijmdndcdlaadoor", sum := "b4417138ec3071288659a973693a24f32d7e5729702eeaead399f93d78bfddd0", func := "caravel/caravellaw03.ParamsBack", spec := "paramsBack", inPlace := ["internal/reflectlite.TypeOf"], unfollowed := true, recurses := true, named := ["caravel/octet.widths"], apart := false, laid := [("caravel/octet.widths", laid_caravel_octet_widths)], narrowed := true }
def ParamsBackUptoSaid : Prop := paramsBackUptoRow.holds Tryd.pinned (OpenSpec.upto paramsBackSpec)

/-- 'caravellaw03.ParamsStrange', WHERE WHAT IT READS IS OF BULK AT MOST 1048576: true; the input reads as it did. -/
def paramsStrangeUptoRow : OpenClaim := { program := "ytcidijmdndcdlaadoor", sum := "b4417138ec3071288659a973693a24f32d7e5729702eeaead399f93d78bfddd0", func := "caravel/caravellaw03.ParamsStrange", spec := "paramsStrange", inPlace := ["internal/reflectlite.TypeOf"], unfollowed := true, recurses := true, named := ["caravel/octet.widths"], apart := false, laid := [("caravel/octet.widths", laid_caravel_octet_widths)], narrowed := true }
def ParamsStrangeUptoSaid : Prop := paramsStrangeUptoRow.holds Tryd.pinned (OpenSpec.upto paramsStrangeSpec)

/-- 'caravellaw03.ParamsTurned', WHERE WHAT IT READS IS OF BULK AT MOST 1048576: true; the input reads as it did. -/
def paramsTurnedUptoRow : OpenClaim := { program := "ytcidijmdndcdlaadoor", sum := "b4417138ec3071288659a973693a24f32d7e5729702eeaead399f93d78bfddd0", func := "caravel/caravellaw03.ParamsTurned", spec := "paramsTurned", inPlace := ["internal/reflectlite.TypeOf"], unfollowed := true, recurses := true, named := ["caravel/octet.widths"], apart := false, laid := [("caravel/octet.widths", laid_caravel_octet_widths)], narrowed := true }
def ParamsTurnedUptoSaid : Prop := paramsTurnedUptoRow.holds Tryd.pinned (OpenSpec.upto paramsTurnedSpec)

/-- 'caravellaw03.ParamsPut', WHERE WHAT IT READS IS OF BULK AT MOST 1048576: true; the input reads as it did. -/
def paramsPutUptoRow : OpenClaim := { program := "ytcidijmdndcdlaadoor", sum := "b4417138ec3071288659a973693a24f32d7e5729702eeaead399f93d78bfddd0", func := "caravel/caravellaw03.ParamsPut", spec := "paramsPut", unfollowed := true, recurses := true, named := ["caravel/octet.widths"], apart := false, laid := [("caravel/octet.widths", laid_caravel_octet_widths)], narrowed := true }
def ParamsPutUptoSaid : Prop := paramsPutUptoRow.holds Tryd.pinned (OpenSpec.upto paramsPutSpec)

/-- 'caravellaw03.ParamsRead', WHERE WHAT IT READS IS OF BULK AT MOST 1048576: true; the input reads as it did. -/
def paramsReadUptoRow : OpenClaim := { program := "ytcidijmdndcdlaadoor", sum := "b4417138ec3071288659a973693a24f32d7e5729702eeaead399f93d78bfddd0", func := "caravel/caravellaw03.ParamsRead", spec := "paramsRead", inPlace := ["internal/reflectlite.TypeOf"], unfollowed := true, recurses := true, named := ["caravel/octet.widths"], apart := false, laid := [("caravel/octet.widths", laid_caravel_octet_widths)], narrowed := true }
def ParamsReadUptoSaid : Prop := paramsReadUptoRow.holds Tryd.pinned (OpenSpec.upto paramsReadSpec)

end Rows
end Go.Proofs.YtcidijmdndcdlaaDoor
