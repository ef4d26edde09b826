/-
  NARROWER THAN 'FOR EVERY INPUT', by the rows' own cells (each row's printed sentence says how): OctetReads: laid · OctetOrder: laid · OctetPuts: laid · OctetBack: laid · ParamsPut: laid.
  DERIVED. THE GIVEN ROWS OF THIS SEAT. 5 by the template 'for every input the law returns true; each argument reads behind the call as it read before'; 0 by the template 'total and deterministic' (their statements: YtpilpgdlgkndmaaDoorTotals.lean).
  GIVEN WITH THE SEED: the statements are not yours to turn. If you find one false, say at which input.
  Laid BY PROGRAM, IN A SANDBOX (cutbox-rows.mjs): the forced cells as the released guide's own fill.sh prints them over the translation f5c78055c16edb33… (all of the seat's roots in one cut). By AI agents, Wed Nov 11 2026. No macro, syntax, notation, axiom, sorry.
-/
import Derived.Test.YtpilpgdlgkndmaaDoorChecked
import GoSem.Claim
import GoSem.ClaimJoined
import GoSem.ClaimMapViews
import Derived.JoinedTies
import Derived.KernelRfl
namespace Go.Proofs.YtpilpgdlgkndmaaDoor
/- THE CELL 'sum', in the pinned program and in every row, IS THE sha256 OF THE DUMP (.gsa) THAT YtpilpgdlgkndmaaDoorProg.lean LOADS. Nothing in Lean hashes anything: it is a label: what it is worth is what the hold of that sum in a sandbox is worth. -/
noncomputable def Tryd.pinned : Pinned := { name := "ytpilpgdlgkndmaadoor", sum := "f5c78055c16edb3396f94e35539388a60476280ec4eeae2640c1b0bf33c0f803", checked := Tryd.checked }
namespace Rows
def none {H : Type} : Left H := { results := [], args := [] }

/- WHAT THE LISTED PACKAGE-LEVEL VARIABLES READ AS WHEN THE CALL BEGINS. Each datum BY PROGRAM (the guide's laid-datum.mjs) off the statement by which the dump's own 'gosem.cut.vars' lays the variable. In a bare row this is a premise. The card (YtpilpgdlgkndmaaDoorCards.lean) ties it to the program's text. -/
def laid_caravel_octet_widths {H : Type} : DataW H := .agg [.lit (.int .i64 6), .lit (.int .i64 14), .lit (.int .i64 30), .lit (.int .i64 62)]

/-- 'caravellaw01.OctetReads': WHATEVER THE INPUT: true; the input reads as it did. -/
def octetReadsSpec : ChangeSpec := { name := "octetReads", fn := fun _ => fun
  | [d1, d2, d3] => { results := [.lit (.bool true)], args := [d1, d2, d3] }
  | _ => none }
def octetReadsRow : OpenClaim := { program := "ytpilpgdlgkndmaadoor", sum := "f5c78055c16edb3396f94e35539388a60476280ec4eeae2640c1b0bf33c0f803", func := "caravel/caravellaw01.OctetReads", spec := "octetReads", named := ["caravel/octet.widths"], apart := false, laid := [("caravel/octet.widths", laid_caravel_octet_widths)] }
def OctetReadsSaid : Prop := octetReadsRow.holds Tryd.pinned (OpenSpec.ofChange octetReadsSpec)

/-- ITS FALSE NEIGHBOUR: 'it returns false'. Refute it at one input. -/
def octetReadsWrong : ChangeSpec := { name := "octetReads", fn := fun _ => fun
  | [d1, d2, d3] => { results := [.lit (.bool false)], args := [d1, d2, d3] }
  | _ => none }
def OctetReadsWrongFalsely : Prop := octetReadsRow.holds Tryd.pinned (OpenSpec.ofChange octetReadsWrong)

/-- 'caravellaw01.OctetOrder': WHATEVER THE INPUT: true; the input reads as it did. -/
def octetOrderSpec : ChangeSpec := { name := "octetOrder", fn := fun _ => fun
  | [d1, d2] => { results := [.lit (.bool true)], args := [d1, d2] }
  | _ => none }
def octetOrderRow : OpenClaim := { program := "ytpilpgdlgkndmaadoor", sum := "f5c78055c16edb3396f94e35539388a60476280ec4eeae2640c1b0bf33c0f803", func := "caravel/caravellaw01.OctetOrder", spec := "octetOrder", named := ["caravel/octet.widths"], apart := false, laid := [("caravel/octet.widths", laid_caravel_octet_widths)] }
def OctetOrderSaid : Prop := octetOrderRow.holds Tryd.pinned (OpenSpec.ofChange octetOrderSpec)

/-- ITS FALSE NEIGHBOUR: 'it returns false'. Refute it at one input. -/
def octetOrderWrong : ChangeSpec := { name := "octetOrder", fn := fun _ => fun
  | [d1, d2] => { results := [.lit (.bool false)], args := [d1, d2] }
  | _ => none }
def OctetOrderWrongFalsely : Prop := octetOrderRow.holds Tryd.pinned (OpenSpec.ofChange octetOrderWrong)

/-- 'caravellaw01.OctetPuts': WHATEVER THE INPUT: true; the input reads as it did. -/
def octetPutsSpec : ChangeSpec := { name := "octetPuts", fn := fun _ => fun
  | [d1, d2, d3] => { results := [.lit (.bool true)], args := [d1, d2, d3] }
  | _ => none }
def octetPutsRow : OpenClaim := { program := "ytpilpgdlgkndmaadoor", sum := "f5c78055c16edb3396f94e35539388a60476280ec4eeae2640c1b0bf33c0f803", func := "caravel/caravellaw01.OctetPuts", spec := "octetPuts", named := ["caravel/octet.widths"], apart := false, laid := [("caravel/octet.widths", laid_caravel_octet_widths)] }
def OctetPutsSaid : Prop := octetPutsRow.holds Tryd.pinned (OpenSpec.ofChange octetPutsSpec)

/-- ITS FALSE NEIGHBOUR: 'it returns false'. Refute it at one input. -/
def octetPutsWrong : ChangeSpec := { name := "octetPuts", fn := fun _ => fun
  | [d1, d2, d3] => { results := [.lit (.bool false)], args := [d1, d2, d3] }
  | _ => none }
def OctetPutsWrongFalsely : Prop := octetPutsRow.holds Tryd.pinned (OpenSpec.ofChange octetPutsWrong)

/-- 'caravellaw01.OctetBack': WHATEVER THE INPUT: true; the input reads as it did. -/
def octetBackSpec : ChangeSpec := { name := "octetBack", fn := fun _ => fun
  | [d1, d2] => { results := [.lit (.bool true)], args := [d1, d2] }
  | _ => none }
def octetBackRow : OpenClaim := { program := "ytpilpgdlgkndmaadoor", sum := "f5c78055c16edb3396f94e35539388a60476280ec4eeae2640c1b0bf33c0f803", func := "caravel/caravellaw01.OctetBack", spec := "octetBack", named := ["caravel/octet.widths"], apart := false, laid := [("caravel/octet.widths", laid_caravel_octet_widths)] }
def OctetBackSaid : Prop := octetBackRow.holds Tryd.pinned (OpenSpec.ofChange octetBackSpec)

/-- ITS FALSE NEIGHBOUR: 'it returns false'. Refute it at one input. -/
def octetBackWrong : ChangeSpec := { name := "octetBack", fn := fun _ => fun
  | [d1, d2] => { results := [.lit (.bool false)], args := [d1, d2] }
  | _ => none }
def OctetBackWrongFalsely : Prop := octetBackRow.holds Tryd.pinned (OpenSpec.ofChange octetBackWrong)

/-- 'caravellaw03.ParamsPut': WHATEVER THE INPUT: true; the input reads as it did. -/
def paramsPutSpec : ChangeSpec := { name := "paramsPut", fn := fun _ => fun
  | [d1, d2] => { results := [.lit (.bool true)], args := [d1, d2] }
  | _ => none }
def paramsPutRow : OpenClaim := { program := "ytpilpgdlgkndmaadoor", sum := "f5c78055c16edb3396f94e35539388a60476280ec4eeae2640c1b0bf33c0f803", func := "caravel/caravellaw03.ParamsPut", spec := "paramsPut", unfollowed := true, recurses := true, named := ["caravel/octet.widths"], apart := false, laid := [("caravel/octet.widths", laid_caravel_octet_widths)] }
def ParamsPutSaid : Prop := paramsPutRow.holds Tryd.pinned (OpenSpec.ofChange paramsPutSpec)

/-- ITS FALSE NEIGHBOUR: 'it returns false'. Refute it at one input. -/
def paramsPutWrong : ChangeSpec := { name := "paramsPut", fn := fun _ => fun
  | [d1, d2] => { results := [.lit (.bool false)], args := [d1, d2] }
  | _ => none }
def ParamsPutWrongFalsely : Prop := paramsPutRow.holds Tryd.pinned (OpenSpec.ofChange paramsPutWrong)

/- THE SECOND FORM. 'bulk': how many values and letters a reading holds, each counted each time it is reached (what is shared counts as often as it is met; a slice's spare places count too). A statement '..UptoSaid' is the law's where the arguments, and the package variables that the reading takes, are together of bulk at most 1048576: NARROWER than '..Said'. Prove '..Said' where nothing that the law and all that it calls make is longer than what came in: it says more and counts as full. Else prove '..UptoSaid'. A law counts once. -/
mutual
def uptoBulk {H : Type} : DataW H → Nat
  | .lit (.string bytes) => bytes.length + 1
  | .lit _ => 1
  | .nil => 1
  | .ptr d => uptoBulk d + 1
  | .slice elems spare => uptoBulkAll elems + uptoBulkAll spare + 1
  | .agg parts => uptoBulkAll parts + 1
  | .iface _ d => uptoBulk d + 1
  | .map entries => uptoBulkEntries entries + 1
  | .held _ => 1
def uptoBulkAll {H : Type} : List (DataW H) → Nat
  | [] => 0
  | d :: r => uptoBulk d + uptoBulkAll r
def uptoBulkEntries {H : Type} : List (Lit × DataW H) → Nat
  | [] => 0
  | x :: r => uptoBulkEntry x + uptoBulkEntries r
def uptoBulkEntry {H : Type} : Lit × DataW H → Nat
  | (.string bytes, d) => bytes.length + uptoBulk d + 1
  | (_, d) => uptoBulk d + 1
 end
def uptoSmall : (H : Type) → List (DataW H) → Bool := fun _ ds => decide (uptoBulkAll ds ≤ 1048576)
def OpenSpec.upto (s : _root_.Go.ChangeSpec) : _root_.Go.OpenSpec := { _root_.Go.OpenSpec.ofChange s with cond := some uptoSmall }

/-- 'caravellaw01.OctetReads', WHERE WHAT IT READS IS OF BULK AT MOST 1048576: true; the input reads as it did. -/
def octetReadsUptoRow : OpenClaim := { program := "ytpilpgdlgkndmaadoor", sum := "f5c78055c16edb3396f94e35539388a60476280ec4eeae2640c1b0bf33c0f803", func := "caravel/caravellaw01.OctetReads", spec := "octetReads", named := ["caravel/octet.widths"], apart := false, laid := [("caravel/octet.widths", laid_caravel_octet_widths)], narrowed := true }
def OctetReadsUptoSaid : Prop := octetReadsUptoRow.holds Tryd.pinned (OpenSpec.upto octetReadsSpec)

/-- 'caravellaw01.OctetOrder', WHERE WHAT IT READS IS OF BULK AT MOST 1048576: true; the input reads as it did. -/
def octetOrderUptoRow : OpenClaim := { program := "ytpilpgdlgkndmaadoor", sum := "f5c78055c16edb3396f94e35539388a60476280ec4eeae2640c1b0bf33c0f803", func := "caravel/caravellaw01.OctetOrder", spec := "octetOrder", named := ["caravel/octet.widths"], apart := false, laid := [("caravel/octet.widths", laid_caravel_octet_widths)], narrowed := true }
def OctetOrderUptoSaid : Prop := octetOrderUptoRow.holds Tryd.pinned (OpenSpec.upto octetOrderSpec)

/-- 'caravellaw01.OctetPuts', WHERE WHAT IT READS IS OF BULK AT MOST 1048576: true; the input reads as it did. -/
def octetPutsUptoRow : OpenClaim := { program := "ytpilpgdlgkndmaadoor", sum := "f5c78055c16edb3396f94e35539388a60476280ec4eeae2640c1b0bf33c0f803", func := "caravel/caravellaw01.OctetPuts", spec := "octetPuts", named := ["caravel/octet.widths"], apart := false, laid := [("caravel/octet.widths", laid_caravel_octet_widths)], narrowed := true }
def OctetPutsUptoSaid : Prop := octetPutsUptoRow.holds Tryd.pinned (OpenSpec.upto octetPutsSpec)

/-- 'caravellaw01.OctetBack', WHERE WHAT IT READS IS OF BULK AT MOST 1048576: true; the input reads as it did. -/
def octetBackUptoRow : OpenClaim := { program := "ytpilpgdlgkndmaadoor", sum := "f5c78055c16edb3396f94e35539388a60476280ec4eeae2640c1b0bf33c0f803", func := "caravel/caravellaw01.OctetBack", spec := "octetBack", named := ["caravel/octet.widths"], apart := false, laid := [("caravel/octet.widths", laid_caravel_octet_widths)], narrowed := true }
def OctetBackUptoSaid : Prop := octetBackUptoRow.holds Tryd.pinned (OpenSpec.upto octetBackSpec)

/-- 'caravellaw03.ParamsPut', WHERE WHAT IT READS IS OF BULK AT MOST 1048576: true; the input reads as it did. -/
def paramsPutUptoRow : OpenClaim := { program := "ytpilpgdlgkndmaadoor", sum := "f5c78055c16edb3396f94e35539388a60476280ec4eeae2640c1b0bf33c0f803", func := "caravel/caravellaw03.ParamsPut", spec := "paramsPut", unfollowed := true, recurses := true, named := ["caravel/octet.widths"], apart := false, laid := [("caravel/octet.widths", laid_caravel_octet_widths)], narrowed := true }
def ParamsPutUptoSaid : Prop := paramsPutUptoRow.holds Tryd.pinned (OpenSpec.upto paramsPutSpec)

end Rows
end Go.Proofs.YtpilpgdlgkndmaaDoor
