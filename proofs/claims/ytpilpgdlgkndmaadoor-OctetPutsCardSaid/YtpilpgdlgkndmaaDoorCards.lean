/-
  DERIVED. GIVEN WITH THE SEED: THE CARDS: each row of YtpilpgdlgkndmaaDoorRows.lean that lists a variable, with what it lists TIED to the program's text (the seventh form; the later family's looks); each row that meets fmt, with fmt's text TOLD by the authors' own Lean function (tested against real Go, not proved from fmt's source: count such statements apart). THE CARD IS WHAT COUNTS. Prove the row's statement (the work); the ties are given (YtpilpgdlgkndmaaDoorTie.lean); close each card by the builder's one call (the guide's Derived/Test/ToyasCard.lean, 'card_holds'). Laid BY PROGRAM, IN A SANDBOX (cutbox-door.mjs). By AI agents, Wed Nov 11 2026. No macro, syntax, notation, axiom, sorry.
-/
import Derived.Test.YtpilpgdlgkndmaaDoorRows
import GoSem.ClaimSeven
namespace Go.Proofs.YtpilpgdlgkndmaaDoor
namespace Rows

/-- THE TIED CARD OF 'caravellaw01.OctetReads'. -/
def octetReadsCard : Claim7 := { stood := { row := octetReadsRow, standIns := [], harness := (true, "76bbc7b53ee3e80b2827ff83542e7ee75f8ff6beba8c32b722540c3543662a77"), looks := false }, kinds := [], alts := [], laidByText := true, laidKinds := [.data], laidTests := true, laidLooks := .later }
def OctetReadsCardSaid : Prop := Claim7.holds Tryd.pinned (.plain (OpenSpec.ofChange octetReadsSpec)) octetReadsCard

/-- THE TIED CARD OF 'caravellaw01.OctetOrder'. -/
def octetOrderCard : Claim7 := { stood := { row := octetOrderRow, standIns := [], harness := (true, "76bbc7b53ee3e80b2827ff83542e7ee75f8ff6beba8c32b722540c3543662a77"), looks := false }, kinds := [], alts := [], laidByText := true, laidKinds := [.data], laidTests := true, laidLooks := .later }
def OctetOrderCardSaid : Prop := Claim7.holds Tryd.pinned (.plain (OpenSpec.ofChange octetOrderSpec)) octetOrderCard

/-- THE TIED CARD OF 'caravellaw01.OctetPuts'. -/
def octetPutsCard : Claim7 := { stood := { row := octetPutsRow, standIns := [], harness := (true, "76bbc7b53ee3e80b2827ff83542e7ee75f8ff6beba8c32b722540c3543662a77"), looks := false }, kinds := [], alts := [], laidByText := true, laidKinds := [.data], laidTests := true, laidLooks := .later }
def OctetPutsCardSaid : Prop := Claim7.holds Tryd.pinned (.plain (OpenSpec.ofChange octetPutsSpec)) octetPutsCard

/-- THE TIED CARD OF 'caravellaw01.OctetBack'. -/
def octetBackCard : Claim7 := { stood := { row := octetBackRow, standIns := [], harness := (true, "76bbc7b53ee3e80b2827ff83542e7ee75f8ff6beba8c32b722540c3543662a77"), looks := false }, kinds := [], alts := [], laidByText := true, laidKinds := [.data], laidTests := true, laidLooks := .later }
def OctetBackCardSaid : Prop := Claim7.holds Tryd.pinned (.plain (OpenSpec.ofChange octetBackSpec)) octetBackCard

/-- THE TIED CARD OF 'caravellaw03.ParamsPut'. -/
def paramsPutCard : Claim7 := { stood := { row := paramsPutRow, standIns := [], harness := (true, "76bbc7b53ee3e80b2827ff83542e7ee75f8ff6beba8c32b722540c3543662a77"), looks := false }, kinds := [], alts := [], laidByText := true, laidKinds := [.data], laidTests := true, laidLooks := .later }
def ParamsPutCardSaid : Prop := Claim7.holds Tryd.pinned (.plain (OpenSpec.ofChange paramsPutSpec)) paramsPutCard

/-- THE SECOND FORM's CARD OF 'caravellaw01.OctetReads'. -/
def octetReadsUptoCard : Claim7 := { stood := { row := octetReadsUptoRow, standIns := [], harness := (true, "76bbc7b53ee3e80b2827ff83542e7ee75f8ff6beba8c32b722540c3543662a77"), looks := false }, kinds := [], alts := [], laidByText := true, laidKinds := [.data], laidTests := true, laidLooks := .later }
def OctetReadsUptoCardSaid : Prop := Claim7.holds Tryd.pinned (.plain (OpenSpec.upto octetReadsSpec)) octetReadsUptoCard

/-- THE SECOND FORM's CARD OF 'caravellaw01.OctetOrder'. -/
def octetOrderUptoCard : Claim7 := { stood := { row := octetOrderUptoRow, standIns := [], harness := (true, "76bbc7b53ee3e80b2827ff83542e7ee75f8ff6beba8c32b722540c3543662a77"), looks := false }, kinds := [], alts := [], laidByText := true, laidKinds := [.data], laidTests := true, laidLooks := .later }
def OctetOrderUptoCardSaid : Prop := Claim7.holds Tryd.pinned (.plain (OpenSpec.upto octetOrderSpec)) octetOrderUptoCard

/-- THE SECOND FORM's CARD OF 'caravellaw01.OctetPuts'. -/
def octetPutsUptoCard : Claim7 := { stood := { row := octetPutsUptoRow, standIns := [], harness := (true, "76bbc7b53ee3e80b2827ff83542e7ee75f8ff6beba8c32b722540c3543662a77"), looks := false }, kinds := [], alts := [], laidByText := true, laidKinds := [.data], laidTests := true, laidLooks := .later }
def OctetPutsUptoCardSaid : Prop := Claim7.holds Tryd.pinned (.plain (OpenSpec.upto octetPutsSpec)) octetPutsUptoCard

/-- THE SECOND FORM's CARD OF 'caravellaw01.OctetBack'. -/
def octetBackUptoCard : Claim7 := { stood := { row := octetBackUptoRow, standIns := [], harness := (true, "76bbc7b53ee3e80b2827ff83542e7ee75f8ff6beba8c32b722540c3543662a77"), looks := false }, kinds := [], alts := [], laidByText := true, laidKinds := [.data], laidTests := true, laidLooks := .later }
def OctetBackUptoCardSaid : Prop := Claim7.holds Tryd.pinned (.plain (OpenSpec.upto octetBackSpec)) octetBackUptoCard

/-- THE SECOND FORM's CARD OF 'caravellaw03.ParamsPut'. -/
def paramsPutUptoCard : Claim7 := { stood := { row := paramsPutUptoRow, standIns := [], harness := (true, "76bbc7b53ee3e80b2827ff83542e7ee75f8ff6beba8c32b722540c3543662a77"), looks := false }, kinds := [], alts := [], laidByText := true, laidKinds := [.data], laidTests := true, laidLooks := .later }
def ParamsPutUptoCardSaid : Prop := Claim7.holds Tryd.pinned (.plain (OpenSpec.upto paramsPutSpec)) paramsPutUptoCard
end Rows
end Go.Proofs.YtpilpgdlgkndmaaDoor
