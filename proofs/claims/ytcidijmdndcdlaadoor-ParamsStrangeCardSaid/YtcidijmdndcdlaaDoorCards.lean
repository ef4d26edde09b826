/-
  DERIVED. GIVEN WITH THE SEED: THE CARDS: each row of YtcidijmdndcdlaaDoorRows.lean that lists a variable, with what it lists TIED to the program's text (the seventh form; the later family's looks); each row that meets fmt, with fmt's text TOLD by the authors' own Lean function (tested against real Go, not proved from fmt's source: count such statements apart). THE CARD IS WHAT COUNTS. Prove the row's statement (the work); the ties are given (YtcidijmdndcdlaaDoorTie.lean); close each card by the builder's one call (the guide's Derived/Test/ToyasCard.lean, 'card_holds'). Laid BY PROGRAM, IN A SANDBOX (cutbox-door.mjs). By AI agents, Wed Nov 11 2026. No macro, syntax, notation, axiom, sorry.
-/
import Derived.Test.YtcidijmdndcdlaaDoorRows
import GoSem.ClaimSeven
namespace Go.Proofs.YtcidijmdndcdlaaDoor
namespace Rows

/-- THE TIED CARD OF 'caravellaw03.ParamsBack'. -/
def paramsBackCard : Claim7 := { stood := { row := paramsBackRow, standIns := [], harness := (true, "0e8f53c19e5b32af23023827cd0224c62c9f13c92de694972dcbaa3b2f991f3d"), looks := true }, kinds := [], alts := [], laidByText := true, laidKinds := [.data], laidTests := true, laidLooks := .later }
def ParamsBackCardSaid : Prop := Claim7.holds Tryd.pinned (.plain (OpenSpec.ofChange paramsBackSpec)) paramsBackCard

/-- THE TIED CARD OF 'caravellaw03.ParamsStrange'. -/
def paramsStrangeCard : Claim7 := { stood := { row := paramsStrangeRow, standIns := [], harness := (true, "0e8f53c19e5b32af23023827cd0224c62c9f13c92de694972dcbaa3b2f991f3d"), looks := true }, kinds := [], alts := [], laidByText := true, laidKinds := [.data], laidTests := true, laidLooks := .later }
def ParamsStrangeCardSaid : Prop := Claim7.holds Tryd.pinned (.plain (OpenSpec.ofChange paramsStrangeSpec)) paramsStrangeCard

/-- THE TIED CARD OF 'caravellaw03.ParamsTurned'. -/
def paramsTurnedCard : Claim7 := { stood := { row := paramsTurnedRow, standIns := [], harness := (true, "0e8f53c19e5b32af23023827cd0224c62c9f13c92de694972dcbaa3b2f991f3d"), looks := true }, kinds := [], alts := [], laidByText := true, laidKinds := [.data], laidTests := true, laidLooks := .later }
def ParamsTurnedCardSaid : Prop := Claim7.holds Tryd.pinned (.plain (OpenSpec.ofChange paramsTurnedSpec)) paramsTurnedCard

/-- THE TIED CARD OF 'caravellaw03.ParamsPut'. -/
def paramsPutCard : Claim7 := { stood := { row := paramsPutRow, standIns := [], harness := (true, "0e8f53c19e5b32af23023827cd0224c62c9f13c92de694972dcbaa3b2f991f3d"), looks := true }, kinds := [], alts := [], laidByText := true, laidKinds := [.data], laidTests := true, laidLooks := .later }
def ParamsPutCardSaid : Prop := Claim7.holds Tryd.pinned (.plain (OpenSpec.ofChange paramsPutSpec)) paramsPutCard

/-- THE TIED CARD OF 'caravellaw03.ParamsRead'. -/
def paramsReadCard : Claim7 := { stood := { row := paramsReadRow, standIns := [], harness := (true, "0e8f53c19e5b32af23023827cd0224c62c9f13c92de694972dcbaa3b2f991f3d"), looks := true }, kinds := [], alts := [], laidByText := true, laidKinds := [.data], laidTests := true, laidLooks := .later }
def ParamsReadCardSaid : Prop := Claim7.holds Tryd.pinned (.plain (OpenSpec.ofChange paramsReadSpec)) paramsReadCard

/-- THE SECOND FORM's CARD OF 'caravellaw03.ParamsBack'. -/
def paramsBackUptoCard : Claim7 := { stood := { row := paramsBackUptoRow, standIns := [], harness := (true, "0e8f53c19e5b32af23023827cd0224c62c9f13c92de694972dcbaa3b2f991f3d"), looks := true }, kinds := [], alts := [], laidByText := true, laidKinds := [.data], laidTests := true, laidLooks := .later }
def ParamsBackUptoCardSaid : Prop := Claim7.holds Tryd.pinned (.plain (OpenSpec.upto paramsBackSpec)) paramsBackUptoCard

/-- THE SECOND FORM's CARD OF 'caravellaw03.ParamsStrange'. -/
def paramsStrangeUptoCard : Claim7 := { stood := { row := paramsStrangeUptoRow, standIns := [], harness := (true, "0e8f53c19e5b32af23023827cd0224c62c9f13c92de694972dcbaa3b2f991f3d"), looks := true }, kinds := [], alts := [], laidByText := true, laidKinds := [.data], laidTests := true, laidLooks := .later }
def ParamsStrangeUptoCardSaid : Prop := Claim7.holds Tryd.pinned (.plain (OpenSpec.upto paramsStrangeSpec)) paramsStrangeUptoCard

/-- THE SECOND FORM's CARD OF 'caravellaw03.ParamsTurned'. -/
def paramsTurnedUptoCard : Claim7 := { stood := { row := paramsTurnedUptoRow, standIns := [], harness := (true, "0e8f53c19e5b32af23023827cd0224c62c9f13c92de694972dcbaa3b2f991f3d"), looks := true }, kinds := [], alts := [], laidByText := true, laidKinds := [.data], laidTests := true, laidLooks := .later }
def ParamsTurnedUptoCardSaid : Prop := Claim7.holds Tryd.pinned (.plain (OpenSpec.upto paramsTurnedSpec)) paramsTurnedUptoCard

/-- THE SECOND FORM's CARD OF 'caravellaw03.ParamsPut'. -/
def paramsPutUptoCard : Claim7 := { stood := { row := paramsPutUptoRow, standIns := [], harness := (true, "0e8f53c19e5b32af23023827cd0224c62c9f13c92de694972dcbaa3b2f991f3d"), looks := true }, kinds := [], alts := [], laidByText := true, laidKinds := [.data], laidTests := true, laidLooks := .later }
def ParamsPutUptoCardSaid : Prop := Claim7.holds Tryd.pinned (.plain (OpenSpec.upto paramsPutSpec)) paramsPutUptoCard

/-- THE SECOND FORM's CARD OF 'caravellaw03.ParamsRead'. -/
def paramsReadUptoCard : Claim7 := { stood := { row := paramsReadUptoRow, standIns := [], harness := (true, "0e8f53c19e5b32af23023827cd0224c62c9f13c92de694972dcbaa3b2f991f3d"), looks := true }, kinds := [], alts := [], laidByText := true, laidKinds := [.data], laidTests := true, laidLooks := .later }
def ParamsReadUptoCardSaid : Prop := Claim7.holds Tryd.pinned (.plain (OpenSpec.upto paramsReadSpec)) paramsReadUptoCard
end Rows
end Go.Proofs.YtcidijmdndcdlaaDoor
