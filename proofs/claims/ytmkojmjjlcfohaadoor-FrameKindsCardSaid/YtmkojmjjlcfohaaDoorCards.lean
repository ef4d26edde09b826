/-
  DERIVED. GIVEN WITH THE SEED: THE CARDS: each row of YtmkojmjjlcfohaaDoorRows.lean that lists a variable, with what it lists TIED to the program's text (the seventh form; the later family's looks); each row that meets fmt, with fmt's text TOLD by the authors' own Lean function (tested against real Go, not proved from fmt's source: count such statements apart). THE CARD IS WHAT COUNTS. Prove the row's statement (the work); the ties are given (YtmkojmjjlcfohaaDoorTie.lean); close each card by the builder's one call (the guide's Derived/Test/ToyasCard.lean, 'card_holds'). Laid BY PROGRAM, IN A SANDBOX (cutbox-door.mjs). By AI agents, Wed Nov 11 2026. No macro, syntax, notation, axiom, sorry.
-/
import Derived.Test.YtmkojmjjlcfohaaDoorRows
import GoSem.ClaimSeven
namespace Go.Proofs.YtmkojmjjlcfohaaDoor
namespace Rows

/-- THE TIED CARD OF 'caravellaw03.ParamsRead'. -/
def paramsReadCard : Claim7 := { stood := { row := paramsReadRow, standIns := [], harness := (true, "c2c5595f53a803130aac9f5cccc1f8b5e8393c22c3bf7fa0334a6e109073c073"), looks := true }, kinds := [], alts := [], laidByText := true, laidKinds := [.data], laidTests := true, laidLooks := .later }
def ParamsReadCardSaid : Prop := Claim7.holds Tryd.pinned (.plain (OpenSpec.ofChange paramsReadSpec)) paramsReadCard

/-- THE TIED CARD OF 'caravellaw04.FrameKinds'. -/
def frameKindsCard : Claim7 := { stood := { row := frameKindsRow, standIns := [], harness := (true, "c2c5595f53a803130aac9f5cccc1f8b5e8393c22c3bf7fa0334a6e109073c073"), looks := true }, kinds := [], alts := [], laidByText := true, laidKinds := [.handle], laidTests := true, laidLooks := .later }
def FrameKindsCardSaid : Prop := Claim7.holds Tryd.pinned (.plain (OpenSpec.ofChange frameKindsSpec)) frameKindsCard

/-- THE TIED CARD OF 'caravellaw23.ConnidOwn'. -/
def connidOwnCard : Claim7 := { stood := { row := connidOwnRow, standIns := [], harness := (true, "c2c5595f53a803130aac9f5cccc1f8b5e8393c22c3bf7fa0334a6e109073c073"), looks := true }, kinds := [], alts := [], laidByText := true, laidKinds := [.handle], laidTests := true, laidLooks := .later }
def ConnidOwnCardSaid : Prop := Claim7.holds Tryd.pinned (.plain (OpenSpec.ofChange connidOwnSpec)) connidOwnCard

/-- THE SECOND FORM's CARD OF 'caravellaw03.ParamsRead'. -/
def paramsReadUptoCard : Claim7 := { stood := { row := paramsReadUptoRow, standIns := [], harness := (true, "c2c5595f53a803130aac9f5cccc1f8b5e8393c22c3bf7fa0334a6e109073c073"), looks := true }, kinds := [], alts := [], laidByText := true, laidKinds := [.data], laidTests := true, laidLooks := .later }
def ParamsReadUptoCardSaid : Prop := Claim7.holds Tryd.pinned (.plain (OpenSpec.upto paramsReadSpec)) paramsReadUptoCard

/-- THE SECOND FORM's CARD OF 'caravellaw04.FrameKinds'. -/
def frameKindsUptoCard : Claim7 := { stood := { row := frameKindsUptoRow, standIns := [], harness := (true, "c2c5595f53a803130aac9f5cccc1f8b5e8393c22c3bf7fa0334a6e109073c073"), looks := true }, kinds := [], alts := [], laidByText := true, laidKinds := [.handle], laidTests := true, laidLooks := .later }
def FrameKindsUptoCardSaid : Prop := Claim7.holds Tryd.pinned (.plain (OpenSpec.upto frameKindsSpec)) frameKindsUptoCard

/-- THE SECOND FORM's CARD OF 'caravellaw23.ConnidOwn'. -/
def connidOwnUptoCard : Claim7 := { stood := { row := connidOwnUptoRow, standIns := [], harness := (true, "c2c5595f53a803130aac9f5cccc1f8b5e8393c22c3bf7fa0334a6e109073c073"), looks := true }, kinds := [], alts := [], laidByText := true, laidKinds := [.handle], laidTests := true, laidLooks := .later }
def ConnidOwnUptoCardSaid : Prop := Claim7.holds Tryd.pinned (.plain (OpenSpec.upto connidOwnSpec)) connidOwnUptoCard
end Rows
end Go.Proofs.YtmkojmjjlcfohaaDoor
