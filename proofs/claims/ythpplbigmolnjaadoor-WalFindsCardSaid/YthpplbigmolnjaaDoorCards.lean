/-
  DERIVED. GIVEN WITH THE SEED: THE CARDS: each row of YthpplbigmolnjaaDoorRows.lean that lists a variable, with what it lists TIED to the program's text (the seventh form; the later family's looks); each row that meets fmt, with fmt's text TOLD by the authors' own Lean function (tested against real Go, not proved from fmt's source: count such statements apart). THE CARD IS WHAT COUNTS. Prove the row's statement (the work); the ties are given (YthpplbigmolnjaaDoorTie.lean); close each card by the builder's one call (the guide's Derived/Test/ToyasCard.lean, 'card_holds'). Laid BY PROGRAM, IN A SANDBOX (cutbox-door.mjs). By AI agents, Wed Nov 11 2026. No macro, syntax, notation, axiom, sorry.
-/
import Derived.Test.YthpplbigmolnjaaDoorRows
import GoSem.ClaimSeven
namespace Go.Proofs.YthpplbigmolnjaaDoor
namespace Rows

/-- THE TIED CARD OF 'towncrierlaw01.FaultDeeper'. -/
def faultDeeperCard : Claim7 := { stood := { row := faultDeeperRow, standIns := [], harness := (true, "2f5fda4e148467cd672b1a6d61aa19f0e0a67bc9776e6e8f3ded8347d9530d48"), looks := true }, kinds := [], alts := [], laidByText := true, laidKinds := [.handle, .sentinel, .sentinel, .sentinel, .sentinel, .sentinel, .sentinel, .sentinel], laidTests := true, laidLooks := .later }
def FaultDeeperCardSaid : Prop := Claim7.holds Tryd.pinned (.plain (OpenSpec.ofChange faultDeeperSpec)) faultDeeperCard

/-- THE TIED CARD OF 'towncrierlaw22.WalScans'. -/
def walScansCard : Claim7 := { stood := { row := walScansRow, standIns := [], harness := (true, "2f5fda4e148467cd672b1a6d61aa19f0e0a67bc9776e6e8f3ded8347d9530d48"), looks := true }, kinds := [], alts := [], laidByText := true, laidKinds := [.handle, .sentinel, .sentinel, .sentinel, .sentinel, .sentinel, .sentinel, .sentinel], laidTests := true, laidLooks := .later }
def WalScansCardSaid : Prop := Claim7.holds Tryd.pinned (.plain (OpenSpec.ofChange walScansSpec)) walScansCard

/-- THE TIED CARD OF 'towncrierlaw22.WalFinds'. -/
def walFindsCard : Claim7 := { stood := { row := walFindsRow, standIns := [], harness := (true, "2f5fda4e148467cd672b1a6d61aa19f0e0a67bc9776e6e8f3ded8347d9530d48"), looks := true }, kinds := [], alts := [], laidByText := true, laidKinds := [.handle, .sentinel, .sentinel, .sentinel, .sentinel, .sentinel, .sentinel, .sentinel], laidTests := true, laidLooks := .later }
def WalFindsCardSaid : Prop := Claim7.holds Tryd.pinned (.plain (OpenSpec.ofChange walFindsSpec)) walFindsCard

/-- THE TIED CARD OF 'towncrierlaw22.WalCrash'. -/
def walCrashCard : Claim7 := { stood := { row := walCrashRow, standIns := [], harness := (true, "2f5fda4e148467cd672b1a6d61aa19f0e0a67bc9776e6e8f3ded8347d9530d48"), looks := true }, kinds := [], alts := [], laidByText := true, laidKinds := [.handle, .sentinel, .sentinel, .sentinel, .sentinel, .sentinel, .sentinel, .sentinel], laidTests := true, laidLooks := .later }
def WalCrashCardSaid : Prop := Claim7.holds Tryd.pinned (.plain (OpenSpec.ofChange walCrashSpec)) walCrashCard

/-- THE TIED CARD OF 'towncrierlaw01.FaultIs'. -/
def faultIsCard : Claim7 := { stood := { row := faultIsRow, standIns := [], harness := (true, "2f5fda4e148467cd672b1a6d61aa19f0e0a67bc9776e6e8f3ded8347d9530d48"), looks := true }, kinds := [], alts := [], laidByText := true, laidKinds := [.data, .data, .data, .handle, .sentinel, .sentinel, .sentinel, .sentinel, .sentinel, .sentinel, .sentinel], laidTests := true, laidLooks := .later }
def FaultIsCardSaid : Prop := Claim7.holds Tryd.pinned (.plain (OpenSpec.ofChange faultIsSpec)) faultIsCard

/-- THE TIED CARD OF 'towncrierlaw01.FaultOthers'. -/
def faultOthersCard : Claim7 := { stood := { row := faultOthersRow, standIns := [], harness := (true, "2f5fda4e148467cd672b1a6d61aa19f0e0a67bc9776e6e8f3ded8347d9530d48"), looks := true }, kinds := [], alts := [], laidByText := true, laidKinds := [.data, .data, .data, .handle, .sentinel, .sentinel, .sentinel, .sentinel, .sentinel, .sentinel, .sentinel], laidTests := true, laidLooks := .later }
def FaultOthersCardSaid : Prop := Claim7.holds Tryd.pinned (.plain (OpenSpec.ofChange faultOthersSpec)) faultOthersCard

/-- THE SECOND FORM's CARD OF 'towncrierlaw01.FaultDeeper'. -/
def faultDeeperUptoCard : Claim7 := { stood := { row := faultDeeperUptoRow, standIns := [], harness := (true, "2f5fda4e148467cd672b1a6d61aa19f0e0a67bc9776e6e8f3ded8347d9530d48"), looks := true }, kinds := [], alts := [], laidByText := true, laidKinds := [.handle, .sentinel, .sentinel, .sentinel, .sentinel, .sentinel, .sentinel, .sentinel], laidTests := true, laidLooks := .later }
def FaultDeeperUptoCardSaid : Prop := Claim7.holds Tryd.pinned (.plain (OpenSpec.upto faultDeeperSpec)) faultDeeperUptoCard

/-- THE SECOND FORM's CARD OF 'towncrierlaw22.WalScans'. -/
def walScansUptoCard : Claim7 := { stood := { row := walScansUptoRow, standIns := [], harness := (true, "2f5fda4e148467cd672b1a6d61aa19f0e0a67bc9776e6e8f3ded8347d9530d48"), looks := true }, kinds := [], alts := [], laidByText := true, laidKinds := [.handle, .sentinel, .sentinel, .sentinel, .sentinel, .sentinel, .sentinel, .sentinel], laidTests := true, laidLooks := .later }
def WalScansUptoCardSaid : Prop := Claim7.holds Tryd.pinned (.plain (OpenSpec.upto walScansSpec)) walScansUptoCard

/-- THE SECOND FORM's CARD OF 'towncrierlaw22.WalFinds'. -/
def walFindsUptoCard : Claim7 := { stood := { row := walFindsUptoRow, standIns := [], harness := (true, "2f5fda4e148467cd672b1a6d61aa19f0e0a67bc9776e6e8f3ded8347d9530d48"), looks := true }, kinds := [], alts := [], laidByText := true, laidKinds := [.handle, .sentinel, .sentinel, .sentinel, .sentinel, .sentinel, .sentinel, .sentinel], laidTests := true, laidLooks := .later }
def WalFindsUptoCardSaid : Prop := Claim7.holds Tryd.pinned (.plain (OpenSpec.upto walFindsSpec)) walFindsUptoCard

/-- THE SECOND FORM's CARD OF 'towncrierlaw22.WalCrash'. -/
def walCrashUptoCard : Claim7 := { stood := { row := walCrashUptoRow, standIns := [], harness := (true, "2f5fda4e148467cd672b1a6d61aa19f0e0a67bc9776e6e8f3ded8347d9530d48"), looks := true }, kinds := [], alts := [], laidByText := true, laidKinds := [.handle, .sentinel, .sentinel, .sentinel, .sentinel, .sentinel, .sentinel, .sentinel], laidTests := true, laidLooks := .later }
def WalCrashUptoCardSaid : Prop := Claim7.holds Tryd.pinned (.plain (OpenSpec.upto walCrashSpec)) walCrashUptoCard

/-- THE SECOND FORM's CARD OF 'towncrierlaw01.FaultIs'. -/
def faultIsUptoCard : Claim7 := { stood := { row := faultIsUptoRow, standIns := [], harness := (true, "2f5fda4e148467cd672b1a6d61aa19f0e0a67bc9776e6e8f3ded8347d9530d48"), looks := true }, kinds := [], alts := [], laidByText := true, laidKinds := [.data, .data, .data, .handle, .sentinel, .sentinel, .sentinel, .sentinel, .sentinel, .sentinel, .sentinel], laidTests := true, laidLooks := .later }
def FaultIsUptoCardSaid : Prop := Claim7.holds Tryd.pinned (.plain (OpenSpec.upto faultIsSpec)) faultIsUptoCard

/-- THE SECOND FORM's CARD OF 'towncrierlaw01.FaultOthers'. -/
def faultOthersUptoCard : Claim7 := { stood := { row := faultOthersUptoRow, standIns := [], harness := (true, "2f5fda4e148467cd672b1a6d61aa19f0e0a67bc9776e6e8f3ded8347d9530d48"), looks := true }, kinds := [], alts := [], laidByText := true, laidKinds := [.data, .data, .data, .handle, .sentinel, .sentinel, .sentinel, .sentinel, .sentinel, .sentinel, .sentinel], laidTests := true, laidLooks := .later }
def FaultOthersUptoCardSaid : Prop := Claim7.holds Tryd.pinned (.plain (OpenSpec.upto faultOthersSpec)) faultOthersUptoCard
end Rows
end Go.Proofs.YthpplbigmolnjaaDoor
