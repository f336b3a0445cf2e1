/-
  NARROWER THAN 'FOR EVERY INPUT', by the rows' own cells (each row's printed sentence says how): FaultDeeper: laid · WalScans: laid · WalFinds: laid · WalCrash: laid · FaultIs: laid · FaultOthers: laid.
  DERIVED. THE GIVEN ROWS OF THIS SEAT. 6 by the template 'for every input the law returns true; each argument reads behind the call as it read before'; 0 by the template 'total and deterministic' (their statements: YthpplbigmolnjaaDoorTotals.lean).
  GIVEN WITH THE SEED: the statements are not yours to turn. If you find one false, say at which input.
  Laid BY PROGRAM, IN A SANDBOX (cutbox-rows.mjs): the forced cells as the released guide's own fill.sh prints them over the translation 0a1675836571e05b… (all of the seat's roots in one cut). By AI agents, Wed Nov 11 2026. No macro, syntax, notation, axiom, sorry.
-/
import Derived.Test.YthpplbigmolnjaaDoorChecked
import GoSem.Claim
import GoSem.ClaimJoined
import GoSem.ClaimMapViews
import Derived.JoinedTies
import Derived.KernelRfl
namespace Go.Proofs.YthpplbigmolnjaaDoor
/- THE CELL 'sum', in the pinned program and in every row, IS THE sha256 OF THE DUMP (.gsa) THAT YthpplbigmolnjaaDoorProg.lean LOADS. Nothing in Lean hashes anything: it is a label: what it is worth is what the hold of that sum in a sandbox is worth. -/
noncomputable def Tryd.pinned : Pinned := { name := "ythpplbigmolnjaadoor", sum := "0a1675836571e05bcda219d343ad67546b10e497dcdea3462baf57c7c9f9e7d3", checked := Tryd.checked }
namespace Rows
def none {H : Type} : Left H := { results := [], args := [] }

/- WHAT THE LISTED PACKAGE-LEVEL VARIABLES READ AS WHEN THE CALL BEGINS. Each datum BY PROGRAM (the guide's laid-datum.mjs) off the statement by which the dump's own 'gosem.cut.vars' lays the variable. In a bare row this is a premise. The card (YthpplbigmolnjaaDoorCards.lean) ties it to the program's text. -/
def laid_errors_errorType {H : Type} : DataW H := .iface "internal/reflectlite.rtype" (.agg [.ptr (.lit (.string [101, 114, 114, 111, 114]))])
def laid_towncrier_api_ErrShort {H : Type} : DataW H := .iface "*errors.errorString" (.ptr (.agg [.lit (.string [116, 111, 111, 32, 102, 101, 119, 32, 98, 121, 116, 101, 115])]))
def laid_towncrier_api_ErrMalformed {H : Type} : DataW H := .iface "*errors.errorString" (.ptr (.agg [.lit (.string [109, 97, 108, 102, 111, 114, 109, 101, 100])]))
def laid_towncrier_api_ErrProtocol {H : Type} : DataW H := .iface "*errors.errorString" (.ptr (.agg [.lit (.string [97, 103, 97, 105, 110, 115, 116, 32, 116, 104, 101, 32, 112, 114, 111, 116, 111, 99, 111, 108])]))
def laid_towncrier_api_ErrTooLarge {H : Type} : DataW H := .iface "*errors.errorString" (.ptr (.agg [.lit (.string [116, 111, 111, 32, 108, 97, 114, 103, 101])]))
def laid_towncrier_api_ErrQuota {H : Type} : DataW H := .iface "*errors.errorString" (.ptr (.agg [.lit (.string [110, 111, 32, 114, 111, 111, 109])]))
def laid_towncrier_api_ErrState {H : Type} : DataW H := .iface "*errors.errorString" (.ptr (.agg [.lit (.string [110, 111, 116, 32, 110, 111, 119])]))
def laid_towncrier_api_ErrArgument {H : Type} : DataW H := .iface "*errors.errorString" (.ptr (.agg [.lit (.string [110, 111, 32, 115, 117, 99, 104, 32, 116, 104, 105, 110, 103])]))
def laid_math_bits_deBruijn32tab {H : Type} : DataW H := .agg [.lit (.int .u8 0), .lit (.int .u8 1), .lit (.int .u8 28), .lit (.int .u8 2), .lit (.int .u8 29), .lit (.int .u8 14), .lit (.int .u8 24), .lit (.int .u8 3), .lit (.int .u8 30), .lit (.int .u8 22), .lit (.int .u8 20), .lit (.int .u8 15), .lit (.int .u8 25), .lit (.int .u8 17), .lit (.int .u8 4), .lit (.int .u8 8), .lit (.int .u8 31), .lit (.int .u8 27), .lit (.int .u8 13), .lit (.int .u8 23), .lit (.int .u8 21), .lit (.int .u8 19), .lit (.int .u8 16), .lit (.int .u8 7), .lit (.int .u8 26), .lit (.int .u8 12), .lit (.int .u8 18), .lit (.int .u8 6), .lit (.int .u8 11), .lit (.int .u8 5), .lit (.int .u8 10), .lit (.int .u8 9)]
def laid_math_bits_deBruijn64tab {H : Type} : DataW H := .agg [.lit (.int .u8 0), .lit (.int .u8 1), .lit (.int .u8 56), .lit (.int .u8 2), .lit (.int .u8 57), .lit (.int .u8 49), .lit (.int .u8 28), .lit (.int .u8 3), .lit (.int .u8 61), .lit (.int .u8 58), .lit (.int .u8 42), .lit (.int .u8 50), .lit (.int .u8 38), .lit (.int .u8 29), .lit (.int .u8 17), .lit (.int .u8 4), .lit (.int .u8 62), .lit (.int .u8 47), .lit (.int .u8 59), .lit (.int .u8 36), .lit (.int .u8 45), .lit (.int .u8 43), .lit (.int .u8 51), .lit (.int .u8 22), .lit (.int .u8 53), .lit (.int .u8 39), .lit (.int .u8 33), .lit (.int .u8 30), .lit (.int .u8 24), .lit (.int .u8 18), .lit (.int .u8 12), .lit (.int .u8 5), .lit (.int .u8 63), .lit (.int .u8 55), .lit (.int .u8 48), .lit (.int .u8 27), .lit (.int .u8 60), .lit (.int .u8 41), .lit (.int .u8 37), .lit (.int .u8 16), .lit (.int .u8 46), .lit (.int .u8 35), .lit (.int .u8 44), .lit (.int .u8 21), .lit (.int .u8 52), .lit (.int .u8 32), .lit (.int .u8 23), .lit (.int .u8 11), .lit (.int .u8 54), .lit (.int .u8 26), .lit (.int .u8 40), .lit (.int .u8 15), .lit (.int .u8 34), .lit (.int .u8 20), .lit (.int .u8 31), .lit (.int .u8 10), .lit (.int .u8 25), .lit (.int .u8 14), .lit (.int .u8 19), .lit (.int .u8 9), .lit (.int .u8 13), .lit (.int .u8 8), .lit (.int .u8 7), .lit (.int .u8 6)]
def laid_internal_strconv_uint64pow10 {H : Type} : DataW H := .agg [.lit (.int .u64 1), .lit (.int .u64 10), .lit (.int .u64 100), .lit (.int .u64 1000), .lit (.int .u64 10000), .lit (.int .u64 100000), .lit (.int .u64 1000000), .lit (.int .u64 10000000), .lit (.int .u64 100000000), .lit (.int .u64 1000000000), .lit (.int .u64 10000000000), .lit (.int .u64 100000000000), .lit (.int .u64 1000000000000), .lit (.int .u64 10000000000000), .lit (.int .u64 100000000000000), .lit (.int .u64 1000000000000000), .lit (.int .u64 10000000000000000), .lit (.int .u64 100000000000000000), .lit (.int .u64 1000000000000000000), .lit (.int .u64 10000000000000000000)]

/-- 'towncrierlaw01.FaultDeeper': WHATEVER THE INPUT: true; the input reads as it did. -/
def faultDeeperSpec : ChangeSpec := { name := "faultDeeper", fn := fun _ => fun
  | [d1, d2, d3] => { results := [.lit (.bool true)], args := [d1, d2, d3] }
  | _ => none }
def faultDeeperRow : OpenClaim := { program := "ythpplbigmolnjaadoor", sum := "0a1675836571e05bcda219d343ad67546b10e497dcdea3462baf57c7c9f9e7d3", func := "towncrier/towncrierlaw01.FaultDeeper", spec := "faultDeeper", inPlace := ["internal/reflectlite.ValueOf", "(internal/reflectlite.Value).Type", "(internal/reflectlite.Value).IsNil", "internal/reflectlite.TypeOf", "(internal/reflectlite.Value).Elem", "(internal/reflectlite.Value).Set"], unfollowed := true, recurses := true, named := ["towncrier/api.ErrShort", "towncrier/api.ErrMalformed", "towncrier/api.ErrProtocol", "towncrier/api.ErrTooLarge", "towncrier/api.ErrQuota", "towncrier/api.ErrState", "towncrier/api.ErrArgument", "errors.errorType"], apart := false, laid := [("errors.errorType", laid_errors_errorType), ("towncrier/api.ErrShort", laid_towncrier_api_ErrShort), ("towncrier/api.ErrMalformed", laid_towncrier_api_ErrMalformed), ("towncrier/api.ErrProtocol", laid_towncrier_api_ErrProtocol), ("towncrier/api.ErrTooLarge", laid_towncrier_api_ErrTooLarge), ("towncrier/api.ErrQuota", laid_towncrier_api_ErrQuota), ("towncrier/api.ErrState", laid_towncrier_api_ErrState), ("towncrier/api.ErrArgument", laid_towncrier_api_ErrArgument)] }
def FaultDeeperSaid : Prop := faultDeeperRow.holds Tryd.pinned (OpenSpec.ofChange faultDeeperSpec)

/-- ITS FALSE NEIGHBOUR: 'it returns false'. Refute it at one input. -/
def faultDeeperWrong : ChangeSpec := { name := "faultDeeper", fn := fun _ => fun
  | [d1, d2, d3] => { results := [.lit (.bool false)], args := [d1, d2, d3] }
  | _ => none }
def FaultDeeperWrongFalsely : Prop := faultDeeperRow.holds Tryd.pinned (OpenSpec.ofChange faultDeeperWrong)

/-- 'towncrierlaw22.WalScans': WHATEVER THE INPUT: true; the input reads as it did. -/
def walScansSpec : ChangeSpec := { name := "walScans", fn := fun _ => fun
  | [d1, d2] => { results := [.lit (.bool true)], args := [d1, d2] }
  | _ => none }
def walScansRow : OpenClaim := { program := "ythpplbigmolnjaadoor", sum := "0a1675836571e05bcda219d343ad67546b10e497dcdea3462baf57c7c9f9e7d3", func := "towncrier/towncrierlaw22.WalScans", spec := "walScans", inPlace := ["internal/reflectlite.TypeOf", "internal/reflectlite.ValueOf", "(internal/reflectlite.Value).Type", "(internal/reflectlite.Value).IsNil", "(internal/reflectlite.Value).Elem", "(internal/reflectlite.Value).Set"], unfollowed := true, recurses := true, named := ["towncrier/api.ErrTooLarge", "towncrier/api.ErrShort", "towncrier/api.ErrQuota", "towncrier/api.ErrMalformed", "towncrier/api.ErrProtocol", "towncrier/api.ErrState", "towncrier/api.ErrArgument", "errors.errorType"], apart := false, laid := [("errors.errorType", laid_errors_errorType), ("towncrier/api.ErrShort", laid_towncrier_api_ErrShort), ("towncrier/api.ErrMalformed", laid_towncrier_api_ErrMalformed), ("towncrier/api.ErrProtocol", laid_towncrier_api_ErrProtocol), ("towncrier/api.ErrTooLarge", laid_towncrier_api_ErrTooLarge), ("towncrier/api.ErrQuota", laid_towncrier_api_ErrQuota), ("towncrier/api.ErrState", laid_towncrier_api_ErrState), ("towncrier/api.ErrArgument", laid_towncrier_api_ErrArgument)] }
def WalScansSaid : Prop := walScansRow.holds Tryd.pinned (OpenSpec.ofChange walScansSpec)

/-- ITS FALSE NEIGHBOUR: 'it returns false'. Refute it at one input. -/
def walScansWrong : ChangeSpec := { name := "walScans", fn := fun _ => fun
  | [d1, d2] => { results := [.lit (.bool false)], args := [d1, d2] }
  | _ => none }
def WalScansWrongFalsely : Prop := walScansRow.holds Tryd.pinned (OpenSpec.ofChange walScansWrong)

/-- 'towncrierlaw22.WalFinds': WHATEVER THE INPUT: true; the input reads as it did. -/
def walFindsSpec : ChangeSpec := { name := "walFinds", fn := fun _ => fun
  | [d1, d2, d3] => { results := [.lit (.bool true)], args := [d1, d2, d3] }
  | _ => none }
def walFindsRow : OpenClaim := { program := "ythpplbigmolnjaadoor", sum := "0a1675836571e05bcda219d343ad67546b10e497dcdea3462baf57c7c9f9e7d3", func := "towncrier/towncrierlaw22.WalFinds", spec := "walFinds", inPlace := ["internal/reflectlite.TypeOf", "internal/reflectlite.ValueOf", "(internal/reflectlite.Value).Type", "(internal/reflectlite.Value).IsNil", "(internal/reflectlite.Value).Elem", "(internal/reflectlite.Value).Set"], unfollowed := true, recurses := true, named := ["towncrier/api.ErrTooLarge", "towncrier/api.ErrShort", "towncrier/api.ErrQuota", "towncrier/api.ErrMalformed", "towncrier/api.ErrProtocol", "towncrier/api.ErrState", "towncrier/api.ErrArgument", "errors.errorType"], apart := false, laid := [("errors.errorType", laid_errors_errorType), ("towncrier/api.ErrShort", laid_towncrier_api_ErrShort), ("towncrier/api.ErrMalformed", laid_towncrier_api_ErrMalformed), ("towncrier/api.ErrProtocol", laid_towncrier_api_ErrProtocol), ("towncrier/api.ErrTooLarge", laid_towncrier_api_ErrTooLarge), ("towncrier/api.ErrQuota", laid_towncrier_api_ErrQuota), ("towncrier/api.ErrState", laid_towncrier_api_ErrState), ("towncrier/api.ErrArgument", laid_towncrier_api_ErrArgument)] }
def WalFindsSaid : Prop := walFindsRow.holds Tryd.pinned (OpenSpec.ofChange walFindsSpec)

/-- ITS FALSE NEIGHBOUR: 'it returns false'. Refute it at one input. -/
def walFindsWrong : ChangeSpec := { name := "walFinds", fn := fun _ => fun
  | [d1, d2, d3] => { results := [.lit (.bool false)], args := [d1, d2, d3] }
  | _ => none }
def WalFindsWrongFalsely : Prop := walFindsRow.holds Tryd.pinned (OpenSpec.ofChange walFindsWrong)

/-- 'towncrierlaw22.WalCrash': WHATEVER THE INPUT: true; the input reads as it did. -/
def walCrashSpec : ChangeSpec := { name := "walCrash", fn := fun _ => fun
  | [d1, d2, d3] => { results := [.lit (.bool true)], args := [d1, d2, d3] }
  | _ => none }
def walCrashRow : OpenClaim := { program := "ythpplbigmolnjaadoor", sum := "0a1675836571e05bcda219d343ad67546b10e497dcdea3462baf57c7c9f9e7d3", func := "towncrier/towncrierlaw22.WalCrash", spec := "walCrash", inPlace := ["internal/reflectlite.TypeOf", "internal/reflectlite.ValueOf", "(internal/reflectlite.Value).Type", "(internal/reflectlite.Value).IsNil", "(internal/reflectlite.Value).Elem", "(internal/reflectlite.Value).Set"], unfollowed := true, recurses := true, named := ["towncrier/api.ErrTooLarge", "towncrier/api.ErrShort", "towncrier/api.ErrQuota", "towncrier/api.ErrMalformed", "towncrier/api.ErrProtocol", "towncrier/api.ErrState", "towncrier/api.ErrArgument", "errors.errorType"], apart := false, laid := [("errors.errorType", laid_errors_errorType), ("towncrier/api.ErrShort", laid_towncrier_api_ErrShort), ("towncrier/api.ErrMalformed", laid_towncrier_api_ErrMalformed), ("towncrier/api.ErrProtocol", laid_towncrier_api_ErrProtocol), ("towncrier/api.ErrTooLarge", laid_towncrier_api_ErrTooLarge), ("towncrier/api.ErrQuota", laid_towncrier_api_ErrQuota), ("towncrier/api.ErrState", laid_towncrier_api_ErrState), ("towncrier/api.ErrArgument", laid_towncrier_api_ErrArgument)] }
def WalCrashSaid : Prop := walCrashRow.holds Tryd.pinned (OpenSpec.ofChange walCrashSpec)

/-- ITS FALSE NEIGHBOUR: 'it returns false'. Refute it at one input. -/
def walCrashWrong : ChangeSpec := { name := "walCrash", fn := fun _ => fun
  | [d1, d2, d3] => { results := [.lit (.bool false)], args := [d1, d2, d3] }
  | _ => none }
def WalCrashWrongFalsely : Prop := walCrashRow.holds Tryd.pinned (OpenSpec.ofChange walCrashWrong)

/-- 'towncrierlaw01.FaultIs': WHATEVER THE INPUT: true; the input reads as it did. -/
def faultIsSpec : ChangeSpec := { name := "faultIs", fn := fun _ => fun
  | [d1, d2, d3] => { results := [.lit (.bool true)], args := [d1, d2, d3] }
  | _ => none }
def faultIsRow : OpenClaim := { program := "ythpplbigmolnjaadoor", sum := "0a1675836571e05bcda219d343ad67546b10e497dcdea3462baf57c7c9f9e7d3", func := "towncrier/towncrierlaw01.FaultIs", spec := "faultIs", inPlace := ["internal/reflectlite.ValueOf", "(internal/reflectlite.Value).Type", "(internal/reflectlite.Value).IsNil", "internal/reflectlite.TypeOf", "(internal/reflectlite.Value).Elem", "(internal/reflectlite.Value).Set"], unfollowed := true, recurses := true, named := ["towncrier/api.ErrShort", "towncrier/api.ErrMalformed", "towncrier/api.ErrProtocol", "towncrier/api.ErrTooLarge", "towncrier/api.ErrQuota", "towncrier/api.ErrState", "towncrier/api.ErrArgument", "errors.errorType", "internal/strconv.uint64pow10", "math/bits.deBruijn32tab", "math/bits.deBruijn64tab"], apart := false, laid := [("math/bits.deBruijn32tab", laid_math_bits_deBruijn32tab), ("math/bits.deBruijn64tab", laid_math_bits_deBruijn64tab), ("internal/strconv.uint64pow10", laid_internal_strconv_uint64pow10), ("errors.errorType", laid_errors_errorType), ("towncrier/api.ErrShort", laid_towncrier_api_ErrShort), ("towncrier/api.ErrMalformed", laid_towncrier_api_ErrMalformed), ("towncrier/api.ErrProtocol", laid_towncrier_api_ErrProtocol), ("towncrier/api.ErrTooLarge", laid_towncrier_api_ErrTooLarge), ("towncrier/api.ErrQuota", laid_towncrier_api_ErrQuota), ("towncrier/api.ErrState", laid_towncrier_api_ErrState), ("towncrier/api.ErrArgument", laid_towncrier_api_ErrArgument)] }
def FaultIsSaid : Prop := faultIsRow.holds Tryd.pinned (OpenSpec.ofChange faultIsSpec)

/-- ITS FALSE NEIGHBOUR: 'it returns false'. Refute it at one input. -/
def faultIsWrong : ChangeSpec := { name := "faultIs", fn := fun _ => fun
  | [d1, d2, d3] => { results := [.lit (.bool false)], args := [d1, d2, d3] }
  | _ => none }
def FaultIsWrongFalsely : Prop := faultIsRow.holds Tryd.pinned (OpenSpec.ofChange faultIsWrong)

/-- 'towncrierlaw01.FaultOthers': WHATEVER THE INPUT: true; the input reads as it did. -/
def faultOthersSpec : ChangeSpec := { name := "faultOthers", fn := fun _ => fun
  | [d] => { results := [.lit (.bool true)], args := [d] }
  | _ => none }
def faultOthersRow : OpenClaim := { program := "ythpplbigmolnjaadoor", sum := "0a1675836571e05bcda219d343ad67546b10e497dcdea3462baf57c7c9f9e7d3", func := "towncrier/towncrierlaw01.FaultOthers", spec := "faultOthers", inPlace := ["internal/reflectlite.ValueOf", "(internal/reflectlite.Value).Type", "(internal/reflectlite.Value).IsNil", "internal/reflectlite.TypeOf", "(internal/reflectlite.Value).Elem", "(internal/reflectlite.Value).Set"], unfollowed := true, recurses := true, named := ["towncrier/api.ErrMalformed", "errors.errorType", "towncrier/api.ErrShort", "towncrier/api.ErrProtocol", "towncrier/api.ErrTooLarge", "towncrier/api.ErrQuota", "towncrier/api.ErrState", "towncrier/api.ErrArgument", "internal/strconv.uint64pow10", "math/bits.deBruijn32tab", "math/bits.deBruijn64tab"], apart := false, laid := [("math/bits.deBruijn32tab", laid_math_bits_deBruijn32tab), ("math/bits.deBruijn64tab", laid_math_bits_deBruijn64tab), ("internal/strconv.uint64pow10", laid_internal_strconv_uint64pow10), ("errors.errorType", laid_errors_errorType), ("towncrier/api.ErrShort", laid_towncrier_api_ErrShort), ("towncrier/api.ErrMalformed", laid_towncrier_api_ErrMalformed), ("towncrier/api.ErrProtocol", laid_towncrier_api_ErrProtocol), ("towncrier/api.ErrTooLarge", laid_towncrier_api_ErrTooLarge), ("towncrier/api.ErrQuota", laid_towncrier_api_ErrQuota), ("towncrier/api.ErrState", laid_towncrier_api_ErrState), ("towncrier/api.ErrArgument", laid_towncrier_api_ErrArgument)] }
def FaultOthersSaid : Prop := faultOthersRow.holds Tryd.pinned (OpenSpec.ofChange faultOthersSpec)

/-- ITS FALSE NEIGHBOUR: 'it returns false'. Refute it at one input. -/
def faultOthersWrong : ChangeSpec := { name := "faultOthers", fn := fun _ => fun
  | [d] => { results := [.lit (.bool false)], args := [d] }
  | _ => none }
def FaultOthersWrongFalsely : Prop := faultOthersRow.holds Tryd.pinned (OpenSpec.ofChange faultOthersWrong)

/- THE SECOND FORM. 'bulk': how many values and letters a reading holds, each counted each time it is reached (what is shared counts as often as it is met; a slice's spare places count too). A statement '..UptoSaid' is the law's where the arguments, and the package variables that the reading takes, are together of bulk at most 1048576: NARROWER than '..Said'. Prove '..Said' where nothing that the law and all that it calls make is longer than what came in: it says more and counts as full. Else prove '..UptoSaid'. A law counts once. -/
mutual
def uptoBulk {H : Type} : DataW H → Nat
  | .lit (.string bytes) => bytes.length + 1
  | .lit _ => 1
  | .nil => 1
  | .ptr d => uptoBulk d + 1
  | .slice elems spare => uptoBulkAll elems + uptoBulkAll spare + 1
  | .agg parts => uptoBulkAll parts + 1
  | .iface _ d => uptoBulk d + 1
  | .map entries => uptoBulkEntries entries + 1
  | .held _ => 1
def uptoBulkAll {H : Type} : List (DataW H) → Nat
  | [] => 0
  | d :: r => uptoBulk d + uptoBulkAll r
def uptoBulkEntries {H : Type} : List (Lit × DataW H) → Nat
  | [] => 0
  | x :: r => uptoBulkEntry x + uptoBulkEntries r
def uptoBulkEntry {H : Type} : Lit × DataW H → Nat
  | (.string bytes, d) => bytes.length + uptoBulk d + 1
  | (_, d) => uptoBulk d + 1
 end
def uptoSmall : (H : Type) → List (DataW H) → Bool := fun _ ds => decide (uptoBulkAll ds ≤ 1048576)
def OpenSpec.upto (s : _root_.Go.ChangeSpec) : _root_.Go.OpenSpec := { _root_.Go.OpenSpec.ofChange s with cond := some uptoSmall }

/-- 'towncrierlaw01.FaultDeeper', WHERE WHAT IT READS IS OF BULK AT MOST 1048576: true; the input reads as it did. -/
def faultDeeperUptoRow : OpenClaim := { program := "ythpplbigmolnjaadoor", sum := "0a1675836571e05bcda219d343ad67546b10e497dcdea3462baf57c7c9f9e7d3", func := "towncrier/towncrierlaw01.FaultDeeper", spec := "faultDeeper", inPlace := ["internal/reflectlite.ValueOf", "(internal/reflectlite.Value).Type", "(internal/reflectlite.Value).IsNil", "internal/reflectlite.TypeOf", "(internal/reflectlite.Value).Elem", "(internal/reflectlite.Value).Set"], unfollowed := true, recurses := true, named := ["towncrier/api.ErrShort", "towncrier/api.ErrMalformed", "towncrier/api.ErrProtocol", "towncrier/api.ErrTooLarge", "towncrier/api.ErrQuota", "towncrier/api.ErrState", "towncrier/api.ErrArgument", "errors.errorType"], apart := false, laid := [("errors.errorType", laid_errors_errorType), ("towncrier/api.ErrShort", laid_towncrier_api_ErrShort), ("towncrier/api.ErrMalformed", laid_towncrier_api_ErrMalformed), ("towncrier/api.ErrProtocol", laid_towncrier_api_ErrProtocol), ("towncrier/api.ErrTooLarge", laid_towncrier_api_ErrTooLarge), ("towncrier/api.ErrQuota", laid_towncrier_api_ErrQuota), ("towncrier/api.ErrState", laid_towncrier_api_ErrState), ("towncrier/api.ErrArgument", laid_towncrier_api_ErrArgument)], narrowed := true }
def FaultDeeperUptoSaid : Prop := faultDeeperUptoRow.holds Tryd.pinned (OpenSpec.upto faultDeeperSpec)

/-- 'towncrierlaw22.WalScans', WHERE WHAT IT READS IS OF BULK AT MOST 1048576: true; the input reads as it did. -/
def walScansUptoRow : OpenClaim := { program := "ythpplbigmolnjaadoor", sum := "0a1675836571e05bcda219d343ad67546b10e497dcdea3462baf57c7c9f9e7d3", func := "towncrier/towncrierlaw22.WalScans", spec := "walScans", inPlace := ["internal/reflectlite.TypeOf", "internal/reflectlite.ValueOf", "(internal/reflectlite.Value).Type", "(internal/reflectlite.Value).IsNil", "(internal/reflectlite.Value).Elem", "(internal/reflectlite.Value).Set"], unfollowed := true, recurses := true, named := ["towncrier/api.ErrTooLarge", "towncrier/api.ErrShort", "towncrier/api.ErrQuota", "towncrier/api.ErrMalformed", "towncrier/api.ErrProtocol", "towncrier/api.ErrState", "towncrier/api.ErrArgument", "errors.errorType"], apart := false, laid := [("errors.errorType", laid_errors_errorType), ("towncrier/api.ErrShort", laid_towncrier_api_ErrShort), ("towncrier/api.ErrMalformed", laid_towncrier_api_ErrMalformed), ("towncrier/api.ErrProtocol", laid_towncrier_api_ErrProtocol), ("towncrier/api.ErrTooLarge", laid_towncrier_api_ErrTooLarge), ("towncrier/api.ErrQuota", laid_towncrier_api_ErrQuota), ("towncrier/api.ErrState", laid_towncrier_api_ErrState), ("towncrier/api.ErrArgument", laid_towncrier_api_ErrArgument)], narrowed := true }
def WalScansUptoSaid : Prop := walScansUptoRow.holds Tryd.pinned (OpenSpec.upto walScansSpec)

/-- 'towncrierlaw22.WalFinds', WHERE WHAT IT READS IS OF BULK AT MOST 1048576: true; the input reads as it did. -/
def walFindsUptoRow : OpenClaim := { program := "ythpplbigmolnjaadoor", sum := "0a1675836571e05bcda219d343ad67546b10e497dcdea3462baf57c7c9f9e7d3", func := "towncrier/towncrierlaw22.WalFinds", spec := "walFinds", inPlace := ["internal/reflectlite.TypeOf", "internal/reflectlite.ValueOf", "(internal/reflectlite.Value).Type", "(internal/reflectlite.Value).IsNil", "(internal/reflectlite.Value).Elem", "(internal/reflectlite.Value).Set"], unfollowed := true, recurses := true, named := ["towncrier/api.ErrTooLarge", "towncrier/api.ErrShort", "towncrier/api.ErrQuota", "towncrier/api.ErrMalformed", "towncrier/api.ErrProtocol", "towncrier/api.ErrState", "towncrier/api.ErrArgument", "errors.errorType"], apart := false, laid := [("errors.errorType", laid_errors_errorType), ("towncrier/api.ErrShort", laid_towncrier_api_ErrShort), ("towncrier/api.ErrMalformed", laid_towncrier_api_ErrMalformed), ("towncrier/api.ErrProtocol", laid_towncrier_api_ErrProtocol), ("towncrier/api.ErrTooLarge", laid_towncrier_api_ErrTooLarge), ("towncrier/api.ErrQuota", laid_towncrier_api_ErrQuota), ("towncrier/api.ErrState", laid_towncrier_api_ErrState), ("towncrier/api.ErrArgument", laid_towncrier_api_ErrArgument)], narrowed := true }
def WalFindsUptoSaid : Prop := walFindsUptoRow.holds Tryd.pinned (OpenSpec.upto walFindsSpec)

/-- 'towncrierlaw22.WalCrash', WHERE WHAT IT READS IS OF BULK AT MOST 1048576: true; the input reads as it did. -/
def walCrashUptoRow : OpenClaim := { program := "ythpplbigmolnjaadoor", sum := "0a1675836571e05bcda219d343ad67546b10e497dcdea3462baf57c7c9f9e7d3", func := "towncrier/towncrierlaw22.WalCrash", spec := "walCrash", inPlace := ["internal/reflectlite.TypeOf", "internal/reflectlite.ValueOf", "(internal/reflectlite.Value).Type", "(internal/reflectlite.Value).IsNil", "(internal/reflectlite.Value).Elem", "(internal/reflectlite.Value).Set"], unfollowed := true, recurses := true, named := ["towncrier/api.ErrTooLarge", "towncrier/api.ErrShort", "towncrier/api.ErrQuota", "towncrier/api.ErrMalformed", "towncrier/api.ErrProtocol", "towncrier/api.ErrState", "towncrier/api.ErrArgument", "errors.errorType"], apart := false, laid := [("errors.errorType", laid_errors_errorType), ("towncrier/api.ErrShort", laid_towncrier_api_ErrShort), ("towncrier/api.ErrMalformed", laid_towncrier_api_ErrMalformed), ("towncrier/api.ErrProtocol", laid_towncrier_api_ErrProtocol), ("towncrier/api.ErrTooLarge", laid_towncrier_api_ErrTooLarge), ("towncrier/api.ErrQuota", laid_towncrier_api_ErrQuota), ("towncrier/api.ErrState", laid_towncrier_api_ErrState), ("towncrier/api.ErrArgument", laid_towncrier_api_ErrArgument)], narrowed := true }
def WalCrashUptoSaid : Prop := walCrashUptoRow.holds Tryd.pinned (OpenSpec.upto walCrashSpec)

/-- 'towncrierlaw01.FaultIs', WHERE WHAT IT READS IS OF BULK AT MOST 1048576: true; the input reads as it did. -/
def faultIsUptoRow : OpenClaim := { program := "ythpplbigmolnjaadoor", sum := "0a1675836571e05bcda219d343ad67546b10e497dcdea3462baf57c7c9f9e7d3", func := "towncrier/towncrierlaw01.FaultIs", spec := "faultIs", inPlace := ["internal/reflectlite.ValueOf", "(internal/reflectlite.Value).Type", "(internal/reflectlite.Value).IsNil", "internal/reflectlite.TypeOf", "(internal/reflectlite.Value).Elem", "(internal/reflectlite.Value).Set"], unfollowed := true, recurses := true, named := ["towncrier/api.ErrShort", "towncrier/api.ErrMalformed", "towncrier/api.ErrProtocol", "towncrier/api.ErrTooLarge", "towncrier/api.ErrQuota", "towncrier/api.ErrState", "towncrier/api.ErrArgument", "errors.errorType", "internal/strconv.uint64pow10", "math/bits.deBruijn32tab", "math/bits.deBruijn64tab"], apart := false, laid := [("math/bits.deBruijn32tab", laid_math_bits_deBruijn32tab), ("math/bits.deBruijn64tab", laid_math_bits_deBruijn64tab), ("internal/strconv.uint64pow10", laid_internal_strconv_uint64pow10), ("errors.errorType", laid_errors_errorType), ("towncrier/api.ErrShort", laid_towncrier_api_ErrShort), ("towncrier/api.ErrMalformed", laid_towncrier_api_ErrMalformed), ("towncrier/api.ErrProtocol", laid_towncrier_api_ErrProtocol), ("towncrier/api.ErrTooLarge", laid_towncrier_api_ErrTooLarge), ("towncrier/api.ErrQuota", laid_towncrier_api_ErrQuota), ("towncrier/api.ErrState", laid_towncrier_api_ErrState), ("towncrier/api.ErrArgument", laid_towncrier_api_ErrArgument)], narrowed := true }
def FaultIsUptoSaid : Prop := faultIsUptoRow.holds Tryd.pinned (OpenSpec.upto faultIsSpec)

/-- 'towncrierlaw01.FaultOthers', WHERE WHAT IT READS IS OF BULK AT MOST 1048576: true; the input reads as it did. -/
def faultOthersUptoRow : OpenClaim := { program := "ythpplbigmolnjaadoor", sum := "0a1675836571e05bcda219d343ad67546b10e497dcdea3462baf57c7c9f9e7d3", func := "towncrier/towncrierlaw01.FaultOthers", spec := "faultOthers", inPlace := ["internal/reflectlite.ValueOf", "(internal/reflectlite.Value).Type", "(internal/reflectlite.Value).IsNil", "internal/reflectlite.TypeOf", "(internal/reflectlite.Value).Elem", "(internal/reflectlite.Value).Set"], unfollowed := true, recurses := true, named := ["towncrier/api.ErrMalformed", "errors.errorType", "towncrier/api.ErrShort", "towncrier/api.ErrProtocol", "towncrier/api.ErrTooLarge", "towncrier/api.ErrQuota", "towncrier/api.ErrState", "towncrier/api.ErrArgument", "internal/strconv.uint64pow10", "math/bits.deBruijn32tab", "math/bits.deBruijn64tab"], apart := false, laid := [("math/bits.deBruijn32tab", laid_math_bits_deBruijn32tab), ("math/bits.deBruijn64tab", laid_math_bits_deBruijn64tab), ("internal/strconv.uint64pow10", laid_internal_strconv_uint64pow10), ("errors.errorType", laid_errors_errorType), ("towncrier/api.ErrShort", laid_towncrier_api_ErrShort), ("towncrier/api.ErrMalformed", laid_towncrier_api_ErrMalformed), ("towncrier/api.ErrProtocol", laid_towncrier_api_ErrProtocol), ("towncrier/api.ErrTooLarge", laid_towncrier_api_ErrTooLarge), ("towncrier/api.ErrQuota", laid_towncrier_api_ErrQuota), ("towncrier/api.ErrState", laid_towncrier_api_ErrState), ("towncrier/api.ErrArgument", laid_towncrier_api_ErrArgument)], narrowed := true }
def FaultOthersUptoSaid : Prop := faultOthersUptoRow.holds Tryd.pinned (OpenSpec.upto faultOthersSpec)

end Rows
end Go.Proofs.YthpplbigmolnjaaDoor
