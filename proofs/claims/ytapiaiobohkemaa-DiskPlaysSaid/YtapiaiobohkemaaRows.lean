/-
  No cell of these rows narrows 'for every input' (looked for: loops, veiled, ifaces, maps, wideKeys, modest, calm, conditions, laid).
  DERIVED. THE GIVEN ROWS OF THIS SEAT. 12 by the template 'for every input the law returns true; each argument reads behind the call as it read before'; 0 by the template 'total and deterministic' (their statements: YtapiaiobohkemaaTotals.lean).
  GIVEN WITH THE SEED: the statements are not yours to turn. If you find one false, say at which input.
  Laid BY PROGRAM, IN A SANDBOX (cutbox-rows.mjs): the forced cells as the released guide's own fill.sh prints them over the translation e9426c8b712fe3d3… (all of the seat's roots in one cut). By AI agents, Wed Nov 11 2026. No macro, syntax, notation, axiom, sorry.
-/
import Derived.Test.YtapiaiobohkemaaChecked
import GoSem.Claim
import GoSem.ClaimJoined
import GoSem.ClaimMapViews
import Derived.JoinedTies
import Derived.KernelRfl
namespace Go.Proofs.Ytapiaiobohkemaa
/- THE CELL 'sum', in the pinned program and in every row, IS THE sha256 OF THE DUMP (.gsa) THAT YtapiaiobohkemaaProg.lean LOADS. Nothing in Lean hashes anything: it is a label: what it is worth is what the hold of that sum in a sandbox is worth. -/
noncomputable def Try.pinned : Pinned := { name := "ytapiaiobohkemaa", sum := "e9426c8b712fe3d35fc905202f8d6e3577abb55c92b9a165cc3ea7be40300b45", checked := Try.checked }
namespace Rows
def none {H : Type} : Left H := { results := [], args := [] }

/-- 'towncrierlaw20.CrcIs': WHATEVER THE INPUT: true; the input reads as it did. -/
def crcIsSpec : ChangeSpec := { name := "crcIs", fn := fun _ => fun
  | [d1, d2] => { results := [.lit (.bool true)], args := [d1, d2] }
  | _ => none }
def crcIsRow : OpenClaim := { program := "ytapiaiobohkemaa", sum := "e9426c8b712fe3d35fc905202f8d6e3577abb55c92b9a165cc3ea7be40300b45", func := "towncrier/towncrierlaw20.CrcIs", spec := "crcIs", apart := false }
def CrcIsSaid : Prop := crcIsRow.holds Try.pinned (OpenSpec.ofChange crcIsSpec)

/-- ITS FALSE NEIGHBOUR: 'it returns false'. Refute it at one input. -/
def crcIsWrong : ChangeSpec := { name := "crcIs", fn := fun _ => fun
  | [d1, d2] => { results := [.lit (.bool false)], args := [d1, d2] }
  | _ => none }
def CrcIsWrongFalsely : Prop := crcIsRow.holds Try.pinned (OpenSpec.ofChange crcIsWrong)

/-- 'towncrierlaw20.CrcMore': WHATEVER THE INPUT: true; the input reads as it did. -/
def crcMoreSpec : ChangeSpec := { name := "crcMore", fn := fun _ => fun
  | [d1, d2] => { results := [.lit (.bool true)], args := [d1, d2] }
  | _ => none }
def crcMoreRow : OpenClaim := { program := "ytapiaiobohkemaa", sum := "e9426c8b712fe3d35fc905202f8d6e3577abb55c92b9a165cc3ea7be40300b45", func := "towncrier/towncrierlaw20.CrcMore", spec := "crcMore", apart := false }
def CrcMoreSaid : Prop := crcMoreRow.holds Try.pinned (OpenSpec.ofChange crcMoreSpec)

/-- ITS FALSE NEIGHBOUR: 'it returns false'. Refute it at one input. -/
def crcMoreWrong : ChangeSpec := { name := "crcMore", fn := fun _ => fun
  | [d1, d2] => { results := [.lit (.bool false)], args := [d1, d2] }
  | _ => none }
def CrcMoreWrongFalsely : Prop := crcMoreRow.holds Try.pinned (OpenSpec.ofChange crcMoreWrong)

/-- 'towncrierlaw20.CrcFinds': WHATEVER THE INPUT: true; the input reads as it did. -/
def crcFindsSpec : ChangeSpec := { name := "crcFinds", fn := fun _ => fun
  | [d1, d2, d3] => { results := [.lit (.bool true)], args := [d1, d2, d3] }
  | _ => none }
def crcFindsRow : OpenClaim := { program := "ytapiaiobohkemaa", sum := "e9426c8b712fe3d35fc905202f8d6e3577abb55c92b9a165cc3ea7be40300b45", func := "towncrier/towncrierlaw20.CrcFinds", spec := "crcFinds", apart := false }
def CrcFindsSaid : Prop := crcFindsRow.holds Try.pinned (OpenSpec.ofChange crcFindsSpec)

/-- ITS FALSE NEIGHBOUR: 'it returns false'. Refute it at one input. -/
def crcFindsWrong : ChangeSpec := { name := "crcFinds", fn := fun _ => fun
  | [d1, d2, d3] => { results := [.lit (.bool false)], args := [d1, d2, d3] }
  | _ => none }
def CrcFindsWrongFalsely : Prop := crcFindsRow.holds Try.pinned (OpenSpec.ofChange crcFindsWrong)

/-- 'towncrierlaw23.PidsPlays': WHATEVER THE INPUT: true; the input reads as it did. -/
def pidsPlaysSpec : ChangeSpec := { name := "pidsPlays", fn := fun _ => fun
  | [d1, d2] => { results := [.lit (.bool true)], args := [d1, d2] }
  | _ => none }
def pidsPlaysRow : OpenClaim := { program := "ytapiaiobohkemaa", sum := "e9426c8b712fe3d35fc905202f8d6e3577abb55c92b9a165cc3ea7be40300b45", func := "towncrier/towncrierlaw23.PidsPlays", spec := "pidsPlays", apart := false }
def PidsPlaysSaid : Prop := pidsPlaysRow.holds Try.pinned (OpenSpec.ofChange pidsPlaysSpec)

/-- ITS FALSE NEIGHBOUR: 'it returns false'. Refute it at one input. -/
def pidsPlaysWrong : ChangeSpec := { name := "pidsPlays", fn := fun _ => fun
  | [d1, d2] => { results := [.lit (.bool false)], args := [d1, d2] }
  | _ => none }
def PidsPlaysWrongFalsely : Prop := pidsPlaysRow.holds Try.pinned (OpenSpec.ofChange pidsPlaysWrong)

/-- 'towncrierlaw23.PidsFresh': WHATEVER THE INPUT: true; the input reads as it did. -/
def pidsFreshSpec : ChangeSpec := { name := "pidsFresh", fn := fun _ => fun
  | [d1, d2] => { results := [.lit (.bool true)], args := [d1, d2] }
  | _ => none }
def pidsFreshRow : OpenClaim := { program := "ytapiaiobohkemaa", sum := "e9426c8b712fe3d35fc905202f8d6e3577abb55c92b9a165cc3ea7be40300b45", func := "towncrier/towncrierlaw23.PidsFresh", spec := "pidsFresh", apart := false }
def PidsFreshSaid : Prop := pidsFreshRow.holds Try.pinned (OpenSpec.ofChange pidsFreshSpec)

/-- ITS FALSE NEIGHBOUR: 'it returns false'. Refute it at one input. -/
def pidsFreshWrong : ChangeSpec := { name := "pidsFresh", fn := fun _ => fun
  | [d1, d2] => { results := [.lit (.bool false)], args := [d1, d2] }
  | _ => none }
def PidsFreshWrongFalsely : Prop := pidsFreshRow.holds Try.pinned (OpenSpec.ofChange pidsFreshWrong)

/-- 'towncrierlaw23.PidsLast': WHATEVER THE INPUT: true; the input reads as it did. -/
def pidsLastSpec : ChangeSpec := { name := "pidsLast", fn := fun _ => fun
  | [d1, d2] => { results := [.lit (.bool true)], args := [d1, d2] }
  | _ => none }
def pidsLastRow : OpenClaim := { program := "ytapiaiobohkemaa", sum := "e9426c8b712fe3d35fc905202f8d6e3577abb55c92b9a165cc3ea7be40300b45", func := "towncrier/towncrierlaw23.PidsLast", spec := "pidsLast", apart := false }
def PidsLastSaid : Prop := pidsLastRow.holds Try.pinned (OpenSpec.ofChange pidsLastSpec)

/-- ITS FALSE NEIGHBOUR: 'it returns false'. Refute it at one input. -/
def pidsLastWrong : ChangeSpec := { name := "pidsLast", fn := fun _ => fun
  | [d1, d2] => { results := [.lit (.bool false)], args := [d1, d2] }
  | _ => none }
def PidsLastWrongFalsely : Prop := pidsLastRow.holds Try.pinned (OpenSpec.ofChange pidsLastWrong)

/-- 'towncrierlaw25.InPlays': WHATEVER THE INPUT: true; the input reads as it did. -/
def inPlaysSpec : ChangeSpec := { name := "inPlays", fn := fun _ => fun
  | [d1, d2] => { results := [.lit (.bool true)], args := [d1, d2] }
  | _ => none }
def inPlaysRow : OpenClaim := { program := "ytapiaiobohkemaa", sum := "e9426c8b712fe3d35fc905202f8d6e3577abb55c92b9a165cc3ea7be40300b45", func := "towncrier/towncrierlaw25.InPlays", spec := "inPlays", apart := false }
def InPlaysSaid : Prop := inPlaysRow.holds Try.pinned (OpenSpec.ofChange inPlaysSpec)

/-- ITS FALSE NEIGHBOUR: 'it returns false'. Refute it at one input. -/
def inPlaysWrong : ChangeSpec := { name := "inPlays", fn := fun _ => fun
  | [d1, d2] => { results := [.lit (.bool false)], args := [d1, d2] }
  | _ => none }
def InPlaysWrongFalsely : Prop := inPlaysRow.holds Try.pinned (OpenSpec.ofChange inPlaysWrong)

/-- 'towncrierlaw25.InOnce': WHATEVER THE INPUT: true; the input reads as it did. -/
def inOnceSpec : ChangeSpec := { name := "inOnce", fn := fun _ => fun
  | [d1, d2, d3] => { results := [.lit (.bool true)], args := [d1, d2, d3] }
  | _ => none }
def inOnceRow : OpenClaim := { program := "ytapiaiobohkemaa", sum := "e9426c8b712fe3d35fc905202f8d6e3577abb55c92b9a165cc3ea7be40300b45", func := "towncrier/towncrierlaw25.InOnce", spec := "inOnce", apart := false }
def InOnceSaid : Prop := inOnceRow.holds Try.pinned (OpenSpec.ofChange inOnceSpec)

/-- ITS FALSE NEIGHBOUR: 'it returns false'. Refute it at one input. -/
def inOnceWrong : ChangeSpec := { name := "inOnce", fn := fun _ => fun
  | [d1, d2, d3] => { results := [.lit (.bool false)], args := [d1, d2, d3] }
  | _ => none }
def InOnceWrongFalsely : Prop := inOnceRow.holds Try.pinned (OpenSpec.ofChange inOnceWrong)

/-- 'towncrierlaw25.InAnew': WHATEVER THE INPUT: true; the input reads as it did. -/
def inAnewSpec : ChangeSpec := { name := "inAnew", fn := fun _ => fun
  | [d1, d2, d3] => { results := [.lit (.bool true)], args := [d1, d2, d3] }
  | _ => none }
def inAnewRow : OpenClaim := { program := "ytapiaiobohkemaa", sum := "e9426c8b712fe3d35fc905202f8d6e3577abb55c92b9a165cc3ea7be40300b45", func := "towncrier/towncrierlaw25.InAnew", spec := "inAnew", apart := false }
def InAnewSaid : Prop := inAnewRow.holds Try.pinned (OpenSpec.ofChange inAnewSpec)

/-- ITS FALSE NEIGHBOUR: 'it returns false'. Refute it at one input. -/
def inAnewWrong : ChangeSpec := { name := "inAnew", fn := fun _ => fun
  | [d1, d2, d3] => { results := [.lit (.bool false)], args := [d1, d2, d3] }
  | _ => none }
def InAnewWrongFalsely : Prop := inAnewRow.holds Try.pinned (OpenSpec.ofChange inAnewWrong)

/-- 'towncrierlaw21.DiskPlays': WHATEVER THE INPUT: true; the input reads as it did. -/
def diskPlaysSpec : ChangeSpec := { name := "diskPlays", fn := fun _ => fun
  | [d1, d2] => { results := [.lit (.bool true)], args := [d1, d2] }
  | _ => none }
def diskPlaysRow : OpenClaim := { program := "ytapiaiobohkemaa", sum := "e9426c8b712fe3d35fc905202f8d6e3577abb55c92b9a165cc3ea7be40300b45", func := "towncrier/towncrierlaw21.DiskPlays", spec := "diskPlays", apart := false }
def DiskPlaysSaid : Prop := diskPlaysRow.holds Try.pinned (OpenSpec.ofChange diskPlaysSpec)

/-- ITS FALSE NEIGHBOUR: 'it returns false'. Refute it at one input. -/
def diskPlaysWrong : ChangeSpec := { name := "diskPlays", fn := fun _ => fun
  | [d1, d2] => { results := [.lit (.bool false)], args := [d1, d2] }
  | _ => none }
def DiskPlaysWrongFalsely : Prop := diskPlaysRow.holds Try.pinned (OpenSpec.ofChange diskPlaysWrong)

/-- 'towncrierlaw21.DiskSure': WHATEVER THE INPUT: true; the input reads as it did. -/
def diskSureSpec : ChangeSpec := { name := "diskSure", fn := fun _ => fun
  | [d1, d2] => { results := [.lit (.bool true)], args := [d1, d2] }
  | _ => none }
def diskSureRow : OpenClaim := { program := "ytapiaiobohkemaa", sum := "e9426c8b712fe3d35fc905202f8d6e3577abb55c92b9a165cc3ea7be40300b45", func := "towncrier/towncrierlaw21.DiskSure", spec := "diskSure", apart := false }
def DiskSureSaid : Prop := diskSureRow.holds Try.pinned (OpenSpec.ofChange diskSureSpec)

/-- ITS FALSE NEIGHBOUR: 'it returns false'. Refute it at one input. -/
def diskSureWrong : ChangeSpec := { name := "diskSure", fn := fun _ => fun
  | [d1, d2] => { results := [.lit (.bool false)], args := [d1, d2] }
  | _ => none }
def DiskSureWrongFalsely : Prop := diskSureRow.holds Try.pinned (OpenSpec.ofChange diskSureWrong)

/-- 'towncrierlaw21.DiskSwap': WHATEVER THE INPUT: true; the input reads as it did. -/
def diskSwapSpec : ChangeSpec := { name := "diskSwap", fn := fun _ => fun
  | [d1, d2, d3] => { results := [.lit (.bool true)], args := [d1, d2, d3] }
  | _ => none }
def diskSwapRow : OpenClaim := { program := "ytapiaiobohkemaa", sum := "e9426c8b712fe3d35fc905202f8d6e3577abb55c92b9a165cc3ea7be40300b45", func := "towncrier/towncrierlaw21.DiskSwap", spec := "diskSwap", apart := false }
def DiskSwapSaid : Prop := diskSwapRow.holds Try.pinned (OpenSpec.ofChange diskSwapSpec)

/-- ITS FALSE NEIGHBOUR: 'it returns false'. Refute it at one input. -/
def diskSwapWrong : ChangeSpec := { name := "diskSwap", fn := fun _ => fun
  | [d1, d2, d3] => { results := [.lit (.bool false)], args := [d1, d2, d3] }
  | _ => none }
def DiskSwapWrongFalsely : Prop := diskSwapRow.holds Try.pinned (OpenSpec.ofChange diskSwapWrong)

/- THE SECOND FORM. 'bulk': how many values and letters a reading holds, each counted each time it is reached (what is shared counts as often as it is met; a slice's spare places count too). A statement '..UptoSaid' is the law's where the arguments, and the package variables that the reading takes, are together of bulk at most 1048576: NARROWER than '..Said'. Prove '..Said' where nothing that the law and all that it calls make is longer than what came in: it says more and counts as full. Else prove '..UptoSaid'. A law counts once. -/
mutual
def uptoBulk {H : Type} : DataW H → Nat
  | .lit (.string bytes) => bytes.length + 1
  | .lit _ => 1
  | .nil => 1
  | .ptr d => uptoBulk d + 1
  | .slice elems spare => uptoBulkAll elems + uptoBulkAll spare + 1
  | .agg parts => uptoBulkAll parts + 1
  | .iface _ d => uptoBulk d + 1
  | .map entries => uptoBulkEntries entries + 1
  | .held _ => 1
def uptoBulkAll {H : Type} : List (DataW H) → Nat
  | [] => 0
  | d :: r => uptoBulk d + uptoBulkAll r
def uptoBulkEntries {H : Type} : List (Lit × DataW H) → Nat
  | [] => 0
  | x :: r => uptoBulkEntry x + uptoBulkEntries r
def uptoBulkEntry {H : Type} : Lit × DataW H → Nat
  | (.string bytes, d) => bytes.length + uptoBulk d + 1
  | (_, d) => uptoBulk d + 1
 end
def uptoSmall : (H : Type) → List (DataW H) → Bool := fun _ ds => decide (uptoBulkAll ds ≤ 1048576)
def OpenSpec.upto (s : _root_.Go.ChangeSpec) : _root_.Go.OpenSpec := { _root_.Go.OpenSpec.ofChange s with cond := some uptoSmall }

/-- 'towncrierlaw20.CrcIs', WHERE WHAT IT READS IS OF BULK AT MOST 1048576: true; the input reads as it did. -/
def crcIsUptoRow : OpenClaim := { program := "ytapiaiobohkemaa", sum := "e9426c8b712fe3d35fc905202f8d6e3577abb55c92b9a165cc3ea7be40300b45", func := "towncrier/towncrierlaw20.CrcIs", spec := "crcIs", apart := false, narrowed := true }
def CrcIsUptoSaid : Prop := crcIsUptoRow.holds Try.pinned (OpenSpec.upto crcIsSpec)

/-- 'towncrierlaw20.CrcMore', WHERE WHAT IT READS IS OF BULK AT MOST 1048576: true; the input reads as it did. -/
def crcMoreUptoRow : OpenClaim := { program := "ytapiaiobohkemaa", sum := "e9426c8b712fe3d35fc905202f8d6e3577abb55c92b9a165cc3ea7be40300b45", func := "towncrier/towncrierlaw20.CrcMore", spec := "crcMore", apart := false, narrowed := true }
def CrcMoreUptoSaid : Prop := crcMoreUptoRow.holds Try.pinned (OpenSpec.upto crcMoreSpec)

/-- 'towncrierlaw20.CrcFinds', WHERE WHAT IT READS IS OF BULK AT MOST 1048576: true; the input reads as it did. -/
def crcFindsUptoRow : OpenClaim := { program := "ytapiaiobohkemaa", sum := "e9426c8b712fe3d35fc905202f8d6e3577abb55c92b9a165cc3ea7be40300b45", func := "towncrier/towncrierlaw20.CrcFinds", spec := "crcFinds", apart := false, narrowed := true }
def CrcFindsUptoSaid : Prop := crcFindsUptoRow.holds Try.pinned (OpenSpec.upto crcFindsSpec)

/-- 'towncrierlaw23.PidsPlays', WHERE WHAT IT READS IS OF BULK AT MOST 1048576: true; the input reads as it did. -/
def pidsPlaysUptoRow : OpenClaim := { program := "ytapiaiobohkemaa", sum := "e9426c8b712fe3d35fc905202f8d6e3577abb55c92b9a165cc3ea7be40300b45", func := "towncrier/towncrierlaw23.PidsPlays", spec := "pidsPlays", apart := false, narrowed := true }
def PidsPlaysUptoSaid : Prop := pidsPlaysUptoRow.holds Try.pinned (OpenSpec.upto pidsPlaysSpec)

/-- 'towncrierlaw23.PidsFresh', WHERE WHAT IT READS IS OF BULK AT MOST 1048576: true; the input reads as it did. -/
def pidsFreshUptoRow : OpenClaim := { program := "ytapiaiobohkemaa", sum := "e9426c8b712fe3d35fc905202f8d6e3577abb55c92b9a165cc3ea7be40300b45", func := "towncrier/towncrierlaw23.PidsFresh", spec := "pidsFresh", apart := false, narrowed := true }
def PidsFreshUptoSaid : Prop := pidsFreshUptoRow.holds Try.pinned (OpenSpec.upto pidsFreshSpec)

/-- 'towncrierlaw23.PidsLast', WHERE WHAT IT READS IS OF BULK AT MOST 1048576: true; the input reads as it did. -/
def pidsLastUptoRow : OpenClaim := { program := "ytapiaiobohkemaa", sum := "e9426c8b712fe3d35fc905202f8d6e3577abb55c92b9a165cc3ea7be40300b45", func := "towncrier/towncrierlaw23.PidsLast", spec := "pidsLast", apart := false, narrowed := true }
def PidsLastUptoSaid : Prop := pidsLastUptoRow.holds Try.pinned (OpenSpec.upto pidsLastSpec)

/-- 'towncrierlaw25.InPlays', WHERE WHAT IT READS IS OF BULK AT MOST 1048576: true; the input reads as it did. -/
def inPlaysUptoRow : OpenClaim := { program := "ytapiaiobohkemaa", sum := "e9426c8b712fe3d35fc905202f8d6e3577abb55c92b9a165cc3ea7be40300b45", func := "towncrier/towncrierlaw25.InPlays", spec := "inPlays", apart := false, narrowed := true }
def InPlaysUptoSaid : Prop := inPlaysUptoRow.holds Try.pinned (OpenSpec.upto inPlaysSpec)

/-- 'towncrierlaw25.InOnce', WHERE WHAT IT READS IS OF BULK AT MOST 1048576: true; the input reads as it did. -/
def inOnceUptoRow : OpenClaim := { program := "ytapiaiobohkemaa", sum := "e9426c8b712fe3d35fc905202f8d6e3577abb55c92b9a165cc3ea7be40300b45", func := "towncrier/towncrierlaw25.InOnce", spec := "inOnce", apart := false, narrowed := true }
def InOnceUptoSaid : Prop := inOnceUptoRow.holds Try.pinned (OpenSpec.upto inOnceSpec)

/-- 'towncrierlaw25.InAnew', WHERE WHAT IT READS IS OF BULK AT MOST 1048576: true; the input reads as it did. -/
def inAnewUptoRow : OpenClaim := { program := "ytapiaiobohkemaa", sum := "e9426c8b712fe3d35fc905202f8d6e3577abb55c92b9a165cc3ea7be40300b45", func := "towncrier/towncrierlaw25.InAnew", spec := "inAnew", apart := false, narrowed := true }
def InAnewUptoSaid : Prop := inAnewUptoRow.holds Try.pinned (OpenSpec.upto inAnewSpec)

/-- 'towncrierlaw21.DiskPlays', WHERE WHAT IT READS IS OF BULK AT MOST 1048576: true; the input reads as it did. -/
def diskPlaysUptoRow : OpenClaim := { program := "ytapiaiobohkemaa", sum := "e9426c8b712fe3d35fc905202f8d6e3577abb55c92b9a165cc3ea7be40300b45", func := "towncrier/towncrierlaw21.DiskPlays", spec := "diskPlays", apart := false, narrowed := true }
def DiskPlaysUptoSaid : Prop := diskPlaysUptoRow.holds Try.pinned (OpenSpec.upto diskPlaysSpec)

/-- 'towncrierlaw21.DiskSure', WHERE WHAT IT READS IS OF BULK AT MOST 1048576: true; the input reads as it did. -/
def diskSureUptoRow : OpenClaim := { program := "ytapiaiobohkemaa", sum := "e9426c8b712fe3d35fc905202f8d6e3577abb55c92b9a165cc3ea7be40300b45", func := "towncrier/towncrierlaw21.DiskSure", spec := "diskSure", apart := false, narrowed := true }
def DiskSureUptoSaid : Prop := diskSureUptoRow.holds Try.pinned (OpenSpec.upto diskSureSpec)

/-- 'towncrierlaw21.DiskSwap', WHERE WHAT IT READS IS OF BULK AT MOST 1048576: true; the input reads as it did. -/
def diskSwapUptoRow : OpenClaim := { program := "ytapiaiobohkemaa", sum := "e9426c8b712fe3d35fc905202f8d6e3577abb55c92b9a165cc3ea7be40300b45", func := "towncrier/towncrierlaw21.DiskSwap", spec := "diskSwap", apart := false, narrowed := true }
def DiskSwapUptoSaid : Prop := diskSwapUptoRow.holds Try.pinned (OpenSpec.upto diskSwapSpec)

end Rows
end Go.Proofs.Ytapiaiobohkemaa
