/-
  No cell of these rows narrows 'for every input' (looked for: loops, veiled, ifaces, maps, wideKeys, modest, calm, conditions, laid).
  DERIVED. THE GIVEN ROWS OF THIS SEAT. 14 by the template 'for every input the law returns true; each argument reads behind the call as it read before'; 0 by the template 'total and deterministic' (their statements: YtclhgnlhejohgaaTotals.lean).
  GIVEN WITH THE SEED: the statements are not yours to turn. If you find one false, say at which input.
  Laid BY PROGRAM, IN A SANDBOX (cutbox-rows.mjs): the forced cells as the released guide's own fill.sh prints them over the translation 09e7b55bb0de45e5… (all of the seat's roots in one cut). By AI agents, Wed Nov 11 2026. No macro, syntax, notation, axiom, sorry.
-/
import Derived.Test.YtclhgnlhejohgaaChecked
import GoSem.Claim
import GoSem.ClaimJoined
import GoSem.ClaimMapViews
import Derived.JoinedTies
import Derived.KernelRfl
namespace Go.Proofs.Ytclhgnlhejohgaa
/- THE CELL 'sum', in the pinned program and in every row, IS THE sha256 OF THE DUMP (.gsa) THAT YtclhgnlhejohgaaProg.lean LOADS. Nothing in Lean hashes anything: it is a label: what it is worth is what the hold of that sum in a sandbox is worth. -/
noncomputable def Try.pinned : Pinned := { name := "ytclhgnlhejohgaa", sum := "09e7b55bb0de45e5ff9ef28c96bf28a39457b385c9a385a630e6c862be9fbe3e", checked := Try.checked }
namespace Rows
def none {H : Type} : Left H := { results := [], args := [] }

/-- 'towncrierlaw32.PickNumbers': WHATEVER THE INPUT: true; the input reads as it did. -/
def pickNumbersSpec : ChangeSpec := { name := "pickNumbers", fn := fun _ => fun
  | [d1, d2] => { results := [.lit (.bool true)], args := [d1, d2] }
  | _ => none }
def pickNumbersRow : OpenClaim := { program := "ytclhgnlhejohgaa", sum := "09e7b55bb0de45e5ff9ef28c96bf28a39457b385c9a385a630e6c862be9fbe3e", func := "towncrier/towncrierlaw32.PickNumbers", spec := "pickNumbers", unfollowed := true, recurses := true, apart := false }
def PickNumbersSaid : Prop := pickNumbersRow.holds Try.pinned (OpenSpec.ofChange pickNumbersSpec)

/-- ITS FALSE NEIGHBOUR: 'it returns false'. Refute it at one input. -/
def pickNumbersWrong : ChangeSpec := { name := "pickNumbers", fn := fun _ => fun
  | [d1, d2] => { results := [.lit (.bool false)], args := [d1, d2] }
  | _ => none }
def PickNumbersWrongFalsely : Prop := pickNumbersRow.holds Try.pinned (OpenSpec.ofChange pickNumbersWrong)

/-- 'towncrierlaw32.PickIs': WHATEVER THE INPUT: true; the input reads as it did. -/
def pickIsSpec : ChangeSpec := { name := "pickIs", fn := fun _ => fun
  | [d1, d2, d3] => { results := [.lit (.bool true)], args := [d1, d2, d3] }
  | _ => none }
def pickIsRow : OpenClaim := { program := "ytclhgnlhejohgaa", sum := "09e7b55bb0de45e5ff9ef28c96bf28a39457b385c9a385a630e6c862be9fbe3e", func := "towncrier/towncrierlaw32.PickIs", spec := "pickIs", unfollowed := true, recurses := true, apart := false }
def PickIsSaid : Prop := pickIsRow.holds Try.pinned (OpenSpec.ofChange pickIsSpec)

/-- ITS FALSE NEIGHBOUR: 'it returns false'. Refute it at one input. -/
def pickIsWrong : ChangeSpec := { name := "pickIs", fn := fun _ => fun
  | [d1, d2, d3] => { results := [.lit (.bool false)], args := [d1, d2, d3] }
  | _ => none }
def PickIsWrongFalsely : Prop := pickIsRow.holds Try.pinned (OpenSpec.ofChange pickIsWrong)

/-- 'towncrierlaw32.PickStays': WHATEVER THE INPUT: true; the input reads as it did. -/
def pickStaysSpec : ChangeSpec := { name := "pickStays", fn := fun _ => fun
  | [d1, d2, d3] => { results := [.lit (.bool true)], args := [d1, d2, d3] }
  | _ => none }
def pickStaysRow : OpenClaim := { program := "ytclhgnlhejohgaa", sum := "09e7b55bb0de45e5ff9ef28c96bf28a39457b385c9a385a630e6c862be9fbe3e", func := "towncrier/towncrierlaw32.PickStays", spec := "pickStays", unfollowed := true, recurses := true, apart := false }
def PickStaysSaid : Prop := pickStaysRow.holds Try.pinned (OpenSpec.ofChange pickStaysSpec)

/-- ITS FALSE NEIGHBOUR: 'it returns false'. Refute it at one input. -/
def pickStaysWrong : ChangeSpec := { name := "pickStays", fn := fun _ => fun
  | [d1, d2, d3] => { results := [.lit (.bool false)], args := [d1, d2, d3] }
  | _ => none }
def PickStaysWrongFalsely : Prop := pickStaysRow.holds Try.pinned (OpenSpec.ofChange pickStaysWrong)

/-- 'towncrierlaw32.PickTurns': WHATEVER THE INPUT: true; the input reads as it did. -/
def pickTurnsSpec : ChangeSpec := { name := "pickTurns", fn := fun _ => fun
  | [d1, d2, d3] => { results := [.lit (.bool true)], args := [d1, d2, d3] }
  | _ => none }
def pickTurnsRow : OpenClaim := { program := "ytclhgnlhejohgaa", sum := "09e7b55bb0de45e5ff9ef28c96bf28a39457b385c9a385a630e6c862be9fbe3e", func := "towncrier/towncrierlaw32.PickTurns", spec := "pickTurns", unfollowed := true, recurses := true, apart := false }
def PickTurnsSaid : Prop := pickTurnsRow.holds Try.pinned (OpenSpec.ofChange pickTurnsSpec)

/-- ITS FALSE NEIGHBOUR: 'it returns false'. Refute it at one input. -/
def pickTurnsWrong : ChangeSpec := { name := "pickTurns", fn := fun _ => fun
  | [d1, d2, d3] => { results := [.lit (.bool false)], args := [d1, d2, d3] }
  | _ => none }
def PickTurnsWrongFalsely : Prop := pickTurnsRow.holds Try.pinned (OpenSpec.ofChange pickTurnsWrong)

/-- 'towncrierlaw33.LaneIs': WHATEVER THE INPUT: true; the input reads as it did. -/
def laneIsSpec : ChangeSpec := { name := "laneIs", fn := fun _ => fun
  | [d1, d2, d3] => { results := [.lit (.bool true)], args := [d1, d2, d3] }
  | _ => none }
def laneIsRow : OpenClaim := { program := "ytclhgnlhejohgaa", sum := "09e7b55bb0de45e5ff9ef28c96bf28a39457b385c9a385a630e6c862be9fbe3e", func := "towncrier/towncrierlaw33.LaneIs", spec := "laneIs", apart := false }
def LaneIsSaid : Prop := laneIsRow.holds Try.pinned (OpenSpec.ofChange laneIsSpec)

/-- ITS FALSE NEIGHBOUR: 'it returns false'. Refute it at one input. -/
def laneIsWrong : ChangeSpec := { name := "laneIs", fn := fun _ => fun
  | [d1, d2, d3] => { results := [.lit (.bool false)], args := [d1, d2, d3] }
  | _ => none }
def LaneIsWrongFalsely : Prop := laneIsRow.holds Try.pinned (OpenSpec.ofChange laneIsWrong)

/-- 'towncrierlaw33.LaneOrder': WHATEVER THE INPUT: true; the input reads as it did. -/
def laneOrderSpec : ChangeSpec := { name := "laneOrder", fn := fun _ => fun
  | [d1, d2, d3] => { results := [.lit (.bool true)], args := [d1, d2, d3] }
  | _ => none }
def laneOrderRow : OpenClaim := { program := "ytclhgnlhejohgaa", sum := "09e7b55bb0de45e5ff9ef28c96bf28a39457b385c9a385a630e6c862be9fbe3e", func := "towncrier/towncrierlaw33.LaneOrder", spec := "laneOrder", apart := false }
def LaneOrderSaid : Prop := laneOrderRow.holds Try.pinned (OpenSpec.ofChange laneOrderSpec)

/-- ITS FALSE NEIGHBOUR: 'it returns false'. Refute it at one input. -/
def laneOrderWrong : ChangeSpec := { name := "laneOrder", fn := fun _ => fun
  | [d1, d2, d3] => { results := [.lit (.bool false)], args := [d1, d2, d3] }
  | _ => none }
def LaneOrderWrongFalsely : Prop := laneOrderRow.holds Try.pinned (OpenSpec.ofChange laneOrderWrong)

/-- 'towncrierlaw33.LaneMoves': WHATEVER THE INPUT: true; the input reads as it did. -/
def laneMovesSpec : ChangeSpec := { name := "laneMoves", fn := fun _ => fun
  | [d1, d2, d3] => { results := [.lit (.bool true)], args := [d1, d2, d3] }
  | _ => none }
def laneMovesRow : OpenClaim := { program := "ytclhgnlhejohgaa", sum := "09e7b55bb0de45e5ff9ef28c96bf28a39457b385c9a385a630e6c862be9fbe3e", func := "towncrier/towncrierlaw33.LaneMoves", spec := "laneMoves", apart := false }
def LaneMovesSaid : Prop := laneMovesRow.holds Try.pinned (OpenSpec.ofChange laneMovesSpec)

/-- ITS FALSE NEIGHBOUR: 'it returns false'. Refute it at one input. -/
def laneMovesWrong : ChangeSpec := { name := "laneMoves", fn := fun _ => fun
  | [d1, d2, d3] => { results := [.lit (.bool false)], args := [d1, d2, d3] }
  | _ => none }
def LaneMovesWrongFalsely : Prop := laneMovesRow.holds Try.pinned (OpenSpec.ofChange laneMovesWrong)

/-- 'towncrierlaw31.MemberPlays': WHATEVER THE INPUT: true; the input reads as it did. -/
def memberPlaysSpec : ChangeSpec := { name := "memberPlays", fn := fun _ => fun
  | [d] => { results := [.lit (.bool true)], args := [d] }
  | _ => none }
def memberPlaysRow : OpenClaim := { program := "ytclhgnlhejohgaa", sum := "09e7b55bb0de45e5ff9ef28c96bf28a39457b385c9a385a630e6c862be9fbe3e", func := "towncrier/towncrierlaw31.MemberPlays", spec := "memberPlays", unfollowed := true, recurses := true, apart := false }
def MemberPlaysSaid : Prop := memberPlaysRow.holds Try.pinned (OpenSpec.ofChange memberPlaysSpec)

/-- ITS FALSE NEIGHBOUR: 'it returns false'. Refute it at one input. -/
def memberPlaysWrong : ChangeSpec := { name := "memberPlays", fn := fun _ => fun
  | [d] => { results := [.lit (.bool false)], args := [d] }
  | _ => none }
def MemberPlaysWrongFalsely : Prop := memberPlaysRow.holds Try.pinned (OpenSpec.ofChange memberPlaysWrong)

/-- 'towncrierlaw31.MemberOwner': WHATEVER THE INPUT: true; the input reads as it did. -/
def memberOwnerSpec : ChangeSpec := { name := "memberOwner", fn := fun _ => fun
  | [d] => { results := [.lit (.bool true)], args := [d] }
  | _ => none }
def memberOwnerRow : OpenClaim := { program := "ytclhgnlhejohgaa", sum := "09e7b55bb0de45e5ff9ef28c96bf28a39457b385c9a385a630e6c862be9fbe3e", func := "towncrier/towncrierlaw31.MemberOwner", spec := "memberOwner", unfollowed := true, recurses := true, apart := false }
def MemberOwnerSaid : Prop := memberOwnerRow.holds Try.pinned (OpenSpec.ofChange memberOwnerSpec)

/-- ITS FALSE NEIGHBOUR: 'it returns false'. Refute it at one input. -/
def memberOwnerWrong : ChangeSpec := { name := "memberOwner", fn := fun _ => fun
  | [d] => { results := [.lit (.bool false)], args := [d] }
  | _ => none }
def MemberOwnerWrongFalsely : Prop := memberOwnerRow.holds Try.pinned (OpenSpec.ofChange memberOwnerWrong)

/-- 'towncrierlaw31.MemberCounts': WHATEVER THE INPUT: true; the input reads as it did. -/
def memberCountsSpec : ChangeSpec := { name := "memberCounts", fn := fun _ => fun
  | [d] => { results := [.lit (.bool true)], args := [d] }
  | _ => none }
def memberCountsRow : OpenClaim := { program := "ytclhgnlhejohgaa", sum := "09e7b55bb0de45e5ff9ef28c96bf28a39457b385c9a385a630e6c862be9fbe3e", func := "towncrier/towncrierlaw31.MemberCounts", spec := "memberCounts", unfollowed := true, recurses := true, apart := false }
def MemberCountsSaid : Prop := memberCountsRow.holds Try.pinned (OpenSpec.ofChange memberCountsSpec)

/-- ITS FALSE NEIGHBOUR: 'it returns false'. Refute it at one input. -/
def memberCountsWrong : ChangeSpec := { name := "memberCounts", fn := fun _ => fun
  | [d] => { results := [.lit (.bool false)], args := [d] }
  | _ => none }
def MemberCountsWrongFalsely : Prop := memberCountsRow.holds Try.pinned (OpenSpec.ofChange memberCountsWrong)

/-- 'towncrierlaw35.GroupSound': WHATEVER THE INPUT: true; the input reads as it did. -/
def groupSoundSpec : ChangeSpec := { name := "groupSound", fn := fun _ => fun
  | [d1, d2, d3] => { results := [.lit (.bool true)], args := [d1, d2, d3] }
  | _ => none }
def groupSoundRow : OpenClaim := { program := "ytclhgnlhejohgaa", sum := "09e7b55bb0de45e5ff9ef28c96bf28a39457b385c9a385a630e6c862be9fbe3e", func := "towncrier/towncrierlaw35.GroupSound", spec := "groupSound", unfollowed := true, recurses := true, apart := false }
def GroupSoundSaid : Prop := groupSoundRow.holds Try.pinned (OpenSpec.ofChange groupSoundSpec)

/-- ITS FALSE NEIGHBOUR: 'it returns false'. Refute it at one input. -/
def groupSoundWrong : ChangeSpec := { name := "groupSound", fn := fun _ => fun
  | [d1, d2, d3] => { results := [.lit (.bool false)], args := [d1, d2, d3] }
  | _ => none }
def GroupSoundWrongFalsely : Prop := groupSoundRow.holds Try.pinned (OpenSpec.ofChange groupSoundWrong)

/-- 'towncrierlaw35.GroupOnce': WHATEVER THE INPUT: true; the input reads as it did. -/
def groupOnceSpec : ChangeSpec := { name := "groupOnce", fn := fun _ => fun
  | [d1, d2] => { results := [.lit (.bool true)], args := [d1, d2] }
  | _ => none }
def groupOnceRow : OpenClaim := { program := "ytclhgnlhejohgaa", sum := "09e7b55bb0de45e5ff9ef28c96bf28a39457b385c9a385a630e6c862be9fbe3e", func := "towncrier/towncrierlaw35.GroupOnce", spec := "groupOnce", unfollowed := true, recurses := true, apart := false }
def GroupOnceSaid : Prop := groupOnceRow.holds Try.pinned (OpenSpec.ofChange groupOnceSpec)

/-- ITS FALSE NEIGHBOUR: 'it returns false'. Refute it at one input. -/
def groupOnceWrong : ChangeSpec := { name := "groupOnce", fn := fun _ => fun
  | [d1, d2] => { results := [.lit (.bool false)], args := [d1, d2] }
  | _ => none }
def GroupOnceWrongFalsely : Prop := groupOnceRow.holds Try.pinned (OpenSpec.ofChange groupOnceWrong)

/-- 'towncrierlaw35.GroupGoes': WHATEVER THE INPUT: true; the input reads as it did. -/
def groupGoesSpec : ChangeSpec := { name := "groupGoes", fn := fun _ => fun
  | [d1, d2, d3] => { results := [.lit (.bool true)], args := [d1, d2, d3] }
  | _ => none }
def groupGoesRow : OpenClaim := { program := "ytclhgnlhejohgaa", sum := "09e7b55bb0de45e5ff9ef28c96bf28a39457b385c9a385a630e6c862be9fbe3e", func := "towncrier/towncrierlaw35.GroupGoes", spec := "groupGoes", unfollowed := true, recurses := true, apart := false }
def GroupGoesSaid : Prop := groupGoesRow.holds Try.pinned (OpenSpec.ofChange groupGoesSpec)

/-- ITS FALSE NEIGHBOUR: 'it returns false'. Refute it at one input. -/
def groupGoesWrong : ChangeSpec := { name := "groupGoes", fn := fun _ => fun
  | [d1, d2, d3] => { results := [.lit (.bool false)], args := [d1, d2, d3] }
  | _ => none }
def GroupGoesWrongFalsely : Prop := groupGoesRow.holds Try.pinned (OpenSpec.ofChange groupGoesWrong)

/-- 'towncrierlaw35.GroupNobody': WHATEVER THE INPUT: true; the input reads as it did. -/
def groupNobodySpec : ChangeSpec := { name := "groupNobody", fn := fun _ => fun
  | [d] => { results := [.lit (.bool true)], args := [d] }
  | _ => none }
def groupNobodyRow : OpenClaim := { program := "ytclhgnlhejohgaa", sum := "09e7b55bb0de45e5ff9ef28c96bf28a39457b385c9a385a630e6c862be9fbe3e", func := "towncrier/towncrierlaw35.GroupNobody", spec := "groupNobody", unfollowed := true, recurses := true, apart := false }
def GroupNobodySaid : Prop := groupNobodyRow.holds Try.pinned (OpenSpec.ofChange groupNobodySpec)

/-- ITS FALSE NEIGHBOUR: 'it returns false'. Refute it at one input. -/
def groupNobodyWrong : ChangeSpec := { name := "groupNobody", fn := fun _ => fun
  | [d] => { results := [.lit (.bool false)], args := [d] }
  | _ => none }
def GroupNobodyWrongFalsely : Prop := groupNobodyRow.holds Try.pinned (OpenSpec.ofChange groupNobodyWrong)

/- THE SECOND FORM. 'bulk': how many values and letters a reading holds, each counted each time it is reached (what is shared counts as often as it is met; a slice's spare places count too). A statement '..UptoSaid' is the law's where the arguments, and the package variables that the reading takes, are together of bulk at most 1048576: NARROWER than '..Said'. Prove '..Said' where nothing that the law and all that it calls make is longer than what came in: it says more and counts as full. Else prove '..UptoSaid'. A law counts once. -/
mutual
def uptoBulk {H : Type} : DataW H → Nat
  | .lit (.string bytes) => bytes.length + 1
  | .lit _ => 1
  | .nil => 1
  | .ptr d => uptoBulk d + 1
  | .slice elems spare => uptoBulkAll elems + uptoBulkAll spare + 1
  | .agg parts => uptoBulkAll parts + 1
  | .iface _ d => uptoBulk d + 1
  | .map entries => uptoBulkEntries entries + 1
  | .held _ => 1
def uptoBulkAll {H : Type} : List (DataW H) → Nat
  | [] => 0
  | d :: r => uptoBulk d + uptoBulkAll r
def uptoBulkEntries {H : Type} : List (Lit × DataW H) → Nat
  | [] => 0
  | x :: r => uptoBulkEntry x + uptoBulkEntries r
def uptoBulkEntry {H : Type} : Lit × DataW H → Nat
  | (.string bytes, d) => bytes.length + uptoBulk d + 1
  | (_, d) => uptoBulk d + 1
 end
def uptoSmall : (H : Type) → List (DataW H) → Bool := fun _ ds => decide (uptoBulkAll ds ≤ 1048576)
def OpenSpec.upto (s : _root_.Go.ChangeSpec) : _root_.Go.OpenSpec := { _root_.Go.OpenSpec.ofChange s with cond := some uptoSmall }

/-- 'towncrierlaw32.PickNumbers', WHERE WHAT IT READS IS OF BULK AT MOST 1048576: true; the input reads as it did. -/
def pickNumbersUptoRow : OpenClaim := { program := "ytclhgnlhejohgaa", sum := "09e7b55bb0de45e5ff9ef28c96bf28a39457b385c9a385a630e6c862be9fbe3e", func := "towncrier/towncrierlaw32.PickNumbers", spec := "pickNumbers", unfollowed := true, recurses := true, apart := false, narrowed := true }
def PickNumbersUptoSaid : Prop := pickNumbersUptoRow.holds Try.pinned (OpenSpec.upto pickNumbersSpec)

/-- 'towncrierlaw32.PickIs', WHERE WHAT IT READS IS OF BULK AT MOST 1048576: true; the input reads as it did. -/
def pickIsUptoRow : OpenClaim := { program := "ytclhgnlhejohgaa", sum := "09e7b55bb0de45e5ff9ef28c96bf28a39457b385c9a385a630e6c862be9fbe3e", func := "towncrier/towncrierlaw32.PickIs", spec := "pickIs", unfollowed := true, recurses := true, apart := false, narrowed := true }
def PickIsUptoSaid : Prop := pickIsUptoRow.holds Try.pinned (OpenSpec.upto pickIsSpec)

/-- 'towncrierlaw32.PickStays', WHERE WHAT IT READS IS OF BULK AT MOST 1048576: true; the input reads as it did. -/
def pickStaysUptoRow : OpenClaim := { program := "ytclhgnlhejohgaa", sum := "09e7b55bb0de45e5ff9ef28c96bf28a39457b385c9a385a630e6c862be9fbe3e", func := "towncrier/towncrierlaw32.PickStays", spec := "pickStays", unfollowed := true, recurses := true, apart := false, narrowed := true }
def PickStaysUptoSaid : Prop := pickStaysUptoRow.holds Try.pinned (OpenSpec.upto pickStaysSpec)

/-- 'towncrierlaw32.PickTurns', WHERE WHAT IT READS IS OF BULK AT MOST 1048576: true; the input reads as it did. -/
def pickTurnsUptoRow : OpenClaim := { program := "ytclhgnlhejohgaa", sum := "09e7b55bb0de45e5ff9ef28c96bf28a39457b385c9a385a630e6c862be9fbe3e", func := "towncrier/towncrierlaw32.PickTurns", spec := "pickTurns", unfollowed := true, recurses := true, apart := false, narrowed := true }
def PickTurnsUptoSaid : Prop := pickTurnsUptoRow.holds Try.pinned (OpenSpec.upto pickTurnsSpec)

/-- 'towncrierlaw33.LaneIs', WHERE WHAT IT READS IS OF BULK AT MOST 1048576: true; the input reads as it did. -/
def laneIsUptoRow : OpenClaim := { program := "ytclhgnlhejohgaa", sum := "09e7b55bb0de45e5ff9ef28c96bf28a39457b385c9a385a630e6c862be9fbe3e", func := "towncrier/towncrierlaw33.LaneIs", spec := "laneIs", apart := false, narrowed := true }
def LaneIsUptoSaid : Prop := laneIsUptoRow.holds Try.pinned (OpenSpec.upto laneIsSpec)

/-- 'towncrierlaw33.LaneOrder', WHERE WHAT IT READS IS OF BULK AT MOST 1048576: true; the input reads as it did. -/
def laneOrderUptoRow : OpenClaim := { program := "ytclhgnlhejohgaa", sum := "09e7b55bb0de45e5ff9ef28c96bf28a39457b385c9a385a630e6c862be9fbe3e", func := "towncrier/towncrierlaw33.LaneOrder", spec := "laneOrder", apart := false, narrowed := true }
def LaneOrderUptoSaid : Prop := laneOrderUptoRow.holds Try.pinned (OpenSpec.upto laneOrderSpec)

/-- 'towncrierlaw33.LaneMoves', WHERE WHAT IT READS IS OF BULK AT MOST 1048576: true; the input reads as it did. -/
def laneMovesUptoRow : OpenClaim := { program := "ytclhgnlhejohgaa", sum := "09e7b55bb0de45e5ff9ef28c96bf28a39457b385c9a385a630e6c862be9fbe3e", func := "towncrier/towncrierlaw33.LaneMoves", spec := "laneMoves", apart := false, narrowed := true }
def LaneMovesUptoSaid : Prop := laneMovesUptoRow.holds Try.pinned (OpenSpec.upto laneMovesSpec)

/-- 'towncrierlaw31.MemberPlays', WHERE WHAT IT READS IS OF BULK AT MOST 1048576: true; the input reads as it did. -/
def memberPlaysUptoRow : OpenClaim := { program := "ytclhgnlhejohgaa", sum := "09e7b55bb0de45e5ff9ef28c96bf28a39457b385c9a385a630e6c862be9fbe3e", func := "towncrier/towncrierlaw31.MemberPlays", spec := "memberPlays", unfollowed := true, recurses := true, apart := false, narrowed := true }
def MemberPlaysUptoSaid : Prop := memberPlaysUptoRow.holds Try.pinned (OpenSpec.upto memberPlaysSpec)

/-- 'towncrierlaw31.MemberOwner', WHERE WHAT IT READS IS OF BULK AT MOST 1048576: true; the input reads as it did. -/
def memberOwnerUptoRow : OpenClaim := { program := "ytclhgnlhejohgaa", sum := "09e7b55bb0de45e5ff9ef28c96bf28a39457b385c9a385a630e6c862be9fbe3e", func := "towncrier/towncrierlaw31.MemberOwner", spec := "memberOwner", unfollowed := true, recurses := true, apart := false, narrowed := true }
def MemberOwnerUptoSaid : Prop := memberOwnerUptoRow.holds Try.pinned (OpenSpec.upto memberOwnerSpec)

/-- 'towncrierlaw31.MemberCounts', WHERE WHAT IT READS IS OF BULK AT MOST 1048576: true; the input reads as it did. -/
def memberCountsUptoRow : OpenClaim := { program := "ytclhgnlhejohgaa", sum := "09e7b55bb0de45e5ff9ef28c96bf28a39457b385c9a385a630e6c862be9fbe3e", func := "towncrier/towncrierlaw31.MemberCounts", spec := "memberCounts", unfollowed := true, recurses := true, apart := false, narrowed := true }
def MemberCountsUptoSaid : Prop := memberCountsUptoRow.holds Try.pinned (OpenSpec.upto memberCountsSpec)

/-- 'towncrierlaw35.GroupSound', WHERE WHAT IT READS IS OF BULK AT MOST 1048576: true; the input reads as it did. -/
def groupSoundUptoRow : OpenClaim := { program := "ytclhgnlhejohgaa", sum := "09e7b55bb0de45e5ff9ef28c96bf28a39457b385c9a385a630e6c862be9fbe3e", func := "towncrier/towncrierlaw35.GroupSound", spec := "groupSound", unfollowed := true, recurses := true, apart := false, narrowed := true }
def GroupSoundUptoSaid : Prop := groupSoundUptoRow.holds Try.pinned (OpenSpec.upto groupSoundSpec)

/-- 'towncrierlaw35.GroupOnce', WHERE WHAT IT READS IS OF BULK AT MOST 1048576: true; the input reads as it did. -/
def groupOnceUptoRow : OpenClaim := { program := "ytclhgnlhejohgaa", sum := "09e7b55bb0de45e5ff9ef28c96bf28a39457b385c9a385a630e6c862be9fbe3e", func := "towncrier/towncrierlaw35.GroupOnce", spec := "groupOnce", unfollowed := true, recurses := true, apart := false, narrowed := true }
def GroupOnceUptoSaid : Prop := groupOnceUptoRow.holds Try.pinned (OpenSpec.upto groupOnceSpec)

/-- 'towncrierlaw35.GroupGoes', WHERE WHAT IT READS IS OF BULK AT MOST 1048576: true; the input reads as it did. -/
def groupGoesUptoRow : OpenClaim := { program := "ytclhgnlhejohgaa", sum := "09e7b55bb0de45e5ff9ef28c96bf28a39457b385c9a385a630e6c862be9fbe3e", func := "towncrier/towncrierlaw35.GroupGoes", spec := "groupGoes", unfollowed := true, recurses := true, apart := false, narrowed := true }
def GroupGoesUptoSaid : Prop := groupGoesUptoRow.holds Try.pinned (OpenSpec.upto groupGoesSpec)

/-- 'towncrierlaw35.GroupNobody', WHERE WHAT IT READS IS OF BULK AT MOST 1048576: true; the input reads as it did. -/
def groupNobodyUptoRow : OpenClaim := { program := "ytclhgnlhejohgaa", sum := "09e7b55bb0de45e5ff9ef28c96bf28a39457b385c9a385a630e6c862be9fbe3e", func := "towncrier/towncrierlaw35.GroupNobody", spec := "groupNobody", unfollowed := true, recurses := true, apart := false, narrowed := true }
def GroupNobodyUptoSaid : Prop := groupNobodyUptoRow.holds Try.pinned (OpenSpec.upto groupNobodySpec)

end Rows
end Go.Proofs.Ytclhgnlhejohgaa
