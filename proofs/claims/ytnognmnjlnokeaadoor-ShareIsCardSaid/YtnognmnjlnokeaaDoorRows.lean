/-
  NARROWER THAN 'FOR EVERY INPUT', by the rows' own cells (each row's printed sentence says how): TopicIs: laid · TopicMatch: laid · TopicWide: laid · TopicLevels: laid · ShareIs: laid · ShareBack: laid · ShareKeys: laid · ShareStrategy: laid · RetainPlays: laid · RetainLast: laid · RetainNobody: laid · TrieOrder: laid · TrieClean: laid.
  DERIVED. THE GIVEN ROWS OF THIS SEAT. 13 by the template 'for every input the law returns true; each argument reads behind the call as it read before'; 0 by the template 'total and deterministic' (their statements: YtnognmnjlnokeaaDoorTotals.lean).
  GIVEN WITH THE SEED: the statements are not yours to turn. If you find one false, say at which input.
  Laid BY PROGRAM, IN A SANDBOX (cutbox-rows.mjs): the forced cells as the released guide's own fill.sh prints them over the translation 7277a67d3ad771a0… (all of the seat's roots in one cut). By AI agents, Wed Nov 11 2026. No macro, syntax, notation, axiom, sorry.
-/
import Derived.Test.YtnognmnjlnokeaaDoorChecked
import GoSem.PinnedTables
import GoSem.Claim
import GoSem.ClaimJoined
import GoSem.ClaimMapViews
import Derived.JoinedTies
import Derived.KernelRfl
namespace Go.Proofs.YtnognmnjlnokeaaDoor
/- THE CELL 'sum', in the pinned program and in every row, IS THE sha256 OF THE DUMP (.gsa) THAT YtnognmnjlnokeaaDoorProg.lean LOADS. Nothing in Lean hashes anything: it is a label: what it is worth is what the hold of that sum in a sandbox is worth. -/
noncomputable def Tryd.pinned : Pinned := { name := "ytnognmnjlnokeaadoor", sum := "7277a67d3ad771a06d610e0d7b0c9ab799586baa0bc0e2cbc1b785e447a6383e", checked := Tryd.checked }
namespace Rows
def none {H : Type} : Left H := { results := [], args := [] }

/- WHAT THE LISTED PACKAGE-LEVEL VARIABLES READ AS WHEN THE CALL BEGINS. Each datum BY PROGRAM (the guide's laid-datum.mjs) off the statement by which the dump's own 'gosem.cut.vars' lays the variable. In a bare row this is a premise. The card (YtnognmnjlnokeaaDoorCards.lean) ties it to the program's text. -/
def laid_unicode_utf8_acceptRanges {H : Type} : DataW H := .agg [.agg [.lit (.int .u8 128), .lit (.int .u8 191)], .agg [.lit (.int .u8 160), .lit (.int .u8 191)], .agg [.lit (.int .u8 128), .lit (.int .u8 159)], .agg [.lit (.int .u8 144), .lit (.int .u8 191)], .agg [.lit (.int .u8 128), .lit (.int .u8 143)], .agg [.lit (.int .u8 0), .lit (.int .u8 0)], .agg [.lit (.int .u8 0), .lit (.int .u8 0)], .agg [.lit (.int .u8 0), .lit (.int .u8 0)], .agg [.lit (.int .u8 0), .lit (.int .u8 0)], .agg [.lit (.int .u8 0), .lit (.int .u8 0)], .agg [.lit (.int .u8 0), .lit (.int .u8 0)], .agg [.lit (.int .u8 0), .lit (.int .u8 0)], .agg [.lit (.int .u8 0), .lit (.int .u8 0)], .agg [.lit (.int .u8 0), .lit (.int .u8 0)], .agg [.lit (.int .u8 0), .lit (.int .u8 0)], .agg [.lit (.int .u8 0), .lit (.int .u8 0)]]
def laid_towncrier_api_ErrMalformed {H : Type} : DataW H := .iface "*errors.errorString" (.ptr (.agg [.lit (.string [109, 97, 108, 102, 111, 114, 109, 101, 100])]))
def laid_towncrier_api_ErrTooLarge {H : Type} : DataW H := .iface "*errors.errorString" (.ptr (.agg [.lit (.string [116, 111, 111, 32, 108, 97, 114, 103, 101])]))
/-- One of Go's own tables, pinned by name: the form's constant. -/
def laid_unicode_utf8_first : DataW Unit := Go.Pinned.utf8First

/-- 'towncrierlaw16.TopicIs': WHATEVER THE INPUT: true; the input reads as it did. -/
def topicIsSpec : ChangeSpec := { name := "topicIs", fn := fun _ => fun
  | [d] => { results := [.lit (.bool true)], args := [d] }
  | _ => none }
def topicIsRow : OpenClaim := { program := "ytnognmnjlnokeaadoor", sum := "7277a67d3ad771a06d610e0d7b0c9ab799586baa0bc0e2cbc1b785e447a6383e", func := "towncrier/towncrierlaw16.TopicIs", spec := "topicIs", inPlace := ["internal/bytealg.CountString", "internal/bytealg.IndexByteString", "internal/bytealg.IndexString"], named := ["towncrier/api.ErrTooLarge", "towncrier/api.ErrMalformed", "internal/bytealg.MaxLen", "unicode/utf8.first", "unicode/utf8.acceptRanges"], apart := false, laid := [("unicode/utf8.acceptRanges", laid_unicode_utf8_acceptRanges), ("towncrier/api.ErrMalformed", laid_towncrier_api_ErrMalformed), ("towncrier/api.ErrTooLarge", laid_towncrier_api_ErrTooLarge), ("unicode/utf8.first", laid_unicode_utf8_first)] }
def TopicIsSaid : Prop := topicIsRow.holds Tryd.pinned (OpenSpec.ofChange topicIsSpec)

/-- ITS FALSE NEIGHBOUR: 'it returns false'. Refute it at one input. -/
def topicIsWrong : ChangeSpec := { name := "topicIs", fn := fun _ => fun
  | [d] => { results := [.lit (.bool false)], args := [d] }
  | _ => none }
def TopicIsWrongFalsely : Prop := topicIsRow.holds Tryd.pinned (OpenSpec.ofChange topicIsWrong)

/-- 'towncrierlaw16.TopicMatch': WHATEVER THE INPUT: true; the input reads as it did. -/
def topicMatchSpec : ChangeSpec := { name := "topicMatch", fn := fun _ => fun
  | [d1, d2] => { results := [.lit (.bool true)], args := [d1, d2] }
  | _ => none }
def topicMatchRow : OpenClaim := { program := "ytnognmnjlnokeaadoor", sum := "7277a67d3ad771a06d610e0d7b0c9ab799586baa0bc0e2cbc1b785e447a6383e", func := "towncrier/towncrierlaw16.TopicMatch", spec := "topicMatch", inPlace := ["internal/bytealg.CountString", "internal/bytealg.IndexByteString", "internal/bytealg.IndexString"], recurses := true, named := ["towncrier/api.ErrTooLarge", "towncrier/api.ErrMalformed", "internal/bytealg.MaxLen", "unicode/utf8.first", "unicode/utf8.acceptRanges"], apart := false, laid := [("unicode/utf8.acceptRanges", laid_unicode_utf8_acceptRanges), ("towncrier/api.ErrMalformed", laid_towncrier_api_ErrMalformed), ("towncrier/api.ErrTooLarge", laid_towncrier_api_ErrTooLarge), ("unicode/utf8.first", laid_unicode_utf8_first)] }
def TopicMatchSaid : Prop := topicMatchRow.holds Tryd.pinned (OpenSpec.ofChange topicMatchSpec)

/-- ITS FALSE NEIGHBOUR: 'it returns false'. Refute it at one input. -/
def topicMatchWrong : ChangeSpec := { name := "topicMatch", fn := fun _ => fun
  | [d1, d2] => { results := [.lit (.bool false)], args := [d1, d2] }
  | _ => none }
def TopicMatchWrongFalsely : Prop := topicMatchRow.holds Tryd.pinned (OpenSpec.ofChange topicMatchWrong)

/-- 'towncrierlaw16.TopicWide': WHATEVER THE INPUT: true; the input reads as it did. -/
def topicWideSpec : ChangeSpec := { name := "topicWide", fn := fun _ => fun
  | [d1, d2, d3] => { results := [.lit (.bool true)], args := [d1, d2, d3] }
  | _ => none }
def topicWideRow : OpenClaim := { program := "ytnognmnjlnokeaadoor", sum := "7277a67d3ad771a06d610e0d7b0c9ab799586baa0bc0e2cbc1b785e447a6383e", func := "towncrier/towncrierlaw16.TopicWide", spec := "topicWide", inPlace := ["internal/bytealg.CountString", "internal/bytealg.IndexByteString", "internal/bytealg.IndexString"], named := ["towncrier/api.ErrTooLarge", "towncrier/api.ErrMalformed", "internal/bytealg.MaxLen", "unicode/utf8.first", "unicode/utf8.acceptRanges"], apart := false, laid := [("unicode/utf8.acceptRanges", laid_unicode_utf8_acceptRanges), ("towncrier/api.ErrMalformed", laid_towncrier_api_ErrMalformed), ("towncrier/api.ErrTooLarge", laid_towncrier_api_ErrTooLarge), ("unicode/utf8.first", laid_unicode_utf8_first)] }
def TopicWideSaid : Prop := topicWideRow.holds Tryd.pinned (OpenSpec.ofChange topicWideSpec)

/-- ITS FALSE NEIGHBOUR: 'it returns false'. Refute it at one input. -/
def topicWideWrong : ChangeSpec := { name := "topicWide", fn := fun _ => fun
  | [d1, d2, d3] => { results := [.lit (.bool false)], args := [d1, d2, d3] }
  | _ => none }
def TopicWideWrongFalsely : Prop := topicWideRow.holds Tryd.pinned (OpenSpec.ofChange topicWideWrong)

/-- 'towncrierlaw16.TopicLevels': WHATEVER THE INPUT: true; the input reads as it did. -/
def topicLevelsSpec : ChangeSpec := { name := "topicLevels", fn := fun _ => fun
  | [d] => { results := [.lit (.bool true)], args := [d] }
  | _ => none }
def topicLevelsRow : OpenClaim := { program := "ytnognmnjlnokeaadoor", sum := "7277a67d3ad771a06d610e0d7b0c9ab799586baa0bc0e2cbc1b785e447a6383e", func := "towncrier/towncrierlaw16.TopicLevels", spec := "topicLevels", inPlace := ["internal/bytealg.CountString", "internal/bytealg.IndexByteString", "internal/bytealg.IndexString"], named := ["towncrier/api.ErrTooLarge", "towncrier/api.ErrMalformed", "internal/bytealg.MaxLen", "unicode/utf8.first", "unicode/utf8.acceptRanges"], apart := false, laid := [("unicode/utf8.acceptRanges", laid_unicode_utf8_acceptRanges), ("towncrier/api.ErrMalformed", laid_towncrier_api_ErrMalformed), ("towncrier/api.ErrTooLarge", laid_towncrier_api_ErrTooLarge), ("unicode/utf8.first", laid_unicode_utf8_first)] }
def TopicLevelsSaid : Prop := topicLevelsRow.holds Tryd.pinned (OpenSpec.ofChange topicLevelsSpec)

/-- ITS FALSE NEIGHBOUR: 'it returns false'. Refute it at one input. -/
def topicLevelsWrong : ChangeSpec := { name := "topicLevels", fn := fun _ => fun
  | [d] => { results := [.lit (.bool false)], args := [d] }
  | _ => none }
def TopicLevelsWrongFalsely : Prop := topicLevelsRow.holds Tryd.pinned (OpenSpec.ofChange topicLevelsWrong)

/-- 'towncrierlaw17.ShareIs': WHATEVER THE INPUT: true; the input reads as it did. -/
def shareIsSpec : ChangeSpec := { name := "shareIs", fn := fun _ => fun
  | [d1, d2] => { results := [.lit (.bool true)], args := [d1, d2] }
  | _ => none }
def shareIsRow : OpenClaim := { program := "ytnognmnjlnokeaadoor", sum := "7277a67d3ad771a06d610e0d7b0c9ab799586baa0bc0e2cbc1b785e447a6383e", func := "towncrier/towncrierlaw17.ShareIs", spec := "shareIs", inPlace := ["internal/bytealg.CountString", "internal/bytealg.IndexByteString", "internal/bytealg.IndexString"], named := ["towncrier/api.ErrTooLarge", "towncrier/api.ErrMalformed", "internal/bytealg.MaxLen", "unicode/utf8.first", "unicode/utf8.acceptRanges"], apart := false, laid := [("unicode/utf8.acceptRanges", laid_unicode_utf8_acceptRanges), ("towncrier/api.ErrMalformed", laid_towncrier_api_ErrMalformed), ("towncrier/api.ErrTooLarge", laid_towncrier_api_ErrTooLarge), ("unicode/utf8.first", laid_unicode_utf8_first)] }
def ShareIsSaid : Prop := shareIsRow.holds Tryd.pinned (OpenSpec.ofChange shareIsSpec)

/-- ITS FALSE NEIGHBOUR: 'it returns false'. Refute it at one input. -/
def shareIsWrong : ChangeSpec := { name := "shareIs", fn := fun _ => fun
  | [d1, d2] => { results := [.lit (.bool false)], args := [d1, d2] }
  | _ => none }
def ShareIsWrongFalsely : Prop := shareIsRow.holds Tryd.pinned (OpenSpec.ofChange shareIsWrong)

/-- 'towncrierlaw17.ShareBack': WHATEVER THE INPUT: true; the input reads as it did. -/
def shareBackSpec : ChangeSpec := { name := "shareBack", fn := fun _ => fun
  | [d] => { results := [.lit (.bool true)], args := [d] }
  | _ => none }
def shareBackRow : OpenClaim := { program := "ytnognmnjlnokeaadoor", sum := "7277a67d3ad771a06d610e0d7b0c9ab799586baa0bc0e2cbc1b785e447a6383e", func := "towncrier/towncrierlaw17.ShareBack", spec := "shareBack", inPlace := ["internal/bytealg.CountString", "internal/bytealg.IndexByteString", "internal/bytealg.IndexString"], named := ["towncrier/api.ErrTooLarge", "towncrier/api.ErrMalformed", "internal/bytealg.MaxLen", "unicode/utf8.first", "unicode/utf8.acceptRanges"], apart := false, laid := [("unicode/utf8.acceptRanges", laid_unicode_utf8_acceptRanges), ("towncrier/api.ErrMalformed", laid_towncrier_api_ErrMalformed), ("towncrier/api.ErrTooLarge", laid_towncrier_api_ErrTooLarge), ("unicode/utf8.first", laid_unicode_utf8_first)] }
def ShareBackSaid : Prop := shareBackRow.holds Tryd.pinned (OpenSpec.ofChange shareBackSpec)

/-- ITS FALSE NEIGHBOUR: 'it returns false'. Refute it at one input. -/
def shareBackWrong : ChangeSpec := { name := "shareBack", fn := fun _ => fun
  | [d] => { results := [.lit (.bool false)], args := [d] }
  | _ => none }
def ShareBackWrongFalsely : Prop := shareBackRow.holds Tryd.pinned (OpenSpec.ofChange shareBackWrong)

/-- 'towncrierlaw17.ShareKeys': WHATEVER THE INPUT: true; the input reads as it did. -/
def shareKeysSpec : ChangeSpec := { name := "shareKeys", fn := fun _ => fun
  | [d1, d2] => { results := [.lit (.bool true)], args := [d1, d2] }
  | _ => none }
def shareKeysRow : OpenClaim := { program := "ytnognmnjlnokeaadoor", sum := "7277a67d3ad771a06d610e0d7b0c9ab799586baa0bc0e2cbc1b785e447a6383e", func := "towncrier/towncrierlaw17.ShareKeys", spec := "shareKeys", inPlace := ["internal/bytealg.CountString", "internal/bytealg.IndexByteString", "internal/bytealg.IndexString"], named := ["towncrier/api.ErrTooLarge", "towncrier/api.ErrMalformed", "internal/bytealg.MaxLen", "unicode/utf8.first", "unicode/utf8.acceptRanges"], apart := false, laid := [("unicode/utf8.acceptRanges", laid_unicode_utf8_acceptRanges), ("towncrier/api.ErrMalformed", laid_towncrier_api_ErrMalformed), ("towncrier/api.ErrTooLarge", laid_towncrier_api_ErrTooLarge), ("unicode/utf8.first", laid_unicode_utf8_first)] }
def ShareKeysSaid : Prop := shareKeysRow.holds Tryd.pinned (OpenSpec.ofChange shareKeysSpec)

/-- ITS FALSE NEIGHBOUR: 'it returns false'. Refute it at one input. -/
def shareKeysWrong : ChangeSpec := { name := "shareKeys", fn := fun _ => fun
  | [d1, d2] => { results := [.lit (.bool false)], args := [d1, d2] }
  | _ => none }
def ShareKeysWrongFalsely : Prop := shareKeysRow.holds Tryd.pinned (OpenSpec.ofChange shareKeysWrong)

/-- 'towncrierlaw17.ShareStrategy': WHATEVER THE INPUT: true; the input reads as it did. -/
def shareStrategySpec : ChangeSpec := { name := "shareStrategy", fn := fun _ => fun
  | [d1, d2] => { results := [.lit (.bool true)], args := [d1, d2] }
  | _ => none }
def shareStrategyRow : OpenClaim := { program := "ytnognmnjlnokeaadoor", sum := "7277a67d3ad771a06d610e0d7b0c9ab799586baa0bc0e2cbc1b785e447a6383e", func := "towncrier/towncrierlaw17.ShareStrategy", spec := "shareStrategy", inPlace := ["internal/bytealg.CountString", "internal/bytealg.IndexByteString", "internal/bytealg.IndexString"], named := ["towncrier/api.ErrTooLarge", "towncrier/api.ErrMalformed", "internal/bytealg.MaxLen", "unicode/utf8.first", "unicode/utf8.acceptRanges"], apart := false, laid := [("unicode/utf8.acceptRanges", laid_unicode_utf8_acceptRanges), ("towncrier/api.ErrMalformed", laid_towncrier_api_ErrMalformed), ("towncrier/api.ErrTooLarge", laid_towncrier_api_ErrTooLarge), ("unicode/utf8.first", laid_unicode_utf8_first)] }
def ShareStrategySaid : Prop := shareStrategyRow.holds Tryd.pinned (OpenSpec.ofChange shareStrategySpec)

/-- ITS FALSE NEIGHBOUR: 'it returns false'. Refute it at one input. -/
def shareStrategyWrong : ChangeSpec := { name := "shareStrategy", fn := fun _ => fun
  | [d1, d2] => { results := [.lit (.bool false)], args := [d1, d2] }
  | _ => none }
def ShareStrategyWrongFalsely : Prop := shareStrategyRow.holds Tryd.pinned (OpenSpec.ofChange shareStrategyWrong)

/-- 'towncrierlaw19.RetainPlays': WHATEVER THE INPUT: true; the input reads as it did. -/
def retainPlaysSpec : ChangeSpec := { name := "retainPlays", fn := fun _ => fun
  | [d1, d2] => { results := [.lit (.bool true)], args := [d1, d2] }
  | _ => none }
def retainPlaysRow : OpenClaim := { program := "ytnognmnjlnokeaadoor", sum := "7277a67d3ad771a06d610e0d7b0c9ab799586baa0bc0e2cbc1b785e447a6383e", func := "towncrier/towncrierlaw19.RetainPlays", spec := "retainPlays", inPlace := ["internal/bytealg.CountString", "internal/bytealg.IndexByteString", "internal/bytealg.IndexString", "internal/bytealg.abigen_runtime_cmpstring"], unfollowed := true, recurses := true, named := ["towncrier/api.ErrTooLarge", "towncrier/api.ErrMalformed", "internal/bytealg.MaxLen", "unicode/utf8.first", "unicode/utf8.acceptRanges"], apart := false, laid := [("unicode/utf8.acceptRanges", laid_unicode_utf8_acceptRanges), ("towncrier/api.ErrMalformed", laid_towncrier_api_ErrMalformed), ("towncrier/api.ErrTooLarge", laid_towncrier_api_ErrTooLarge), ("unicode/utf8.first", laid_unicode_utf8_first)] }
def RetainPlaysSaid : Prop := retainPlaysRow.holds Tryd.pinned (OpenSpec.ofChange retainPlaysSpec)

/-- ITS FALSE NEIGHBOUR: 'it returns false'. Refute it at one input. -/
def retainPlaysWrong : ChangeSpec := { name := "retainPlays", fn := fun _ => fun
  | [d1, d2] => { results := [.lit (.bool false)], args := [d1, d2] }
  | _ => none }
def RetainPlaysWrongFalsely : Prop := retainPlaysRow.holds Tryd.pinned (OpenSpec.ofChange retainPlaysWrong)

/-- 'towncrierlaw19.RetainLast': WHATEVER THE INPUT: true; the input reads as it did. -/
def retainLastSpec : ChangeSpec := { name := "retainLast", fn := fun _ => fun
  | [d] => { results := [.lit (.bool true)], args := [d] }
  | _ => none }
def retainLastRow : OpenClaim := { program := "ytnognmnjlnokeaadoor", sum := "7277a67d3ad771a06d610e0d7b0c9ab799586baa0bc0e2cbc1b785e447a6383e", func := "towncrier/towncrierlaw19.RetainLast", spec := "retainLast", inPlace := ["internal/bytealg.CountString", "internal/bytealg.IndexByteString", "internal/bytealg.IndexString", "internal/bytealg.abigen_runtime_cmpstring"], unfollowed := true, recurses := true, named := ["towncrier/api.ErrTooLarge", "towncrier/api.ErrMalformed", "internal/bytealg.MaxLen", "unicode/utf8.first", "unicode/utf8.acceptRanges"], apart := false, laid := [("unicode/utf8.acceptRanges", laid_unicode_utf8_acceptRanges), ("towncrier/api.ErrMalformed", laid_towncrier_api_ErrMalformed), ("towncrier/api.ErrTooLarge", laid_towncrier_api_ErrTooLarge), ("unicode/utf8.first", laid_unicode_utf8_first)] }
def RetainLastSaid : Prop := retainLastRow.holds Tryd.pinned (OpenSpec.ofChange retainLastSpec)

/-- ITS FALSE NEIGHBOUR: 'it returns false'. Refute it at one input. -/
def retainLastWrong : ChangeSpec := { name := "retainLast", fn := fun _ => fun
  | [d] => { results := [.lit (.bool false)], args := [d] }
  | _ => none }
def RetainLastWrongFalsely : Prop := retainLastRow.holds Tryd.pinned (OpenSpec.ofChange retainLastWrong)

/-- 'towncrierlaw19.RetainNobody': WHATEVER THE INPUT: true; the input reads as it did. -/
def retainNobodySpec : ChangeSpec := { name := "retainNobody", fn := fun _ => fun
  | [d1, d2] => { results := [.lit (.bool true)], args := [d1, d2] }
  | _ => none }
def retainNobodyRow : OpenClaim := { program := "ytnognmnjlnokeaadoor", sum := "7277a67d3ad771a06d610e0d7b0c9ab799586baa0bc0e2cbc1b785e447a6383e", func := "towncrier/towncrierlaw19.RetainNobody", spec := "retainNobody", inPlace := ["internal/bytealg.CountString", "internal/bytealg.IndexByteString", "internal/bytealg.IndexString", "internal/bytealg.abigen_runtime_cmpstring"], unfollowed := true, recurses := true, named := ["towncrier/api.ErrTooLarge", "towncrier/api.ErrMalformed", "internal/bytealg.MaxLen", "unicode/utf8.first", "unicode/utf8.acceptRanges"], apart := false, laid := [("unicode/utf8.acceptRanges", laid_unicode_utf8_acceptRanges), ("towncrier/api.ErrMalformed", laid_towncrier_api_ErrMalformed), ("towncrier/api.ErrTooLarge", laid_towncrier_api_ErrTooLarge), ("unicode/utf8.first", laid_unicode_utf8_first)] }
def RetainNobodySaid : Prop := retainNobodyRow.holds Tryd.pinned (OpenSpec.ofChange retainNobodySpec)

/-- ITS FALSE NEIGHBOUR: 'it returns false'. Refute it at one input. -/
def retainNobodyWrong : ChangeSpec := { name := "retainNobody", fn := fun _ => fun
  | [d1, d2] => { results := [.lit (.bool false)], args := [d1, d2] }
  | _ => none }
def RetainNobodyWrongFalsely : Prop := retainNobodyRow.holds Tryd.pinned (OpenSpec.ofChange retainNobodyWrong)

/-- 'towncrierlaw18.TrieOrder': WHATEVER THE INPUT: true; the input reads as it did. -/
def trieOrderSpec : ChangeSpec := { name := "trieOrder", fn := fun _ => fun
  | [d1, d2] => { results := [.lit (.bool true)], args := [d1, d2] }
  | _ => none }
def trieOrderRow : OpenClaim := { program := "ytnognmnjlnokeaadoor", sum := "7277a67d3ad771a06d610e0d7b0c9ab799586baa0bc0e2cbc1b785e447a6383e", func := "towncrier/towncrierlaw18.TrieOrder", spec := "trieOrder", inPlace := ["internal/bytealg.CountString", "internal/bytealg.IndexByteString", "internal/bytealg.IndexString", "internal/abi.NoEscape", "internal/bytealg.MakeNoZero", "internal/bytealg.abigen_runtime_cmpstring"], unfollowed := true, recurses := true, named := ["towncrier/api.ErrTooLarge", "towncrier/api.ErrMalformed", "internal/bytealg.MaxLen", "unicode/utf8.first", "unicode/utf8.acceptRanges"], apart := false, laid := [("unicode/utf8.acceptRanges", laid_unicode_utf8_acceptRanges), ("towncrier/api.ErrMalformed", laid_towncrier_api_ErrMalformed), ("towncrier/api.ErrTooLarge", laid_towncrier_api_ErrTooLarge), ("unicode/utf8.first", laid_unicode_utf8_first)] }
def TrieOrderSaid : Prop := trieOrderRow.holds Tryd.pinned (OpenSpec.ofChange trieOrderSpec)

/-- ITS FALSE NEIGHBOUR: 'it returns false'. Refute it at one input. -/
def trieOrderWrong : ChangeSpec := { name := "trieOrder", fn := fun _ => fun
  | [d1, d2] => { results := [.lit (.bool false)], args := [d1, d2] }
  | _ => none }
def TrieOrderWrongFalsely : Prop := trieOrderRow.holds Tryd.pinned (OpenSpec.ofChange trieOrderWrong)

/-- 'towncrierlaw18.TrieClean': WHATEVER THE INPUT: true; the input reads as it did. -/
def trieCleanSpec : ChangeSpec := { name := "trieClean", fn := fun _ => fun
  | [d] => { results := [.lit (.bool true)], args := [d] }
  | _ => none }
def trieCleanRow : OpenClaim := { program := "ytnognmnjlnokeaadoor", sum := "7277a67d3ad771a06d610e0d7b0c9ab799586baa0bc0e2cbc1b785e447a6383e", func := "towncrier/towncrierlaw18.TrieClean", spec := "trieClean", inPlace := ["internal/bytealg.CountString", "internal/bytealg.IndexByteString", "internal/bytealg.IndexString", "internal/abi.NoEscape", "internal/bytealg.MakeNoZero", "internal/bytealg.abigen_runtime_cmpstring"], unfollowed := true, recurses := true, named := ["towncrier/api.ErrTooLarge", "towncrier/api.ErrMalformed", "internal/bytealg.MaxLen", "unicode/utf8.first", "unicode/utf8.acceptRanges"], apart := false, laid := [("unicode/utf8.acceptRanges", laid_unicode_utf8_acceptRanges), ("towncrier/api.ErrMalformed", laid_towncrier_api_ErrMalformed), ("towncrier/api.ErrTooLarge", laid_towncrier_api_ErrTooLarge), ("unicode/utf8.first", laid_unicode_utf8_first)] }
def TrieCleanSaid : Prop := trieCleanRow.holds Tryd.pinned (OpenSpec.ofChange trieCleanSpec)

/-- ITS FALSE NEIGHBOUR: 'it returns false'. Refute it at one input. -/
def trieCleanWrong : ChangeSpec := { name := "trieClean", fn := fun _ => fun
  | [d] => { results := [.lit (.bool false)], args := [d] }
  | _ => none }
def TrieCleanWrongFalsely : Prop := trieCleanRow.holds Tryd.pinned (OpenSpec.ofChange trieCleanWrong)

/- THE SECOND FORM. 'bulk': how many values and letters a reading holds, each counted each time it is reached (what is shared counts as often as it is met; a slice's spare places count too). A statement '..UptoSaid' is the law's where the arguments, and the package variables that the reading takes, are together of bulk at most 1048576: NARROWER than '..Said'. Prove '..Said' where nothing that the law and all that it calls make is longer than what came in: it says more and counts as full. Else prove '..UptoSaid'. A law counts once. -/
mutual
def uptoBulk {H : Type} : DataW H → Nat
  | .lit (.string bytes) => bytes.length + 1
  | .lit _ => 1
  | .nil => 1
  | .ptr d => uptoBulk d + 1
  | .slice elems spare => uptoBulkAll elems + uptoBulkAll spare + 1
  | .agg parts => uptoBulkAll parts + 1
  | .iface _ d => uptoBulk d + 1
  | .map entries => uptoBulkEntries entries + 1
  | .held _ => 1
def uptoBulkAll {H : Type} : List (DataW H) → Nat
  | [] => 0
  | d :: r => uptoBulk d + uptoBulkAll r
def uptoBulkEntries {H : Type} : List (Lit × DataW H) → Nat
  | [] => 0
  | x :: r => uptoBulkEntry x + uptoBulkEntries r
def uptoBulkEntry {H : Type} : Lit × DataW H → Nat
  | (.string bytes, d) => bytes.length + uptoBulk d + 1
  | (_, d) => uptoBulk d + 1
 end
def uptoSmall : (H : Type) → List (DataW H) → Bool := fun _ ds => decide (uptoBulkAll ds ≤ 1048576)
def OpenSpec.upto (s : _root_.Go.ChangeSpec) : _root_.Go.OpenSpec := { _root_.Go.OpenSpec.ofChange s with cond := some uptoSmall }

/-- 'towncrierlaw16.TopicIs', WHERE WHAT IT READS IS OF BULK AT MOST 1048576: true; the input reads as it did. -/
def topicIsUptoRow : OpenClaim := { program := "ytnognmnjlnokeaadoor", sum := "7277a67d3ad771a06d610e0d7b0c9ab799586baa0bc0e2cbc1b785e447a6383e", func := "towncrier/towncrierlaw16.TopicIs", spec := "topicIs", inPlace := ["internal/bytealg.CountString", "internal/bytealg.IndexByteString", "internal/bytealg.IndexString"], named := ["towncrier/api.ErrTooLarge", "towncrier/api.ErrMalformed", "internal/bytealg.MaxLen", "unicode/utf8.first", "unicode/utf8.acceptRanges"], apart := false, laid := [("unicode/utf8.acceptRanges", laid_unicode_utf8_acceptRanges), ("towncrier/api.ErrMalformed", laid_towncrier_api_ErrMalformed), ("towncrier/api.ErrTooLarge", laid_towncrier_api_ErrTooLarge), ("unicode/utf8.first", laid_unicode_utf8_first)], narrowed := true }
def TopicIsUptoSaid : Prop := topicIsUptoRow.holds Tryd.pinned (OpenSpec.upto topicIsSpec)

/-- 'towncrierlaw16.TopicMatch', WHERE WHAT IT READS IS OF BULK AT MOST 1048576: true; the input reads as it did. -/
def topicMatchUptoRow : OpenClaim := { program := "ytnognmnjlnokeaadoor", sum := "7277a67d3ad771a06d610e0d7b0c9ab799586baa0bc0e2cbc1b785e447a6383e", func := "towncrier/towncrierlaw16.TopicMatch", spec := "topicMatch", inPlace := ["internal/bytealg.CountString", "internal/bytealg.IndexByteString", "internal/bytealg.IndexString"], recurses := true, named := ["towncrier/api.ErrTooLarge", "towncrier/api.ErrMalformed", "internal/bytealg.MaxLen", "unicode/utf8.first", "unicode/utf8.acceptRanges"], apart := false, laid := [("unicode/utf8.acceptRanges", laid_unicode_utf8_acceptRanges), ("towncrier/api.ErrMalformed", laid_towncrier_api_ErrMalformed), ("towncrier/api.ErrTooLarge", laid_towncrier_api_ErrTooLarge), ("unicode/utf8.first", laid_unicode_utf8_first)], narrowed := true }
def TopicMatchUptoSaid : Prop := topicMatchUptoRow.holds Tryd.pinned (OpenSpec.upto topicMatchSpec)

/-- 'towncrierlaw16.TopicWide', WHERE WHAT IT READS IS OF BULK AT MOST 1048576: true; the input reads as it did. -/
def topicWideUptoRow : OpenClaim := { program := "ytnognmnjlnokeaadoor", sum := "7277a67d3ad771a06d610e0d7b0c9ab799586baa0bc0e2cbc1b785e447a6383e", func := "towncrier/towncrierlaw16.TopicWide", spec := "topicWide", inPlace := ["internal/bytealg.CountString", "internal/bytealg.IndexByteString", "internal/bytealg.IndexString"], named := ["towncrier/api.ErrTooLarge", "towncrier/api.ErrMalformed", "internal/bytealg.MaxLen", "unicode/utf8.first", "unicode/utf8.acceptRanges"], apart := false, laid := [("unicode/utf8.acceptRanges", laid_unicode_utf8_acceptRanges), ("towncrier/api.ErrMalformed", laid_towncrier_api_ErrMalformed), ("towncrier/api.ErrTooLarge", laid_towncrier_api_ErrTooLarge), ("unicode/utf8.first", laid_unicode_utf8_first)], narrowed := true }
def TopicWideUptoSaid : Prop := topicWideUptoRow.holds Tryd.pinned (OpenSpec.upto topicWideSpec)

/-- 'towncrierlaw16.TopicLevels', WHERE WHAT IT READS IS OF BULK AT MOST 1048576: true; the input reads as it did. -/
def topicLevelsUptoRow : OpenClaim := { program := "ytnognmnjlnokeaadoor", sum := "7277a67d3ad771a06d610e0d7b0c9ab799586baa0bc0e2cbc1b785e447a6383e", func := "towncrier/towncrierlaw16.TopicLevels", spec := "topicLevels", inPlace := ["internal/bytealg.CountString", "internal/bytealg.IndexByteString", "internal/bytealg.IndexString"], named := ["towncrier/api.ErrTooLarge", "towncrier/api.ErrMalformed", "internal/bytealg.MaxLen", "unicode/utf8.first", "unicode/utf8.acceptRanges"], apart := false, laid := [("unicode/utf8.acceptRanges", laid_unicode_utf8_acceptRanges), ("towncrier/api.ErrMalformed", laid_towncrier_api_ErrMalformed), ("towncrier/api.ErrTooLarge", laid_towncrier_api_ErrTooLarge), ("unicode/utf8.first", laid_unicode_utf8_first)], narrowed := true }
def TopicLevelsUptoSaid : Prop := topicLevelsUptoRow.holds Tryd.pinned (OpenSpec.upto topicLevelsSpec)

/-- 'towncrierlaw17.ShareIs', WHERE WHAT IT READS IS OF BULK AT MOST 1048576: true; the input reads as it did. -/
def shareIsUptoRow : OpenClaim := { program := "ytnognmnjlnokeaadoor", sum := "7277a67d3ad771a06d610e0d7b0c9ab799586baa0bc0e2cbc1b785e447a6383e", func := "towncrier/towncrierlaw17.ShareIs", spec := "shareIs", inPlace := ["internal/bytealg.CountString", "internal/bytealg.IndexByteString", "internal/bytealg.IndexString"], named := ["towncrier/api.ErrTooLarge", "towncrier/api.ErrMalformed", "internal/bytealg.MaxLen", "unicode/utf8.first", "unicode/utf8.acceptRanges"], apart := false, laid := [("unicode/utf8.acceptRanges", laid_unicode_utf8_acceptRanges), ("towncrier/api.ErrMalformed", laid_towncrier_api_ErrMalformed), ("towncrier/api.ErrTooLarge", laid_towncrier_api_ErrTooLarge), ("unicode/utf8.first", laid_unicode_utf8_first)], narrowed := true }
def ShareIsUptoSaid : Prop := shareIsUptoRow.holds Tryd.pinned (OpenSpec.upto shareIsSpec)

/-- 'towncrierlaw17.ShareBack', WHERE WHAT IT READS IS OF BULK AT MOST 1048576: true; the input reads as it did. -/
def shareBackUptoRow : OpenClaim := { program := "ytnognmnjlnokeaadoor", sum := "7277a67d3ad771a06d610e0d7b0c9ab799586baa0bc0e2cbc1b785e447a6383e", func := "towncrier/towncrierlaw17.ShareBack", spec := "shareBack", inPlace := ["internal/bytealg.CountString", "internal/bytealg.IndexByteString", "internal/bytealg.IndexString"], named := ["towncrier/api.ErrTooLarge", "towncrier/api.ErrMalformed", "internal/bytealg.MaxLen", "unicode/utf8.first", "unicode/utf8.acceptRanges"], apart := false, laid := [("unicode/utf8.acceptRanges", laid_unicode_utf8_acceptRanges), ("towncrier/api.ErrMalformed", laid_towncrier_api_ErrMalformed), ("towncrier/api.ErrTooLarge", laid_towncrier_api_ErrTooLarge), ("unicode/utf8.first", laid_unicode_utf8_first)], narrowed := true }
def ShareBackUptoSaid : Prop := shareBackUptoRow.holds Tryd.pinned (OpenSpec.upto shareBackSpec)

/-- 'towncrierlaw17.ShareKeys', WHERE WHAT IT READS IS OF BULK AT MOST 1048576: true; the input reads as it did. -/
def shareKeysUptoRow : OpenClaim := { program := "ytnognmnjlnokeaadoor", sum := "7277a67d3ad771a06d610e0d7b0c9ab799586baa0bc0e2cbc1b785e447a6383e", func := "towncrier/towncrierlaw17.ShareKeys", spec := "shareKeys", inPlace := ["internal/bytealg.CountString", "internal/bytealg.IndexByteString", "internal/bytealg.IndexString"], named := ["towncrier/api.ErrTooLarge", "towncrier/api.ErrMalformed", "internal/bytealg.MaxLen", "unicode/utf8.first", "unicode/utf8.acceptRanges"], apart := false, laid := [("unicode/utf8.acceptRanges", laid_unicode_utf8_acceptRanges), ("towncrier/api.ErrMalformed", laid_towncrier_api_ErrMalformed), ("towncrier/api.ErrTooLarge", laid_towncrier_api_ErrTooLarge), ("unicode/utf8.first", laid_unicode_utf8_first)], narrowed := true }
def ShareKeysUptoSaid : Prop := shareKeysUptoRow.holds Tryd.pinned (OpenSpec.upto shareKeysSpec)

/-- 'towncrierlaw17.ShareStrategy', WHERE WHAT IT READS IS OF BULK AT MOST 1048576: true; the input reads as it did. -/
def shareStrategyUptoRow : OpenClaim := { program := "ytnognmnjlnokeaadoor", sum := "7277a67d3ad771a06d610e0d7b0c9ab799586baa0bc0e2cbc1b785e447a6383e", func := "towncrier/towncrierlaw17.ShareStrategy", spec := "shareStrategy", inPlace := ["internal/bytealg.CountString", "internal/bytealg.IndexByteString", "internal/bytealg.IndexString"], named := ["towncrier/api.ErrTooLarge", "towncrier/api.ErrMalformed", "internal/bytealg.MaxLen", "unicode/utf8.first", "unicode/utf8.acceptRanges"], apart := false, laid := [("unicode/utf8.acceptRanges", laid_unicode_utf8_acceptRanges), ("towncrier/api.ErrMalformed", laid_towncrier_api_ErrMalformed), ("towncrier/api.ErrTooLarge", laid_towncrier_api_ErrTooLarge), ("unicode/utf8.first", laid_unicode_utf8_first)], narrowed := true }
def ShareStrategyUptoSaid : Prop := shareStrategyUptoRow.holds Tryd.pinned (OpenSpec.upto shareStrategySpec)

/-- 'towncrierlaw19.RetainPlays', WHERE WHAT IT READS IS OF BULK AT MOST 1048576: true; the input reads as it did. -/
def retainPlaysUptoRow : OpenClaim := { program := "ytnognmnjlnokeaadoor", sum := "7277a67d3ad771a06d610e0d7b0c9ab799586baa0bc0e2cbc1b785e447a6383e", func := "towncrier/towncrierlaw19.RetainPlays", spec := "retainPlays", inPlace := ["internal/bytealg.CountString", "internal/bytealg.IndexByteString", "internal/bytealg.IndexString", "internal/bytealg.abigen_runtime_cmpstring"], unfollowed := true, recurses := true, named := ["towncrier/api.ErrTooLarge", "towncrier/api.ErrMalformed", "internal/bytealg.MaxLen", "unicode/utf8.first", "unicode/utf8.acceptRanges"], apart := false, laid := [("unicode/utf8.acceptRanges", laid_unicode_utf8_acceptRanges), ("towncrier/api.ErrMalformed", laid_towncrier_api_ErrMalformed), ("towncrier/api.ErrTooLarge", laid_towncrier_api_ErrTooLarge), ("unicode/utf8.first", laid_unicode_utf8_first)], narrowed := true }
def RetainPlaysUptoSaid : Prop := retainPlaysUptoRow.holds Tryd.pinned (OpenSpec.upto retainPlaysSpec)

/-- 'towncrierlaw19.RetainLast', WHERE WHAT IT READS IS OF BULK AT MOST 1048576: true; the input reads as it did. -/
def retainLastUptoRow : OpenClaim := { program := "ytnognmnjlnokeaadoor", sum := "7277a67d3ad771a06d610e0d7b0c9ab799586baa0bc0e2cbc1b785e447a6383e", func := "towncrier/towncrierlaw19.RetainLast", spec := "retainLast", inPlace := ["internal/bytealg.CountString", "internal/bytealg.IndexByteString", "internal/bytealg.IndexString", "internal/bytealg.abigen_runtime_cmpstring"], unfollowed := true, recurses := true, named := ["towncrier/api.ErrTooLarge", "towncrier/api.ErrMalformed", "internal/bytealg.MaxLen", "unicode/utf8.first", "unicode/utf8.acceptRanges"], apart := false, laid := [("unicode/utf8.acceptRanges", laid_unicode_utf8_acceptRanges), ("towncrier/api.ErrMalformed", laid_towncrier_api_ErrMalformed), ("towncrier/api.ErrTooLarge", laid_towncrier_api_ErrTooLarge), ("unicode/utf8.first", laid_unicode_utf8_first)], narrowed := true }
def RetainLastUptoSaid : Prop := retainLastUptoRow.holds Tryd.pinned (OpenSpec.upto retainLastSpec)

/-- 'towncrierlaw19.RetainNobody', WHERE WHAT IT READS IS OF BULK AT MOST 1048576: true; the input reads as it did. -/
def retainNobodyUptoRow : OpenClaim := { program := "ytnognmnjlnokeaadoor", sum := "7277a67d3ad771a06d610e0d7b0c9ab799586baa0bc0e2cbc1b785e447a6383e", func := "towncrier/towncrierlaw19.RetainNobody", spec := "retainNobody", inPlace := ["internal/bytealg.CountString", "internal/bytealg.IndexByteString", "internal/bytealg.IndexString", "internal/bytealg.abigen_runtime_cmpstring"], unfollowed := true, recurses := true, named := ["towncrier/api.ErrTooLarge", "towncrier/api.ErrMalformed", "internal/bytealg.MaxLen", "unicode/utf8.first", "unicode/utf8.acceptRanges"], apart := false, laid := [("unicode/utf8.acceptRanges", laid_unicode_utf8_acceptRanges), ("towncrier/api.ErrMalformed", laid_towncrier_api_ErrMalformed), ("towncrier/api.ErrTooLarge", laid_towncrier_api_ErrTooLarge), ("unicode/utf8.first", laid_unicode_utf8_first)], narrowed := true }
def RetainNobodyUptoSaid : Prop := retainNobodyUptoRow.holds Tryd.pinned (OpenSpec.upto retainNobodySpec)

/-- 'towncrierlaw18.TrieOrder', WHERE WHAT IT READS IS OF BULK AT MOST 1048576: true; the input reads as it did. -/
def trieOrderUptoRow : OpenClaim := { program := "ytnognmnjlnokeaadoor", sum := "7277a67d3ad771a06d610e0d7b0c9ab799586baa0bc0e2cbc1b785e447a6383e", func := "towncrier/towncrierlaw18.TrieOrder", spec := "trieOrder", inPlace := ["internal/bytealg.CountString", "internal/bytealg.IndexByteString", "internal/bytealg.IndexString", "internal/abi.NoEscape", "internal/bytealg.MakeNoZero", "internal/bytealg.abigen_runtime_cmpstring"], unfollowed := true, recurses := true, named := ["towncrier/api.ErrTooLarge", "towncrier/api.ErrMalformed", "internal/bytealg.MaxLen", "unicode/utf8.first", "unicode/utf8.acceptRanges"], apart := false, laid := [("unicode/utf8.acceptRanges", laid_unicode_utf8_acceptRanges), ("towncrier/api.ErrMalformed", laid_towncrier_api_ErrMalformed), ("towncrier/api.ErrTooLarge", laid_towncrier_api_ErrTooLarge), ("unicode/utf8.first", laid_unicode_utf8_first)], narrowed := true }
def TrieOrderUptoSaid : Prop := trieOrderUptoRow.holds Tryd.pinned (OpenSpec.upto trieOrderSpec)

/-- 'towncrierlaw18.TrieClean', WHERE WHAT IT READS IS OF BULK AT MOST 1048576: true; the input reads as it did. -/
def trieCleanUptoRow : OpenClaim := { program := "ytnognmnjlnokeaadoor", sum := "7277a67d3ad771a06d610e0d7b0c9ab799586baa0bc0e2cbc1b785e447a6383e", func := "towncrier/towncrierlaw18.TrieClean", spec := "trieClean", inPlace := ["internal/bytealg.CountString", "internal/bytealg.IndexByteString", "internal/bytealg.IndexString", "internal/abi.NoEscape", "internal/bytealg.MakeNoZero", "internal/bytealg.abigen_runtime_cmpstring"], unfollowed := true, recurses := true, named := ["towncrier/api.ErrTooLarge", "towncrier/api.ErrMalformed", "internal/bytealg.MaxLen", "unicode/utf8.first", "unicode/utf8.acceptRanges"], apart := false, laid := [("unicode/utf8.acceptRanges", laid_unicode_utf8_acceptRanges), ("towncrier/api.ErrMalformed", laid_towncrier_api_ErrMalformed), ("towncrier/api.ErrTooLarge", laid_towncrier_api_ErrTooLarge), ("unicode/utf8.first", laid_unicode_utf8_first)], narrowed := true }
def TrieCleanUptoSaid : Prop := trieCleanUptoRow.holds Tryd.pinned (OpenSpec.upto trieCleanSpec)

end Rows
end Go.Proofs.YtnognmnjlnokeaaDoor
