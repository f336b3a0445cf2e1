/-
  DERIVED. GIVEN WITH THE SEED: THE CARDS: each row of YtnognmnjlnokeaaDoorRows.lean that lists a variable, with what it lists TIED to the program's text (the seventh form; the later family's looks); each row that meets fmt, with fmt's text TOLD by the authors' own Lean function (tested against real Go, not proved from fmt's source: count such statements apart). THE CARD IS WHAT COUNTS. Prove the row's statement (the work); the ties are given (YtnognmnjlnokeaaDoorTie.lean); close each card by the builder's one call (the guide's Derived/Test/ToyasCard.lean, 'card_holds'). Laid BY PROGRAM, IN A SANDBOX (cutbox-door.mjs). By AI agents, Wed Nov 11 2026. No macro, syntax, notation, axiom, sorry.
-/
import Derived.Test.YtnognmnjlnokeaaDoorRows
import GoSem.ClaimSeven
namespace Go.Proofs.YtnognmnjlnokeaaDoor
namespace Rows

/-- THE TIED CARD OF 'towncrierlaw16.TopicIs'. -/
def topicIsCard : Claim7 := { stood := { row := topicIsRow, standIns := [], harness := (true, "f1f3e024719b303c3595db87d14f0883bc1e7afe167de07fc85508eacd47e9a2"), looks := false }, kinds := [], alts := [], laidByText := true, laidKinds := [.data, .sentinel, .sentinel, .pinned], laidTests := true, laidLooks := .later }
def TopicIsCardSaid : Prop := Claim7.holds Tryd.pinned (.plain (OpenSpec.ofChange topicIsSpec)) topicIsCard

/-- THE TIED CARD OF 'towncrierlaw16.TopicMatch'. -/
def topicMatchCard : Claim7 := { stood := { row := topicMatchRow, standIns := [], harness := (true, "f1f3e024719b303c3595db87d14f0883bc1e7afe167de07fc85508eacd47e9a2"), looks := false }, kinds := [], alts := [], laidByText := true, laidKinds := [.data, .sentinel, .sentinel, .pinned], laidTests := true, laidLooks := .later }
def TopicMatchCardSaid : Prop := Claim7.holds Tryd.pinned (.plain (OpenSpec.ofChange topicMatchSpec)) topicMatchCard

/-- THE TIED CARD OF 'towncrierlaw16.TopicWide'. -/
def topicWideCard : Claim7 := { stood := { row := topicWideRow, standIns := [], harness := (true, "f1f3e024719b303c3595db87d14f0883bc1e7afe167de07fc85508eacd47e9a2"), looks := false }, kinds := [], alts := [], laidByText := true, laidKinds := [.data, .sentinel, .sentinel, .pinned], laidTests := true, laidLooks := .later }
def TopicWideCardSaid : Prop := Claim7.holds Tryd.pinned (.plain (OpenSpec.ofChange topicWideSpec)) topicWideCard

/-- THE TIED CARD OF 'towncrierlaw16.TopicLevels'. -/
def topicLevelsCard : Claim7 := { stood := { row := topicLevelsRow, standIns := [], harness := (true, "f1f3e024719b303c3595db87d14f0883bc1e7afe167de07fc85508eacd47e9a2"), looks := false }, kinds := [], alts := [], laidByText := true, laidKinds := [.data, .sentinel, .sentinel, .pinned], laidTests := true, laidLooks := .later }
def TopicLevelsCardSaid : Prop := Claim7.holds Tryd.pinned (.plain (OpenSpec.ofChange topicLevelsSpec)) topicLevelsCard

/-- THE TIED CARD OF 'towncrierlaw17.ShareIs'. -/
def shareIsCard : Claim7 := { stood := { row := shareIsRow, standIns := [], harness := (true, "f1f3e024719b303c3595db87d14f0883bc1e7afe167de07fc85508eacd47e9a2"), looks := false }, kinds := [], alts := [], laidByText := true, laidKinds := [.data, .sentinel, .sentinel, .pinned], laidTests := true, laidLooks := .later }
def ShareIsCardSaid : Prop := Claim7.holds Tryd.pinned (.plain (OpenSpec.ofChange shareIsSpec)) shareIsCard

/-- THE TIED CARD OF 'towncrierlaw17.ShareBack'. -/
def shareBackCard : Claim7 := { stood := { row := shareBackRow, standIns := [], harness := (true, "f1f3e024719b303c3595db87d14f0883bc1e7afe167de07fc85508eacd47e9a2"), looks := false }, kinds := [], alts := [], laidByText := true, laidKinds := [.data, .sentinel, .sentinel, .pinned], laidTests := true, laidLooks := .later }
def ShareBackCardSaid : Prop := Claim7.holds Tryd.pinned (.plain (OpenSpec.ofChange shareBackSpec)) shareBackCard

/-- THE TIED CARD OF 'towncrierlaw17.ShareKeys'. -/
def shareKeysCard : Claim7 := { stood := { row := shareKeysRow, standIns := [], harness := (true, "f1f3e024719b303c3595db87d14f0883bc1e7afe167de07fc85508eacd47e9a2"), looks := false }, kinds := [], alts := [], laidByText := true, laidKinds := [.data, .sentinel, .sentinel, .pinned], laidTests := true, laidLooks := .later }
def ShareKeysCardSaid : Prop := Claim7.holds Tryd.pinned (.plain (OpenSpec.ofChange shareKeysSpec)) shareKeysCard

/-- THE TIED CARD OF 'towncrierlaw17.ShareStrategy'. -/
def shareStrategyCard : Claim7 := { stood := { row := shareStrategyRow, standIns := [], harness := (true, "f1f3e024719b303c3595db87d14f0883bc1e7afe167de07fc85508eacd47e9a2"), looks := false }, kinds := [], alts := [], laidByText := true, laidKinds := [.data, .sentinel, .sentinel, .pinned], laidTests := true, laidLooks := .later }
def ShareStrategyCardSaid : Prop := Claim7.holds Tryd.pinned (.plain (OpenSpec.ofChange shareStrategySpec)) shareStrategyCard

/-- THE TIED CARD OF 'towncrierlaw19.RetainPlays'. -/
def retainPlaysCard : Claim7 := { stood := { row := retainPlaysRow, standIns := [], harness := (true, "f1f3e024719b303c3595db87d14f0883bc1e7afe167de07fc85508eacd47e9a2"), looks := false }, kinds := [], alts := [], laidByText := true, laidKinds := [.data, .sentinel, .sentinel, .pinned], laidTests := true, laidLooks := .later }
def RetainPlaysCardSaid : Prop := Claim7.holds Tryd.pinned (.plain (OpenSpec.ofChange retainPlaysSpec)) retainPlaysCard

/-- THE TIED CARD OF 'towncrierlaw19.RetainLast'. -/
def retainLastCard : Claim7 := { stood := { row := retainLastRow, standIns := [], harness := (true, "f1f3e024719b303c3595db87d14f0883bc1e7afe167de07fc85508eacd47e9a2"), looks := false }, kinds := [], alts := [], laidByText := true, laidKinds := [.data, .sentinel, .sentinel, .pinned], laidTests := true, laidLooks := .later }
def RetainLastCardSaid : Prop := Claim7.holds Tryd.pinned (.plain (OpenSpec.ofChange retainLastSpec)) retainLastCard

/-- THE TIED CARD OF 'towncrierlaw19.RetainNobody'. -/
def retainNobodyCard : Claim7 := { stood := { row := retainNobodyRow, standIns := [], harness := (true, "f1f3e024719b303c3595db87d14f0883bc1e7afe167de07fc85508eacd47e9a2"), looks := false }, kinds := [], alts := [], laidByText := true, laidKinds := [.data, .sentinel, .sentinel, .pinned], laidTests := true, laidLooks := .later }
def RetainNobodyCardSaid : Prop := Claim7.holds Tryd.pinned (.plain (OpenSpec.ofChange retainNobodySpec)) retainNobodyCard

/-- THE TIED CARD OF 'towncrierlaw18.TrieOrder'. -/
def trieOrderCard : Claim7 := { stood := { row := trieOrderRow, standIns := [], harness := (true, "f1f3e024719b303c3595db87d14f0883bc1e7afe167de07fc85508eacd47e9a2"), looks := false }, kinds := [], alts := [], laidByText := true, laidKinds := [.data, .sentinel, .sentinel, .pinned], laidTests := true, laidLooks := .later }
def TrieOrderCardSaid : Prop := Claim7.holds Tryd.pinned (.plain (OpenSpec.ofChange trieOrderSpec)) trieOrderCard

/-- THE TIED CARD OF 'towncrierlaw18.TrieClean'. -/
def trieCleanCard : Claim7 := { stood := { row := trieCleanRow, standIns := [], harness := (true, "f1f3e024719b303c3595db87d14f0883bc1e7afe167de07fc85508eacd47e9a2"), looks := false }, kinds := [], alts := [], laidByText := true, laidKinds := [.data, .sentinel, .sentinel, .pinned], laidTests := true, laidLooks := .later }
def TrieCleanCardSaid : Prop := Claim7.holds Tryd.pinned (.plain (OpenSpec.ofChange trieCleanSpec)) trieCleanCard

/-- THE SECOND FORM's CARD OF 'towncrierlaw16.TopicIs'. -/
def topicIsUptoCard : Claim7 := { stood := { row := topicIsUptoRow, standIns := [], harness := (true, "f1f3e024719b303c3595db87d14f0883bc1e7afe167de07fc85508eacd47e9a2"), looks := false }, kinds := [], alts := [], laidByText := true, laidKinds := [.data, .sentinel, .sentinel, .pinned], laidTests := true, laidLooks := .later }
def TopicIsUptoCardSaid : Prop := Claim7.holds Tryd.pinned (.plain (OpenSpec.upto topicIsSpec)) topicIsUptoCard

/-- THE SECOND FORM's CARD OF 'towncrierlaw16.TopicMatch'. -/
def topicMatchUptoCard : Claim7 := { stood := { row := topicMatchUptoRow, standIns := [], harness := (true, "f1f3e024719b303c3595db87d14f0883bc1e7afe167de07fc85508eacd47e9a2"), looks := false }, kinds := [], alts := [], laidByText := true, laidKinds := [.data, .sentinel, .sentinel, .pinned], laidTests := true, laidLooks := .later }
def TopicMatchUptoCardSaid : Prop := Claim7.holds Tryd.pinned (.plain (OpenSpec.upto topicMatchSpec)) topicMatchUptoCard

/-- THE SECOND FORM's CARD OF 'towncrierlaw16.TopicWide'. -/
def topicWideUptoCard : Claim7 := { stood := { row := topicWideUptoRow, standIns := [], harness := (true, "f1f3e024719b303c3595db87d14f0883bc1e7afe167de07fc85508eacd47e9a2"), looks := false }, kinds := [], alts := [], laidByText := true, laidKinds := [.data, .sentinel, .sentinel, .pinned], laidTests := true, laidLooks := .later }
def TopicWideUptoCardSaid : Prop := Claim7.holds Tryd.pinned (.plain (OpenSpec.upto topicWideSpec)) topicWideUptoCard

/-- THE SECOND FORM's CARD OF 'towncrierlaw16.TopicLevels'. -/
def topicLevelsUptoCard : Claim7 := { stood := { row := topicLevelsUptoRow, standIns := [], harness := (true, "f1f3e024719b303c3595db87d14f0883bc1e7afe167de07fc85508eacd47e9a2"), looks := false }, kinds := [], alts := [], laidByText := true, laidKinds := [.data, .sentinel, .sentinel, .pinned], laidTests := true, laidLooks := .later }
def TopicLevelsUptoCardSaid : Prop := Claim7.holds Tryd.pinned (.plain (OpenSpec.upto topicLevelsSpec)) topicLevelsUptoCard

/-- THE SECOND FORM's CARD OF 'towncrierlaw17.ShareIs'. -/
def shareIsUptoCard : Claim7 := { stood := { row := shareIsUptoRow, standIns := [], harness := (true, "f1f3e024719b303c3595db87d14f0883bc1e7afe167de07fc85508eacd47e9a2"), looks := false }, kinds := [], alts := [], laidByText := true, laidKinds := [.data, .sentinel, .sentinel, .pinned], laidTests := true, laidLooks := .later }
def ShareIsUptoCardSaid : Prop := Claim7.holds Tryd.pinned (.plain (OpenSpec.upto shareIsSpec)) shareIsUptoCard

/-- THE SECOND FORM's CARD OF 'towncrierlaw17.ShareBack'. -/
def shareBackUptoCard : Claim7 := { stood := { row := shareBackUptoRow, standIns := [], harness := (true, "f1f3e024719b303c3595db87d14f0883bc1e7afe167de07fc85508eacd47e9a2"), looks := false }, kinds := [], alts := [], laidByText := true, laidKinds := [.data, .sentinel, .sentinel, .pinned], laidTests := true, laidLooks := .later }
def ShareBackUptoCardSaid : Prop := Claim7.holds Tryd.pinned (.plain (OpenSpec.upto shareBackSpec)) shareBackUptoCard

/-- THE SECOND FORM's CARD OF 'towncrierlaw17.ShareKeys'. -/
def shareKeysUptoCard : Claim7 := { stood := { row := shareKeysUptoRow, standIns := [], harness := (true, "f1f3e024719b303c3595db87d14f0883bc1e7afe167de07fc85508eacd47e9a2"), looks := false }, kinds := [], alts := [], laidByText := true, laidKinds := [.data, .sentinel, .sentinel, .pinned], laidTests := true, laidLooks := .later }
def ShareKeysUptoCardSaid : Prop := Claim7.holds Tryd.pinned (.plain (OpenSpec.upto shareKeysSpec)) shareKeysUptoCard

/-- THE SECOND FORM's CARD OF 'towncrierlaw17.ShareStrategy'. -/
def shareStrategyUptoCard : Claim7 := { stood := { row := shareStrategyUptoRow, standIns := [], harness := (true, "f1f3e024719b303c3595db87d14f0883bc1e7afe167de07fc85508eacd47e9a2"), looks := false }, kinds := [], alts := [], laidByText := true, laidKinds := [.data, .sentinel, .sentinel, .pinned], laidTests := true, laidLooks := .later }
def ShareStrategyUptoCardSaid : Prop := Claim7.holds Tryd.pinned (.plain (OpenSpec.upto shareStrategySpec)) shareStrategyUptoCard

/-- THE SECOND FORM's CARD OF 'towncrierlaw19.RetainPlays'. -/
def retainPlaysUptoCard : Claim7 := { stood := { row := retainPlaysUptoRow, standIns := [], harness := (true, "f1f3e024719b303c3595db87d14f0883bc1e7afe167de07fc85508eacd47e9a2"), looks := false }, kinds := [], alts := [], laidByText := true, laidKinds := [.data, .sentinel, .sentinel, .pinned], laidTests := true, laidLooks := .later }
def RetainPlaysUptoCardSaid : Prop := Claim7.holds Tryd.pinned (.plain (OpenSpec.upto retainPlaysSpec)) retainPlaysUptoCard

/-- THE SECOND FORM's CARD OF 'towncrierlaw19.RetainLast'. -/
def retainLastUptoCard : Claim7 := { stood := { row := retainLastUptoRow, standIns := [], harness := (true, "f1f3e024719b303c3595db87d14f0883bc1e7afe167de07fc85508eacd47e9a2"), looks := false }, kinds := [], alts := [], laidByText := true, laidKinds := [.data, .sentinel, .sentinel, .pinned], laidTests := true, laidLooks := .later }
def RetainLastUptoCardSaid : Prop := Claim7.holds Tryd.pinned (.plain (OpenSpec.upto retainLastSpec)) retainLastUptoCard

/-- THE SECOND FORM's CARD OF 'towncrierlaw19.RetainNobody'. -/
def retainNobodyUptoCard : Claim7 := { stood := { row := retainNobodyUptoRow, standIns := [], harness := (true, "f1f3e024719b303c3595db87d14f0883bc1e7afe167de07fc85508eacd47e9a2"), looks := false }, kinds := [], alts := [], laidByText := true, laidKinds := [.data, .sentinel, .sentinel, .pinned], laidTests := true, laidLooks := .later }
def RetainNobodyUptoCardSaid : Prop := Claim7.holds Tryd.pinned (.plain (OpenSpec.upto retainNobodySpec)) retainNobodyUptoCard

/-- THE SECOND FORM's CARD OF 'towncrierlaw18.TrieOrder'. -/
def trieOrderUptoCard : Claim7 := { stood := { row := trieOrderUptoRow, standIns := [], harness := (true, "f1f3e024719b303c3595db87d14f0883bc1e7afe167de07fc85508eacd47e9a2"), looks := false }, kinds := [], alts := [], laidByText := true, laidKinds := [.data, .sentinel, .sentinel, .pinned], laidTests := true, laidLooks := .later }
def TrieOrderUptoCardSaid : Prop := Claim7.holds Tryd.pinned (.plain (OpenSpec.upto trieOrderSpec)) trieOrderUptoCard

/-- THE SECOND FORM's CARD OF 'towncrierlaw18.TrieClean'. -/
def trieCleanUptoCard : Claim7 := { stood := { row := trieCleanUptoRow, standIns := [], harness := (true, "f1f3e024719b303c3595db87d14f0883bc1e7afe167de07fc85508eacd47e9a2"), looks := false }, kinds := [], alts := [], laidByText := true, laidKinds := [.data, .sentinel, .sentinel, .pinned], laidTests := true, laidLooks := .later }
def TrieCleanUptoCardSaid : Prop := Claim7.holds Tryd.pinned (.plain (OpenSpec.upto trieCleanSpec)) trieCleanUptoCard
end Rows
end Go.Proofs.YtnognmnjlnokeaaDoor
