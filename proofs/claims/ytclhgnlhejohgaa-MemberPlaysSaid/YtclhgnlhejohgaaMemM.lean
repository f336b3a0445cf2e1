/- MemberPlays: both members side by side. -/
import Derived.Test.YtclhgnlhejohgaaMemL
set_option linter.unusedVariables false
set_option linter.unusedSimpArgs false
namespace Go.Proofs.Ytclhgnlhejohgaa.MemW
open Go.RowKit Go.Proofs.Ytclhgnlhejohgaa.Tc Go.Proofs.Ytclhgnlhejohgaa.MemP
open Go.Proofs.Ytclhgnlhejohgaa.PickW (OwnS Newer kS kI cells9 str_cell strs_new alloc_below)

/-- Both, with the same members. -/
structure Two (w wr : World) (v v2 : Value) (ms : List Mem) (gen : Int) : Prop where
  st : St w wr w.heap.size v ms gen
  rat : RAt wr (w.heap.size + 1) v2 ms gen
  new2 : Newer w v2
  dis : ∀ g, v.ownBlock = some g → v2.ownBlock = some g → False
/-- Between the two acts. -/
structure Mid (w wr : World) (v v2 : Value) (ms : List Mem) (gen : Int) (ms2 : List Mem) (gen2 : Int) : Prop where
  st : St w wr w.heap.size v ms gen
  rat : RAt wr (w.heap.size + 1) v2 ms2 gen2
  new2 : Newer w v2
  dis : ∀ g, v.ownBlock = some g → v2.ownBlock = some g → False
theorem Two.below {w wr w' : World} {v v2 : Value} {ms : List Mem} {gen : Int} (h : Two w wr v v2 ms gen) (hb : Below wr.heap.size wr w') : Two w w' v v2 ms gen := ⟨h.st.below hb, h.rat.below hb, h.new2, h.dis⟩
theorem Mid.below {w wr w' : World} {v v2 : Value} {ms : List Mem} {gen : Int} {ms2 : List Mem} {gen2 : Int} (h : Mid w wr v v2 ms gen ms2 gen2) (hb : Below wr.heap.size wr w') : Mid w w' v v2 ms gen ms2 gen2 := ⟨h.st.below hb, h.rat.below hb, h.new2, h.dis⟩
theorem Two.made (w : World) : Two w ((w.alloc (.cells #[.slice none 0 0, .int .i64 0] 57)).alloc (.cells #[.slice none 0 0, .int .i64 0] 60)) (.slice none 0 0) (.slice none 0 0) [] 0 := by
  have h := (St.made w w (Below.refl _ _)).below (alloc_below _ (.cells #[.slice none 0 0, .int .i64 0] 60))
  have hz := heap_alloc_new (w.alloc (.cells #[.slice none 0 0, .int .i64 0] 57)) (.cells #[.slice none 0 0, .int .i64 0] 60)
  have hs : (w.alloc (.cells #[.slice none 0 0, .int .i64 0] 57)).heap.size = w.heap.size + 1 := by simp
  rw [hs] at hz
  exact ⟨h, ⟨hz, Row.nil _⟩, PickW.Newer.nil _, by intro g hg; simp [Value.ownBlock] at hg⟩
/-- The member's act: the reference is as it was. -/
theorem Two.act {w wr w' : World} {v v2 : Value} {ms : List Mem} {gen : Int} (h : Two w wr v v2 ms gen) {r : Bool × List Mem × Int} {e : Ending} (hp : APost w.heap.size v wr r e w') :
    ∃ v', e = .returned (.bool r.1) ∧ Mid w w' v' v2 r.2.1 r.2.2 ms gen := by
  have hp0 := hp
  obtain ⟨v', he, hst⟩ := h.st.step hp
  obtain ⟨v'', he', -, ht⟩ := hp0
  rw [he] at he'
  obtain ⟨v3, hv3, hat3, ht3⟩ := hp
  have hs2 : ∀ g, v2.ownBlock = some g → g ∉ w.heap.size :: v.ownBlock.toList := by
    intro g hg hm
    rcases List.mem_cons.1 hm with e1 | e1
    · exact own_type_ne h.rat.row.own h.st.at_.st (by decide) g hg e1
    · exact h.dis g (by simpa using e1) hg
  have hs1 : w.heap.size + 1 ∉ w.heap.size :: v.ownBlock.toList := by
    intro hm
    rcases List.mem_cons.1 hm with e1 | e1
    · omega
    · exact own_type_ne h.st.at_.row.own h.rat.st (by decide) _ (by simpa using e1) rfl
  obtain ⟨v5, hv5, hm5⟩ : ∃ v5, e = .returned (.bool r.1) ∧ (St w w' w.heap.size v5 r.2.1 r.2.2 ∧ ∀ g, v5.ownBlock = some g → v.ownBlock = some g ∨ wr.heap.size ≤ g) := by
    refine ⟨v3, hv3, ⟨hat3, h.st.new, ?_, hst.bel⟩, ht3.loc⟩
    intro g hg
    rcases ht3.loc g hg with h1 | h1
    · exact h.st.newv g h1
    · exact Nat.le_trans h.st.bel.size h1
  refine ⟨v5, hv5, hm5.1, h.rat.kept ht3.tch hs1 hs2, h.new2, ?_⟩
  intro g hg hg2
  rcases hm5.2 g hg with h1 | h1
  · exact h.dis g h1 hg2
  · have := own_lt h.rat.row.own hg2; omega
/-- The reference's act: the member is as it was. -/
theorem Mid.act {w wr w' : World} {v v2 v3 : Value} {ms ms2 ms3 : List Mem} {gen gen2 gen3 : Int} (h : Mid w wr v v2 ms gen ms2 gen2) (ha : RAt w' (w.heap.size + 1) v3 ms3 gen3) (hn : Newer wr v3) (ht : Tch [w.heap.size + 1] wr w') :
    Mid w w' v v3 ms gen ms3 gen3 := by
  have hs1 : w.heap.size ∉ [w.heap.size + 1] := by simp
  have hs2 : ∀ g, v.ownBlock = some g → g ∉ [w.heap.size + 1] := by intro g hg; simpa using own_type_ne h.st.at_.row.own h.rat.st (by decide) g hg
  refine ⟨⟨h.st.at_.kept ht hs1 hs2, h.st.new, h.st.newv, h.st.bel.trans (ht.below h.st.bel.size (by simp))⟩, ha, fun g hg => Nat.le_trans h.st.bel.size (hn g hg), ?_⟩
  intro g hg hg2
  have h1 := own_lt h.st.at_.row.own hg
  have h2 := hn g hg2
  omega
theorem Mid.two {w wr : World} {v v2 : Value} {ms : List Mem} {gen : Int} (h : Mid w wr v v2 ms gen ms gen) : Two w wr v v2 ms gen := ⟨h.st, h.rat, h.new2, h.dis⟩
end Go.Proofs.Ytclhgnlhejohgaa.MemW
