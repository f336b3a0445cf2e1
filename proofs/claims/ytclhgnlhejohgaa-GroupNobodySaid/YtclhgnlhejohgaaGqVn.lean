/- A group's queue: groups that nobody made have nothing. -/
import Derived.Test.YtclhgnlhejohgaaGqU
import Derived.Test.YtclhgnlhejohgaaMemE
import Derived.Deep.CutBlock
set_option linter.unusedVariables false
set_option linter.unusedSimpArgs false
namespace Go.Proofs.Ytclhgnlhejohgaa.GrpW
open Go.RowKit Go.Proofs.Ytclhgnlhejohgaa.Tc Go.Proofs.Ytclhgnlhejohgaa.GrpP
open Go.Proofs.Ytclhgnlhejohgaa.PickW (kS)
open Go.Proofs.Ytclhgnlhejohgaa.MemW (put4 put4_below)

theorem join_nil (w : World) (c : ByteArray) (q : Int) : Calls Try.prog 82 #[.pointer none, .string c, .int .i64 q] w fun e w' => e = .returned (.bool false) ∧ Below w.heap.size w w' := by
  have HB := Lib.hid (Below.refl w.heap.size w)
  go_enter Try.func82, Try.ntmps82
  go_wp2_with fail
  go_ret
  exact ⟨rfl, HB.out⟩
theorem leave_nil (w : World) (c : ByteArray) : Calls Try.prog 84 #[.pointer none, .string c] w fun e w' => e = .returned (.bool false) ∧ Below w.heap.size w w' := by
  have HF := Lib.hid (MemW.find_nil w c)
  go_enter Try.func84, Try.ntmps84
  go_wp2_with fail
  refine HF.out.mono ?_
  rintro e w2 ⟨rfl, hb⟩
  have HB := Lib.hid hb
  clear hb
  go_wp2_with fail
  go_ret
  exact ⟨rfl, HB.out⟩
theorem online_nil (w : World) (c : ByteArray) (is : Bool) : Calls Try.prog 83 #[.pointer none, .string c, .bool is] w fun e w' => e = .returned (.bool false) ∧ Below w.heap.size w w' := by
  have HF := Lib.hid (MemW.find_nil w c)
  go_enter Try.func83, Try.ntmps83
  go_wp2_with fail
  refine HF.out.mono ?_
  rintro e w2 ⟨rfl, hb⟩
  have HB := Lib.hid hb
  clear hb
  go_wp2_with fail
  go_ret
  exact ⟨rfl, HB.out⟩
def Zg : Obj := .cells #[.pointer none, .string ByteArray.empty, .int .i64 0, .int .i64 0, .slice none 0 0, .string ByteArray.empty] 93 (0, 0)
/-- Nobody made it. -/
def Non (w : World) (p : Option Addr) : Prop := p = none ∨ ∃ g, p = some ⟨g, 0, none⟩ ∧ w.heap[g]? = some Zg
theorem Non.below {w w' : World} {p : Option Addr} (h : Non w p) (hb : Below w.heap.size w w') : Non w' p := by
  rcases h with h | ⟨g, h1, h2⟩
  · exact .inl h
  · exact .inr ⟨g, h1, (hb.block g (lt_of_block h2)).trans h2⟩
theorem all_no (w : World) : Calls Try.prog 50 #[.pointer none] w fun e w' => e = .returned (.slice none 0 0) ∧ Below w.heap.size w w' := (MemW.all_nil w).mono fun e w' ⟨h1, h2⟩ => ⟨h1, h2 ▸ Below.refl _ _⟩
theorem gen_no (w : World) : Calls Try.prog 56 #[.pointer none] w fun e w' => e = .returned (.int .i64 0) ∧ Below w.heap.size w w' := (MemW.gen_nil w).mono fun e w' ⟨h1, h2⟩ => ⟨h1, h2 ▸ Below.refl _ _⟩
theorem get_no (w : World) (c : ByteArray) : Calls Try.prog 47 #[.pointer none, .string c] w fun e w' => e = .returned (.tuple #[.agg #[.string ⟨#[]⟩, .int .i64 0, .int .i64 0, .bool false], .bool false]) ∧ Below w.heap.size w w' := by
  have hb0 := alloc_below w (.cells #[.string ⟨#[]⟩, .int .i64 0, .int .i64 0, .bool false] 66)
  have HF := Lib.hid (MemW.find_nil (w.alloc (.cells #[.string ⟨#[]⟩, .int .i64 0, .int .i64 0, .bool false] 66)) c)
  have HB0 := Lib.hid hb0
  clear hb0
  go_enter Try.func47, Try.ntmps47
  go_wp2_with fail
  refine HF.out.mono ?_
  rintro e w2 ⟨rfl, hb⟩
  have HB := Lib.hid (then_below HB0.out hb)
  have hbl := hb.block w.heap.size (by simp)
  have z := heap_alloc_new w (.cells #[.string ⟨#[]⟩, .int .i64 0, .int .i64 0, .bool false] 66)
  have c0 : w2.cell? ⟨w.heap.size, 0, none⟩ = some (.string ⟨#[]⟩) := cell_of (hbl.trans z) rfl
  have c1 : w2.cell? ⟨w.heap.size, 1, none⟩ = some (.int .i64 0) := cell_of (hbl.trans z) rfl
  have c2 : w2.cell? ⟨w.heap.size, 2, none⟩ = some (.int .i64 0) := cell_of (hbl.trans z) rfl
  have c3 : w2.cell? ⟨w.heap.size, 3, none⟩ = some (.bool false) := cell_of (hbl.trans z) rfl
  have f0 := free_of (hbl.trans z) 0
  have f1 := free_of (hbl.trans z) 1
  have f2 := free_of (hbl.trans z) 2
  have f3 := free_of (hbl.trans z) 3
  have hp := put4 (hbl.trans z) (.string ⟨#[]⟩) (.int .i64 0) (.int .i64 0) (.bool false)
  have p0 := cell_of hp (o := 0) (v := .string ⟨#[]⟩) rfl
  have p1 := cell_of hp (o := 1) (v := .int .i64 0) rfl
  have p2 := cell_of hp (o := 2) (v := .int .i64 0) rfl
  have p3 := cell_of hp (o := 3) (v := .bool false) rfl
  have HBE := Lib.hid (put4_below HB.out (.string ⟨#[]⟩) (.int .i64 0) (.int .i64 0) (.bool false))
  clear hb hbl z hp
  go_wp2_with fail
  exact bodyPost_ret (v := .tuple #[.agg #[.string ⟨#[]⟩, .int .i64 0, .int .i64 0, .bool false], .bool false]) (by simp [results, Try.results47, go_sem, *]) rfl ⟨rfl, HBE.out⟩
set_option maxRecDepth 100000 in
set_option maxHeartbeats 2000000 in
theorem of_no (w : World) (p : Option Addr) (hn : Non w p)  :
    Calls Try.prog 91 #[.pointer p] w fun e w' => e = .returned (.pointer none) ∧ Below w.heap.size w w' := by
  have HN := Lib.hid hn
  have HB := Lib.hid (Below.refl w.heap.size w)
  rcases hn with rfl | ⟨g, rfl, hz⟩
  · go_enter Try.func91, Try.ntmps91
    go_wp2_with fail
    go_ret
    exact ⟨rfl, HB.out⟩
  · have c0 : w.cell? ⟨g, 0, none⟩ = some (.pointer none) := cell_of hz rfl
    have c1 : w.cell? ⟨g, 1, none⟩ = some (.string ByteArray.empty) := cell_of hz rfl
    have c2 : w.cell? ⟨g, 2, none⟩ = some (.int .i64 0) := cell_of hz rfl
    have c3 : w.cell? ⟨g, 3, none⟩ = some (.int .i64 0) := cell_of hz rfl
    have c4 : w.cell? ⟨g, 4, none⟩ = some (.slice none 0 0) := cell_of hz rfl
    have c5 : w.cell? ⟨g, 5, none⟩ = some (.string ByteArray.empty) := cell_of hz rfl
    clear hz
    go_enter Try.func91, Try.ntmps91
    go_wp2_with fail
    go_ret
    exact ⟨rfl, HB.out⟩
set_option maxRecDepth 100000 in
set_option maxHeartbeats 2000000 in
theorem key_no (w : World) (p : Option Addr) (hn : Non w p)  :
    Calls Try.prog 74 #[.pointer p] w fun e w' => e = .returned (.string ByteArray.empty) ∧ Below w.heap.size w w' := by
  have HN := Lib.hid hn
  have HB := Lib.hid (Below.refl w.heap.size w)
  rcases hn with rfl | ⟨g, rfl, hz⟩
  · go_enter Try.func74, Try.ntmps74
    go_wp2_with fail
    go_ret
    exact ⟨rfl, HB.out⟩
  · have c0 : w.cell? ⟨g, 0, none⟩ = some (.pointer none) := cell_of hz rfl
    have c1 : w.cell? ⟨g, 1, none⟩ = some (.string ByteArray.empty) := cell_of hz rfl
    have c2 : w.cell? ⟨g, 2, none⟩ = some (.int .i64 0) := cell_of hz rfl
    have c3 : w.cell? ⟨g, 3, none⟩ = some (.int .i64 0) := cell_of hz rfl
    have c4 : w.cell? ⟨g, 4, none⟩ = some (.slice none 0 0) := cell_of hz rfl
    have c5 : w.cell? ⟨g, 5, none⟩ = some (.string ByteArray.empty) := cell_of hz rfl
    clear hz
    go_enter Try.func74, Try.ntmps74
    go_wp2_with fail
    go_ret
    exact ⟨rfl, HB.out⟩
set_option maxRecDepth 100000 in
set_option maxHeartbeats 2000000 in
theorem strategy_no (w : World) (p : Option Addr) (hn : Non w p)  :
    Calls Try.prog 72 #[.pointer p] w fun e w' => e = .returned (.int .i64 0) ∧ Below w.heap.size w w' := by
  have HN := Lib.hid hn
  have HB := Lib.hid (Below.refl w.heap.size w)
  rcases hn with rfl | ⟨g, rfl, hz⟩
  · go_enter Try.func72, Try.ntmps72
    go_wp2_with fail
    go_ret
    exact ⟨rfl, HB.out⟩
  · have c0 : w.cell? ⟨g, 0, none⟩ = some (.pointer none) := cell_of hz rfl
    have c1 : w.cell? ⟨g, 1, none⟩ = some (.string ByteArray.empty) := cell_of hz rfl
    have c2 : w.cell? ⟨g, 2, none⟩ = some (.int .i64 0) := cell_of hz rfl
    have c3 : w.cell? ⟨g, 3, none⟩ = some (.int .i64 0) := cell_of hz rfl
    have c4 : w.cell? ⟨g, 4, none⟩ = some (.slice none 0 0) := cell_of hz rfl
    have c5 : w.cell? ⟨g, 5, none⟩ = some (.string ByteArray.empty) := cell_of hz rfl
    clear hz
    go_enter Try.func72, Try.ntmps72
    go_wp2_with fail
    go_ret
    exact ⟨rfl, HB.out⟩
set_option maxRecDepth 100000 in
set_option maxHeartbeats 2000000 in
theorem generation_no (w : World) (p : Option Addr) (hn : Non w p)  :
    Calls Try.prog 71 #[.pointer p] w fun e w' => e = .returned (.int .i64 0) ∧ Below w.heap.size w w' := by
  have HN := Lib.hid hn
  have HB := Lib.hid (Below.refl w.heap.size w)
  rcases hn with rfl | ⟨g, rfl, hz⟩
  · go_enter Try.func71, Try.ntmps71
    have HX := Lib.hid (of_no w _ HN.out)
    go_wp2_with fail
    refine HX.out.mono ?_
    rintro e w1 ⟨rfl, hb⟩
    have HB1 := Lib.hid (then_below HB.out hb)
    have HN1 := Lib.hid (HN.out.below hb)
    clear hb HX
    have HX := Lib.hid (gen_no w1)
    go_wp2_with fail
    refine HX.out.mono ?_
    rintro e w2 ⟨rfl, hb⟩
    have HB2 := Lib.hid (then_below HB1.out hb)
    have HN2 := Lib.hid (HN1.out.below hb)
    clear hb HX
    go_wp2_with fail
    go_ret
    exact ⟨rfl, HB2.out⟩
  · have c0 : w.cell? ⟨g, 0, none⟩ = some (.pointer none) := cell_of hz rfl
    have c1 : w.cell? ⟨g, 1, none⟩ = some (.string ByteArray.empty) := cell_of hz rfl
    have c2 : w.cell? ⟨g, 2, none⟩ = some (.int .i64 0) := cell_of hz rfl
    have c3 : w.cell? ⟨g, 3, none⟩ = some (.int .i64 0) := cell_of hz rfl
    have c4 : w.cell? ⟨g, 4, none⟩ = some (.slice none 0 0) := cell_of hz rfl
    have c5 : w.cell? ⟨g, 5, none⟩ = some (.string ByteArray.empty) := cell_of hz rfl
    clear hz
    go_enter Try.func71, Try.ntmps71
    have HX := Lib.hid (of_no w _ HN.out)
    go_wp2_with fail
    refine HX.out.mono ?_
    rintro e w1 ⟨rfl, hb⟩
    have HB1 := Lib.hid (then_below HB.out hb)
    have HN1 := Lib.hid (HN.out.below hb)
    clear hb HX
    have HX := Lib.hid (gen_no w1)
    go_wp2_with fail
    refine HX.out.mono ?_
    rintro e w2 ⟨rfl, hb⟩
    have HB2 := Lib.hid (then_below HB1.out hb)
    have HN2 := Lib.hid (HN1.out.below hb)
    clear hb HX
    go_wp2_with fail
    go_ret
    exact ⟨rfl, HB2.out⟩
set_option maxRecDepth 100000 in
set_option maxHeartbeats 2000000 in
theorem members_no (w : World) (p : Option Addr) (hn : Non w p)  :
    Calls Try.prog 64 #[.pointer p] w fun e w' => e = .returned (.slice none 0 0) ∧ Below w.heap.size w w' := by
  have HN := Lib.hid hn
  have HB := Lib.hid (Below.refl w.heap.size w)
  rcases hn with rfl | ⟨g, rfl, hz⟩
  · go_enter Try.func64, Try.ntmps64
    have HX := Lib.hid (of_no w _ HN.out)
    go_wp2_with fail
    refine HX.out.mono ?_
    rintro e w1 ⟨rfl, hb⟩
    have HB1 := Lib.hid (then_below HB.out hb)
    have HN1 := Lib.hid (HN.out.below hb)
    clear hb HX
    have HX := Lib.hid (all_no w1)
    go_wp2_with fail
    refine HX.out.mono ?_
    rintro e w2 ⟨rfl, hb⟩
    have HB2 := Lib.hid (then_below HB1.out hb)
    have HN2 := Lib.hid (HN1.out.below hb)
    clear hb HX
    go_wp2_with fail
    go_ret
    exact ⟨rfl, HB2.out⟩
  · have c0 : w.cell? ⟨g, 0, none⟩ = some (.pointer none) := cell_of hz rfl
    have c1 : w.cell? ⟨g, 1, none⟩ = some (.string ByteArray.empty) := cell_of hz rfl
    have c2 : w.cell? ⟨g, 2, none⟩ = some (.int .i64 0) := cell_of hz rfl
    have c3 : w.cell? ⟨g, 3, none⟩ = some (.int .i64 0) := cell_of hz rfl
    have c4 : w.cell? ⟨g, 4, none⟩ = some (.slice none 0 0) := cell_of hz rfl
    have c5 : w.cell? ⟨g, 5, none⟩ = some (.string ByteArray.empty) := cell_of hz rfl
    clear hz
    go_enter Try.func64, Try.ntmps64
    have HX := Lib.hid (of_no w _ HN.out)
    go_wp2_with fail
    refine HX.out.mono ?_
    rintro e w1 ⟨rfl, hb⟩
    have HB1 := Lib.hid (then_below HB.out hb)
    have HN1 := Lib.hid (HN.out.below hb)
    clear hb HX
    have HX := Lib.hid (all_no w1)
    go_wp2_with fail
    refine HX.out.mono ?_
    rintro e w2 ⟨rfl, hb⟩
    have HB2 := Lib.hid (then_below HB1.out hb)
    have HN2 := Lib.hid (HN1.out.below hb)
    clear hb HX
    go_wp2_with fail
    go_ret
    exact ⟨rfl, HB2.out⟩
set_option maxHeartbeats 2000000 in
theorem items_no (w : World) (p : Option Addr) (hn : Non w p) : Calls Try.prog 63 #[.pointer p] w fun e w' => (∃ A c, e = .returned (.slice A 0 c)) ∧ Below w.heap.size w w' := by
  rcases hn with rfl | ⟨g, rfl, hz⟩
  · go_enter Try.func63, Try.ntmps63
    go_wp2_with fail
    go_ret
    exact ⟨⟨none, 0, rfl⟩, Below.refl _ _⟩
  · have c4 : w.cell? ⟨g, 4, none⟩ = some (.slice none 0 0) := cell_of hz rfl
    have HX := Lib.hid (cloneI_any w none 0 [] (fun h => absurd h (Nat.lt_irrefl 0)) (by decide))
    rw [List.length_nil] at HX
    clear hz
    go_enter Try.func63, Try.ntmps63
    go_wp2_with fail
    refine HX.out.mono ?_
    rintro e w1 ⟨⟨v, rfl, ho, -⟩, hb⟩
    obtain ⟨A, c, rfl⟩ := own_form (n := 0) ho
    have HB := Lib.hid hb
    clear ho hb
    go_wp2_with fail
    go_ret
    exact ⟨⟨A, c, rfl⟩, HB.out⟩
theorem room_no (w : World) (p : Option Addr) (hn : Non w p) : Calls Try.prog 70 #[.pointer p] w fun e w' => e = .returned (.int .i64 0) ∧ Below w.heap.size w w' := by
  rcases hn with rfl | ⟨g, rfl, hz⟩
  · go_enter Try.func70, Try.ntmps70
    go_wp2_with fail
    go_ret
    exact ⟨rfl, Below.refl _ _⟩
  · have c3 : w.cell? ⟨g, 3, none⟩ = some (.int .i64 0) := cell_of hz rfl
    have c4 : w.cell? ⟨g, 4, none⟩ = some (.slice none 0 0) := cell_of hz rfl
    clear hz
    go_enter Try.func70, Try.ntmps70
    go_wp2
    go_quiet (fail)
    go_wp2
    go_ret
    exact ⟨rfl, Dr.below ⟨_, rfl⟩⟩
theorem idx_nil (q : Tc.It → Bool) : gidx ([] : List Tc.It) q = -1 := rfl
set_option maxRecDepth 100000 in
set_option maxHeartbeats 2000000 in
theorem idle_no (w : World) (p : Option Addr) (hn : Non w p)  :
    Calls Try.prog 73 #[.pointer p] w fun e w' => e = .returned (.bool true) ∧ Below w.heap.size w w' := by
  have HN := Lib.hid hn
  have HB := Lib.hid (Below.refl w.heap.size w)
  rcases hn with rfl | ⟨g, rfl, hz⟩
  · go_enter Try.func73, Try.ntmps73
    have HX := Lib.hid (members_no w _ HN.out)
    go_wp2_with fail
    refine HX.out.mono ?_
    rintro e w1 ⟨rfl, hb⟩
    have HB1 := Lib.hid (then_below HB.out hb)
    have HN1 := Lib.hid (HN.out.below hb)
    clear hb HX
    have HX := Lib.hid (items_no w1 _ HN1.out)
    go_wp2_with fail
    refine HX.out.mono ?_
    rintro e w2 ⟨⟨A, c, rfl⟩, hb⟩
    have HB2 := Lib.hid (then_below HB1.out hb)
    have HN2 := Lib.hid (HN1.out.below hb)
    clear hb HX
    go_wp2_with fail
    go_ret
    exact ⟨rfl, HB2.out⟩
  · have c0 : w.cell? ⟨g, 0, none⟩ = some (.pointer none) := cell_of hz rfl
    have c1 : w.cell? ⟨g, 1, none⟩ = some (.string ByteArray.empty) := cell_of hz rfl
    have c2 : w.cell? ⟨g, 2, none⟩ = some (.int .i64 0) := cell_of hz rfl
    have c3 : w.cell? ⟨g, 3, none⟩ = some (.int .i64 0) := cell_of hz rfl
    have c4 : w.cell? ⟨g, 4, none⟩ = some (.slice none 0 0) := cell_of hz rfl
    have c5 : w.cell? ⟨g, 5, none⟩ = some (.string ByteArray.empty) := cell_of hz rfl
    clear hz
    go_enter Try.func73, Try.ntmps73
    have HX := Lib.hid (members_no w _ HN.out)
    go_wp2_with fail
    refine HX.out.mono ?_
    rintro e w1 ⟨rfl, hb⟩
    have HB1 := Lib.hid (then_below HB.out hb)
    have HN1 := Lib.hid (HN.out.below hb)
    clear hb HX
    have HX := Lib.hid (items_no w1 _ HN1.out)
    go_wp2_with fail
    refine HX.out.mono ?_
    rintro e w2 ⟨⟨A, c, rfl⟩, hb⟩
    have HB2 := Lib.hid (then_below HB1.out hb)
    have HN2 := Lib.hid (HN1.out.below hb)
    clear hb HX
    go_wp2_with fail
    go_ret
    exact ⟨rfl, HB2.out⟩
set_option maxRecDepth 100000 in
set_option maxHeartbeats 2000000 in
theorem index1_no (w : World) (p : Option Addr) (hn : Non w p) (b : Nat) (n : Int) :
    Calls Try.prog 89 #[.pointer p, .func (.func 90) #[] #[.pointer (some ⟨b, 0, none⟩)]] w fun e w' => e = .returned (.int .i64 (-1)) ∧ Below w.heap.size w w' := by
  have HN := Lib.hid hn
  have HB := Lib.hid (Below.refl w.heap.size w)
  rcases hn with rfl | ⟨g, rfl, hz⟩
  · go_enter Try.func89, Try.ntmps89
    go_wp2_with fail
    go_ret
    exact ⟨rfl, HB.out⟩
  · have c0 : w.cell? ⟨g, 0, none⟩ = some (.pointer none) := cell_of hz rfl
    have c1 : w.cell? ⟨g, 1, none⟩ = some (.string ByteArray.empty) := cell_of hz rfl
    have c2 : w.cell? ⟨g, 2, none⟩ = some (.int .i64 0) := cell_of hz rfl
    have c3 : w.cell? ⟨g, 3, none⟩ = some (.int .i64 0) := cell_of hz rfl
    have c4 : w.cell? ⟨g, 4, none⟩ = some (.slice none 0 0) := cell_of hz rfl
    have c5 : w.cell? ⟨g, 5, none⟩ = some (.string ByteArray.empty) := cell_of hz rfl
    clear hz
    go_enter Try.func89, Try.ntmps89
    have HX := Lib.hid (show Calls Try.prog 105 #[.slice none 0 0, .func (.func 90) #[] #[.pointer (some ⟨b, 0, none⟩)]] w fun e w' => e = .returned (.int .i64 (-1)) ∧ Below w.heap.size w w' from indexI1_any 90 b (isSeq n) (enters_of Try.func90 (by kernel_rfl) rfl) w [] (fun x V hx _ => absurd hx List.not_mem_nil) none 0 (SliceIs.nil _ _ _))
    go_wp2_with fail
    refine HX.out.mono ?_
    rintro e w1 ⟨rfl, hb⟩
    have HB1 := Lib.hid (then_below HB.out hb)
    have HN1 := Lib.hid (HN.out.below hb)
    clear hb HX
    go_wp2_with fail
    go_ret
    exact ⟨rfl, HB1.out⟩
set_option maxRecDepth 100000 in
set_option maxHeartbeats 2000000 in
theorem index2_no (w : World) (p : Option Addr) (hn : Non w p) (b1 b2 : Nat) (n : Int) (s : ByteArray) :
    Calls Try.prog 89 #[.pointer p, .func (.func 106) #[] #[.pointer (some ⟨b1, 0, none⟩), .pointer (some ⟨b2, 0, none⟩)]] w fun e w' => e = .returned (.int .i64 (-1)) ∧ Below w.heap.size w w' := by
  have HN := Lib.hid hn
  have HB := Lib.hid (Below.refl w.heap.size w)
  rcases hn with rfl | ⟨g, rfl, hz⟩
  · go_enter Try.func89, Try.ntmps89
    go_wp2_with fail
    go_ret
    exact ⟨rfl, HB.out⟩
  · have c0 : w.cell? ⟨g, 0, none⟩ = some (.pointer none) := cell_of hz rfl
    have c1 : w.cell? ⟨g, 1, none⟩ = some (.string ByteArray.empty) := cell_of hz rfl
    have c2 : w.cell? ⟨g, 2, none⟩ = some (.int .i64 0) := cell_of hz rfl
    have c3 : w.cell? ⟨g, 3, none⟩ = some (.int .i64 0) := cell_of hz rfl
    have c4 : w.cell? ⟨g, 4, none⟩ = some (.slice none 0 0) := cell_of hz rfl
    have c5 : w.cell? ⟨g, 5, none⟩ = some (.string ByteArray.empty) := cell_of hz rfl
    clear hz
    go_enter Try.func89, Try.ntmps89
    have HX := Lib.hid (show Calls Try.prog 105 #[.slice none 0 0, .func (.func 106) #[] #[.pointer (some ⟨b1, 0, none⟩), .pointer (some ⟨b2, 0, none⟩)]] w fun e w' => e = .returned (.int .i64 (-1)) ∧ Below w.heap.size w w' from indexI2_any 106 b1 b2 (isWith n s) (enters_of Try.func106 (by kernel_rfl) rfl) w [] (fun x V hx _ => absurd hx List.not_mem_nil) none 0 (SliceIs.nil _ _ _))
    go_wp2_with fail
    refine HX.out.mono ?_
    rintro e w1 ⟨rfl, hb⟩
    have HB1 := Lib.hid (then_below HB.out hb)
    have HN1 := Lib.hid (HN.out.below hb)
    clear hb HX
    go_wp2_with fail
    go_ret
    exact ⟨rfl, HB1.out⟩
set_option maxHeartbeats 2000000 in
theorem with_no (w : World) (p : Option Addr) (hn : Non w p) (n : Int) (c : ByteArray) : Calls Try.prog 94 #[.pointer p, .int .i64 n, .string c] w fun e w' => e = .returned (.int .i64 (-1)) ∧ Below w.heap.size w w' := by
  have hb1 := alloc_below w (.cells #[.int .i64 n] 3)
  have hb2 := alloc_below (w.alloc (.cells #[.int .i64 n] 3)) (.cells #[.string c] 9)
  have HB2 := Lib.hid (then_below hb1 hb2)
  have HX := Lib.hid (index2_no _ p (hn.below HB2.out) (w.heap.size + 1) w.heap.size n c)
  clear hn hb1 hb2
  go_enter Try.func94, Try.ntmps94
  go_wp2_with fail
  refine HX.out.mono ?_
  rintro e w1 ⟨rfl, hb⟩
  have HB := Lib.hid (then_below HB2.out hb)
  clear hb
  go_wp2_with fail
  go_ret
  exact ⟨rfl, HB.out⟩
set_option maxRecDepth 100000 in
set_option maxHeartbeats 2000000 in
theorem join_no (w : World) (p : Option Addr) (hn : Non w p) (c : ByteArray) (q : Int) :
    Calls Try.prog 87 #[.pointer p, .string c, .int .i64 q] w fun e w' => e = .returned (.bool false) ∧ Below w.heap.size w w' := by
  have HN := Lib.hid hn
  have HB := Lib.hid (Below.refl w.heap.size w)
  rcases hn with rfl | ⟨g, rfl, hz⟩
  · go_enter Try.func87, Try.ntmps87
    have HX := Lib.hid (of_no w _ HN.out)
    go_wp2_with fail
    refine HX.out.mono ?_
    rintro e w1 ⟨rfl, hb⟩
    have HB1 := Lib.hid (then_below HB.out hb)
    have HN1 := Lib.hid (HN.out.below hb)
    clear hb HX
    have HX := Lib.hid (join_nil w1 c q)
    go_wp2_with fail
    refine HX.out.mono ?_
    rintro e w2 ⟨rfl, hb⟩
    have HB2 := Lib.hid (then_below HB1.out hb)
    have HN2 := Lib.hid (HN1.out.below hb)
    clear hb HX
    go_wp2_with fail
    go_ret
    exact ⟨rfl, HB2.out⟩
  · have c0 : w.cell? ⟨g, 0, none⟩ = some (.pointer none) := cell_of hz rfl
    have c1 : w.cell? ⟨g, 1, none⟩ = some (.string ByteArray.empty) := cell_of hz rfl
    have c2 : w.cell? ⟨g, 2, none⟩ = some (.int .i64 0) := cell_of hz rfl
    have c3 : w.cell? ⟨g, 3, none⟩ = some (.int .i64 0) := cell_of hz rfl
    have c4 : w.cell? ⟨g, 4, none⟩ = some (.slice none 0 0) := cell_of hz rfl
    have c5 : w.cell? ⟨g, 5, none⟩ = some (.string ByteArray.empty) := cell_of hz rfl
    clear hz
    go_enter Try.func87, Try.ntmps87
    have HX := Lib.hid (of_no w _ HN.out)
    go_wp2_with fail
    refine HX.out.mono ?_
    rintro e w1 ⟨rfl, hb⟩
    have HB1 := Lib.hid (then_below HB.out hb)
    have HN1 := Lib.hid (HN.out.below hb)
    clear hb HX
    have HX := Lib.hid (join_nil w1 c q)
    go_wp2_with fail
    refine HX.out.mono ?_
    rintro e w2 ⟨rfl, hb⟩
    have HB2 := Lib.hid (then_below HB1.out hb)
    have HN2 := Lib.hid (HN1.out.below hb)
    clear hb HX
    go_wp2_with fail
    go_ret
    exact ⟨rfl, HB2.out⟩
set_option maxRecDepth 100000 in
set_option maxHeartbeats 2000000 in
theorem leave_no (w : World) (p : Option Addr) (hn : Non w p) (c : ByteArray) :
    Calls Try.prog 97 #[.pointer p, .string c] w fun e w' => e = .returned (.bool false) ∧ Below w.heap.size w w' := by
  have HN := Lib.hid hn
  have HB := Lib.hid (Below.refl w.heap.size w)
  rcases hn with rfl | ⟨g, rfl, hz⟩
  · go_enter Try.func97, Try.ntmps97
    have HX := Lib.hid (of_no w _ HN.out)
    go_wp2_with fail
    refine HX.out.mono ?_
    rintro e w1 ⟨rfl, hb⟩
    have HB1 := Lib.hid (then_below HB.out hb)
    have HN1 := Lib.hid (HN.out.below hb)
    clear hb HX
    have HX := Lib.hid (leave_nil w1 c)
    go_wp2_with fail
    refine HX.out.mono ?_
    rintro e w2 ⟨rfl, hb⟩
    have HB2 := Lib.hid (then_below HB1.out hb)
    have HN2 := Lib.hid (HN1.out.below hb)
    clear hb HX
    go_wp2_with fail
    go_ret
    exact ⟨rfl, HB2.out⟩
  · have c0 : w.cell? ⟨g, 0, none⟩ = some (.pointer none) := cell_of hz rfl
    have c1 : w.cell? ⟨g, 1, none⟩ = some (.string ByteArray.empty) := cell_of hz rfl
    have c2 : w.cell? ⟨g, 2, none⟩ = some (.int .i64 0) := cell_of hz rfl
    have c3 : w.cell? ⟨g, 3, none⟩ = some (.int .i64 0) := cell_of hz rfl
    have c4 : w.cell? ⟨g, 4, none⟩ = some (.slice none 0 0) := cell_of hz rfl
    have c5 : w.cell? ⟨g, 5, none⟩ = some (.string ByteArray.empty) := cell_of hz rfl
    clear hz
    go_enter Try.func97, Try.ntmps97
    have HX := Lib.hid (of_no w _ HN.out)
    go_wp2_with fail
    refine HX.out.mono ?_
    rintro e w1 ⟨rfl, hb⟩
    have HB1 := Lib.hid (then_below HB.out hb)
    have HN1 := Lib.hid (HN.out.below hb)
    clear hb HX
    have HX := Lib.hid (leave_nil w1 c)
    go_wp2_with fail
    refine HX.out.mono ?_
    rintro e w2 ⟨rfl, hb⟩
    have HB2 := Lib.hid (then_below HB1.out hb)
    have HN2 := Lib.hid (HN1.out.below hb)
    clear hb HX
    go_wp2_with fail
    go_ret
    exact ⟨rfl, HB2.out⟩
set_option maxHeartbeats 2000000 in
theorem online_no (w : World) (p : Option Addr) (hn : Non w p) (c : ByteArray) (is : Bool) : Calls Try.prog 98 #[.pointer p, .string c, .bool is] w fun e w' => e = .returned (.bool false) ∧ Below w.heap.size w w' := by
  have HN := Lib.hid hn
  have HX := Lib.hid (of_no w p hn)
  clear hn
  go_enter Try.func98, Try.ntmps98
  go_wp2_with fail
  refine HX.out.mono ?_
  rintro e w1 ⟨rfl, hb⟩
  have HB1 := Lib.hid hb
  have HX := Lib.hid (get_no w1 c)
  clear hb
  go_wp2_with fail
  refine HX.out.mono ?_
  rintro e w2 ⟨rfl, hb⟩
  have HB2 := Lib.hid (then_below (then_below HB1.out hb) (alloc_below w2 (.cells #[.string ⟨#[]⟩, .int .i64 0, .int .i64 0, .bool false] 66)))
  have HX := Lib.hid (of_no _ p (HN.out.below HB2.out))
  clear hb
  go_wp2_with fail
  refine HX.out.mono ?_
  rintro e w3 ⟨rfl, hb⟩
  have HB3 := Lib.hid (then_below HB2.out hb)
  have HX := Lib.hid (online_nil w3 c is)
  clear hb
  go_wp2_with fail
  refine HX.out.mono ?_
  rintro e w4 ⟨rfl, hb⟩
  have HB4 := Lib.hid (then_below HB3.out hb)
  clear hb
  go_wp2_with fail
  go_ret
  exact ⟨rfl, HB4.out⟩
set_option maxHeartbeats 2000000 in
theorem add_no0 (w : World) (p : Option Addr) (hn : Non w p) (m : Tc.Mg) : Calls Try.prog 65 #[.pointer p, m.val] w fun e w' => e = .returned (.bool false) ∧ Below w.heap.size w w' := by
  have hb0 := alloc_below w (.cells #[.string m.topic, .string m.payload, .int .i64 m.qos, .bool m.retain, .slice m.pA m.props.length m.pc, .string m.from_, .int .i64 m.until_, .int .i64 m.seq, .string m.group] 43)
  have HX := Lib.hid (room_no _ p (hn.below hb0))
  have HB0 := Lib.hid hb0
  unfold Mg.val
  clear hn hb0
  go_enter Try.func65, Try.ntmps65
  go_wp2_with fail
  refine HX.out.mono ?_
  rintro e w1 ⟨rfl, hb⟩
  have HB1 := Lib.hid (then_below HB0.out hb)
  clear hb
  go_wp2_with fail
  go_ret
  exact ⟨rfl, HB1.out⟩
set_option maxHeartbeats 2000000 in
theorem sent_no (w : World) (p : Option Addr) (hn : Non w p) (n : Int) (c : ByteArray) : Calls Try.prog 62 #[.pointer p, .int .i64 n, .string c] w fun e w' => e = .returned (.bool false) ∧ Below w.heap.size w w' := by
  have HN := Lib.hid hn
  have HB0 := Lib.hid (alloc_below w (.cells #[.int .i64 n] 3))
  have HX := Lib.hid (index1_no _ p (hn.below HB0.out) w.heap.size n)
  clear hn
  go_enter Try.func62, Try.ntmps62
  go_wp2_with fail
  refine HX.out.mono ?_
  rintro e w1 ⟨rfl, hb⟩
  have HB1 := Lib.hid (then_below HB0.out hb)
  have HX := Lib.hid (of_no w1 p (HN.out.below HB1.out))
  clear hb
  go_wp2_with fail
  refine HX.out.mono ?_
  rintro e w2 ⟨rfl, hb⟩
  have HB2 := Lib.hid (then_below HB1.out hb)
  have HX := Lib.hid (get_no w2 c)
  clear hb
  go_wp2_with fail
  refine HX.out.mono ?_
  rintro e w3 ⟨rfl, hb⟩
  have HB3 := Lib.hid (then_below (then_below HB2.out hb) (alloc_below w3 (.cells #[.string ⟨#[]⟩, .int .i64 0, .int .i64 0, .bool false] 66)))
  clear hb
  go_wp2_with fail
  go_ret
  exact ⟨rfl, HB3.out⟩
set_option maxRecDepth 100000 in
set_option maxHeartbeats 2000000 in
theorem done_no (w : World) (p : Option Addr) (hn : Non w p) (n : Int) (c : ByteArray) :
    Calls Try.prog 66 #[.pointer p, .int .i64 n, .string c] w fun e w' => e = .returned (.bool false) ∧ Below w.heap.size w w' := by
  have HN := Lib.hid hn
  have HB := Lib.hid (Below.refl w.heap.size w)
  rcases hn with rfl | ⟨g, rfl, hz⟩
  · go_enter Try.func66, Try.ntmps66
    have HX := Lib.hid (with_no w _ HN.out n c)
    go_wp2_with fail
    refine HX.out.mono ?_
    rintro e w1 ⟨rfl, hb⟩
    have HB1 := Lib.hid (then_below HB.out hb)
    have HN1 := Lib.hid (HN.out.below hb)
    clear hb HX
    go_wp2_with fail
    go_ret
    exact ⟨rfl, HB1.out⟩
  · have c0 : w.cell? ⟨g, 0, none⟩ = some (.pointer none) := cell_of hz rfl
    have c1 : w.cell? ⟨g, 1, none⟩ = some (.string ByteArray.empty) := cell_of hz rfl
    have c2 : w.cell? ⟨g, 2, none⟩ = some (.int .i64 0) := cell_of hz rfl
    have c3 : w.cell? ⟨g, 3, none⟩ = some (.int .i64 0) := cell_of hz rfl
    have c4 : w.cell? ⟨g, 4, none⟩ = some (.slice none 0 0) := cell_of hz rfl
    have c5 : w.cell? ⟨g, 5, none⟩ = some (.string ByteArray.empty) := cell_of hz rfl
    clear hz
    go_enter Try.func66, Try.ntmps66
    have HX := Lib.hid (with_no w _ HN.out n c)
    go_wp2_with fail
    refine HX.out.mono ?_
    rintro e w1 ⟨rfl, hb⟩
    have HB1 := Lib.hid (then_below HB.out hb)
    have HN1 := Lib.hid (HN.out.below hb)
    clear hb HX
    go_wp2_with fail
    go_ret
    exact ⟨rfl, HB1.out⟩
set_option maxRecDepth 100000 in
set_option maxHeartbeats 2000000 in
theorem back_no0 (w : World) (p : Option Addr) (hn : Non w p) (n : Int) (c : ByteArray) :
    Calls Try.prog 88 #[.pointer p, .int .i64 n, .string c] w fun e w' => e = .returned (.bool false) ∧ Below w.heap.size w w' := by
  have HN := Lib.hid hn
  have HB := Lib.hid (Below.refl w.heap.size w)
  rcases hn with rfl | ⟨g, rfl, hz⟩
  · go_enter Try.func88, Try.ntmps88
    have HX := Lib.hid (with_no w _ HN.out n c)
    go_wp2_with fail
    refine HX.out.mono ?_
    rintro e w1 ⟨rfl, hb⟩
    have HB1 := Lib.hid (then_below HB.out hb)
    have HN1 := Lib.hid (HN.out.below hb)
    clear hb HX
    go_wp2_with fail
    go_ret
    exact ⟨rfl, HB1.out⟩
  · have c0 : w.cell? ⟨g, 0, none⟩ = some (.pointer none) := cell_of hz rfl
    have c1 : w.cell? ⟨g, 1, none⟩ = some (.string ByteArray.empty) := cell_of hz rfl
    have c2 : w.cell? ⟨g, 2, none⟩ = some (.int .i64 0) := cell_of hz rfl
    have c3 : w.cell? ⟨g, 3, none⟩ = some (.int .i64 0) := cell_of hz rfl
    have c4 : w.cell? ⟨g, 4, none⟩ = some (.slice none 0 0) := cell_of hz rfl
    have c5 : w.cell? ⟨g, 5, none⟩ = some (.string ByteArray.empty) := cell_of hz rfl
    clear hz
    go_enter Try.func88, Try.ntmps88
    have HX := Lib.hid (with_no w _ HN.out n c)
    go_wp2_with fail
    refine HX.out.mono ?_
    rintro e w1 ⟨rfl, hb⟩
    have HB1 := Lib.hid (then_below HB.out hb)
    have HN1 := Lib.hid (HN.out.below hb)
    clear hb HX
    go_wp2_with fail
    go_ret
    exact ⟨rfl, HB1.out⟩
set_option maxHeartbeats 2000000 in
theorem doubt_no (w : World) (p : Option Addr) (hn : Non w p) : Calls Try.prog 99 #[.pointer p] w fun e w' => e = .returned (.tuple #[]) ∧ Below w.heap.size w w' := by
  rcases hn with rfl | ⟨g, rfl, hz⟩
  · go_enter Try.func99, Try.ntmps99
    go_wp2_with fail
    go_returns
    exact ⟨rfl, Below.refl _ _⟩
  · have c4 : w.cell? ⟨g, 4, none⟩ = some (.slice none 0 0) := cell_of hz rfl
    clear hz
    go_enter Try.func99, Try.ntmps99
    go_wp2_with fail
    go_loopw [10] (fun y wr => y = .int .i64 0 ∧ w = wr) (fun _ _ => 0)
    case atStart => exact ⟨rfl, rfl⟩
    case round =>
      obtain ⟨rfl, rfl⟩ := hrel
      go_wp2_with fail
      go_returns
      exact ⟨rfl, Below.refl _ _⟩
set_option maxHeartbeats 2000000 in
theorem expire_no (w : World) (p : Option Addr) (hn : Non w p) (now : Int) : Calls Try.prog 67 #[.pointer p, .int .i64 now] w fun e w' => e = .returned (.slice none 0 0) ∧ Below w.heap.size w w' := by
  have HX := Lib.hid (items_no w p hn)
  clear hn
  go_enter Try.func67, Try.ntmps67
  go_wp2_with fail
  refine HX.out.mono ?_
  rintro e w1 ⟨⟨A, c, rfl⟩, hb⟩
  have HB := Lib.hid hb
  clear hb
  go_wp2_with fail
  go_loopw [5, 7, 13] (fun a b y wr => a = .slice none 0 0 ∧ b = .slice none 0 0 ∧ y = .int .i64 0 ∧ w1 = wr) (fun _ _ _ _ => 0)
  case atStart => exact ⟨rfl, rfl, rfl, rfl⟩
  case round =>
    obtain ⟨rfl, rfl, rfl, rfl⟩ := hrel
    go_wp2_with fail
    go_ret
    exact ⟨rfl, HB.out⟩
set_option maxRecDepth 100000 in
set_option maxHeartbeats 4000000 in
theorem next_no (w : World) (p : Option Addr) (hn : Non w p) (Af : Option Addr) (n c : Nat) : Calls Try.prog 68 #[.pointer p, .slice Af n c] w fun e w' => e = .returned (.tuple #[.agg #[.string ⟨#[]⟩, .string ⟨#[]⟩, .int .i64 0, .bool false, .slice none 0 0, .string ⟨#[]⟩, .int .i64 0, .int .i64 0, .string ⟨#[]⟩], .string ⟨#[]⟩, .bool false]) ∧ Below w.heap.size w w' := by
  obtain ⟨W1, hW1⟩ : ∃ W1, W1 = w.alloc (.cells #[.string ⟨#[]⟩, .string ⟨#[]⟩, .int .i64 0, .bool false, .slice none 0 0, .string ⟨#[]⟩, .int .i64 0, .int .i64 0, .string ⟨#[]⟩] 43) := ⟨_, rfl⟩
  have hb1 : Below w.heap.size w W1 := by rw [hW1]; exact alloc_below _ _
  have hz1 : W1.heap[w.heap.size]? = some (.cells #[.string ⟨#[]⟩, .string ⟨#[]⟩, .int .i64 0, .bool false, .slice none 0 0, .string ⟨#[]⟩, .int .i64 0, .int .i64 0, .string ⟨#[]⟩] 43 (0, 0)) := by rw [hW1]; exact heap_alloc_new w _
  have HX := Lib.hid (items_no W1 p (hn.below hb1))
  have HB1 := Lib.hid hb1
  have HZ1 := Lib.hid hz1
  have HW1 := Lib.hid hW1
  clear hn hb1 hz1 hW1
  go_enter Try.func68, Try.ntmps68
  go_upto_region 1 with (fail)
  rw [← HW1.out]
  clear HW1
  go_wp2_with fail
  refine HX.out.mono ?_
  rintro e w2 ⟨⟨A, cc, rfl⟩, hb⟩
  have HB2 := Lib.hid (then_below HB1.out hb)
  have HZA := Lib.hid ((hb.block _ (lt_of_block HZ1.out)).trans HZ1.out)
  clear hb
  go_wp2_with fail
  go_loopw [14] (fun y wr => y = .int .i64 0 ∧ w2 = wr) (fun _ _ => 0)
  case atStart => exact ⟨rfl, rfl⟩
  case round =>
    obtain ⟨rfl, rfl⟩ := hrel
    have c0 : w2.cell? ⟨w.heap.size, 0, none⟩ = some (.string ⟨#[]⟩) := cell_of HZA.out rfl
    have c1 : w2.cell? ⟨w.heap.size, 1, none⟩ = some (.string ⟨#[]⟩) := cell_of HZA.out rfl
    have c2 : w2.cell? ⟨w.heap.size, 2, none⟩ = some (.int .i64 0) := cell_of HZA.out rfl
    have c3 : w2.cell? ⟨w.heap.size, 3, none⟩ = some (.bool false) := cell_of HZA.out rfl
    have c4 : w2.cell? ⟨w.heap.size, 4, none⟩ = some (.slice none 0 0) := cell_of HZA.out rfl
    have c5 : w2.cell? ⟨w.heap.size, 5, none⟩ = some (.string ⟨#[]⟩) := cell_of HZA.out rfl
    have c6 : w2.cell? ⟨w.heap.size, 6, none⟩ = some (.int .i64 0) := cell_of HZA.out rfl
    have c7 : w2.cell? ⟨w.heap.size, 7, none⟩ = some (.int .i64 0) := cell_of HZA.out rfl
    have c8 : w2.cell? ⟨w.heap.size, 8, none⟩ = some (.string ⟨#[]⟩) := cell_of HZA.out rfl
    have f0 := free_of HZA.out 0
    have f1 := free_of HZA.out 1
    have f2 := free_of HZA.out 2
    have f3 := free_of HZA.out 3
    have f4 := free_of HZA.out 4
    have f5 := free_of HZA.out 5
    have f6 := free_of HZA.out 6
    have f7 := free_of HZA.out 7
    have f8 := free_of HZA.out 8
    have hp := put9 HZA.out (.string ⟨#[]⟩) (.string ⟨#[]⟩) (.int .i64 0) (.bool false) (.slice none 0 0) (.string ⟨#[]⟩) (.int .i64 0) (.int .i64 0) (.string ⟨#[]⟩)
    have p0 := cell_of hp (o := 0) (v := .string ⟨#[]⟩) rfl
    have p1 := cell_of hp (o := 1) (v := .string ⟨#[]⟩) rfl
    have p2 := cell_of hp (o := 2) (v := .int .i64 0) rfl
    have p3 := cell_of hp (o := 3) (v := .bool false) rfl
    have p4 := cell_of hp (o := 4) (v := .slice none 0 0) rfl
    have p5 := cell_of hp (o := 5) (v := .string ⟨#[]⟩) rfl
    have p6 := cell_of hp (o := 6) (v := .int .i64 0) rfl
    have p7 := cell_of hp (o := 7) (v := .int .i64 0) rfl
    have p8 := cell_of hp (o := 8) (v := .string ⟨#[]⟩) rfl
    have HTC := Lib.hid (put9_tch w2 w.heap.size (.string ⟨#[]⟩) (.string ⟨#[]⟩) (.int .i64 0) (.bool false) (.slice none 0 0) (.string ⟨#[]⟩) (.int .i64 0) (.int .i64 0) (.string ⟨#[]⟩))
    have HE := Lib.hid (HB2.out.trans (HTC.out.below HB2.out.size (by intro i hi; simp at hi; omega)))
    clear hp
    go_wp2_with fail
    exact bodyPost_ret (v := .tuple #[.agg #[.string ⟨#[]⟩, .string ⟨#[]⟩, .int .i64 0, .bool false, .slice none 0 0, .string ⟨#[]⟩, .int .i64 0, .int .i64 0, .string ⟨#[]⟩], .string ⟨#[]⟩, .bool false]) (by simp [results, Try.results68, go_sem, *]) rfl ⟨rfl, HE.out⟩
set_option maxRecDepth 100000 in
set_option maxHeartbeats 4000000 in
theorem do_no1 (w : World) (p : Option Addr) (hn : Non w p) (a : GA) (hq : a.kind = 1) : Calls Try.prog 69 #[.pointer p, a.val] w fun e w' => e = .returned (.bool false) ∧ Below w.heap.size w w' := by
  obtain ⟨W, hW⟩ : ∃ W, W = w.alloc (.cells #[.int .i64 a.kind, .string a.client, .string a.msg.topic, .string a.msg.payload, .int .i64 a.msg.qos, .bool a.msg.retain, .slice a.msg.pA a.msg.props.length a.msg.pc, .string a.msg.from_, .int .i64 a.msg.until_, .int .i64 a.msg.seq, .string a.msg.group, .int .i64 a.n, .slice a.fA a.free.length a.fc] 81) := ⟨_, rfl⟩
  have hb0 : Below w.heap.size w W := by rw [hW]; exact alloc_below _ _
  have hz0 : W.heap[w.heap.size]? = some (.cells #[.int .i64 a.kind, .string a.client, .string a.msg.topic, .string a.msg.payload, .int .i64 a.msg.qos, .bool a.msg.retain, .slice a.msg.pA a.msg.props.length a.msg.pc, .string a.msg.from_, .int .i64 a.msg.until_, .int .i64 a.msg.seq, .string a.msg.group, .int .i64 a.n, .slice a.fA a.free.length a.fc] 81 (0, 0)) := by rw [hW]; exact heap_alloc_new w _
  have a0 : W.cell? ⟨w.heap.size, 0, none⟩ = some (.int .i64 a.kind) := cell_of hz0 rfl
  have a1 : W.cell? ⟨w.heap.size, 1, none⟩ = some (.string a.client) := cell_of hz0 rfl
  have a2 : W.cell? ⟨w.heap.size, 2, none⟩ = some (.string a.msg.topic) := cell_of hz0 rfl
  have a3 : W.cell? ⟨w.heap.size, 3, none⟩ = some (.string a.msg.payload) := cell_of hz0 rfl
  have a4 : W.cell? ⟨w.heap.size, 4, none⟩ = some (.int .i64 a.msg.qos) := cell_of hz0 rfl
  have a5 : W.cell? ⟨w.heap.size, 5, none⟩ = some (.bool a.msg.retain) := cell_of hz0 rfl
  have a6 : W.cell? ⟨w.heap.size, 6, none⟩ = some (.slice a.msg.pA a.msg.props.length a.msg.pc) := cell_of hz0 rfl
  have a7 : W.cell? ⟨w.heap.size, 7, none⟩ = some (.string a.msg.from_) := cell_of hz0 rfl
  have a8 : W.cell? ⟨w.heap.size, 8, none⟩ = some (.int .i64 a.msg.until_) := cell_of hz0 rfl
  have a9 : W.cell? ⟨w.heap.size, 9, none⟩ = some (.int .i64 a.msg.seq) := cell_of hz0 rfl
  have a10 : W.cell? ⟨w.heap.size, 10, none⟩ = some (.string a.msg.group) := cell_of hz0 rfl
  have a11 : W.cell? ⟨w.heap.size, 11, none⟩ = some (.int .i64 a.n) := cell_of hz0 rfl
  have a12 : W.cell? ⟨w.heap.size, 12, none⟩ = some (.slice a.fA a.free.length a.fc) := cell_of hz0 rfl
  have HWW := Lib.hid hW
  have HB0 := Lib.hid hb0
  have HX := Lib.hid (show Calls Try.prog _ _ W _ from join_no _ p (hn.below hb0) a.client a.n)
  unfold GA.val
  rw [hq] at a0 HWW ⊢
  clear hq
  clear hn hb0 hz0 hW
  go_enter Try.func69, Try.ntmps69
  go_upto_region 1 with (fail)
  rw [← HWW.out]
  clear HWW
  go_wp2_with fail
  refine HX.out.mono ?_
  rintro e w1 ⟨rfl, hb⟩
  have HE := Lib.hid (then_below HB0.out hb)
  clear hb
  go_wp2_with fail
  go_ret
  exact ⟨rfl, HE.out⟩
set_option maxRecDepth 100000 in
set_option maxHeartbeats 4000000 in
theorem do_no2 (w : World) (p : Option Addr) (hn : Non w p) (a : GA) (hq : a.kind = 2) : Calls Try.prog 69 #[.pointer p, a.val] w fun e w' => e = .returned (.bool false) ∧ Below w.heap.size w w' := by
  obtain ⟨W, hW⟩ : ∃ W, W = w.alloc (.cells #[.int .i64 a.kind, .string a.client, .string a.msg.topic, .string a.msg.payload, .int .i64 a.msg.qos, .bool a.msg.retain, .slice a.msg.pA a.msg.props.length a.msg.pc, .string a.msg.from_, .int .i64 a.msg.until_, .int .i64 a.msg.seq, .string a.msg.group, .int .i64 a.n, .slice a.fA a.free.length a.fc] 81) := ⟨_, rfl⟩
  have hb0 : Below w.heap.size w W := by rw [hW]; exact alloc_below _ _
  have hz0 : W.heap[w.heap.size]? = some (.cells #[.int .i64 a.kind, .string a.client, .string a.msg.topic, .string a.msg.payload, .int .i64 a.msg.qos, .bool a.msg.retain, .slice a.msg.pA a.msg.props.length a.msg.pc, .string a.msg.from_, .int .i64 a.msg.until_, .int .i64 a.msg.seq, .string a.msg.group, .int .i64 a.n, .slice a.fA a.free.length a.fc] 81 (0, 0)) := by rw [hW]; exact heap_alloc_new w _
  have a0 : W.cell? ⟨w.heap.size, 0, none⟩ = some (.int .i64 a.kind) := cell_of hz0 rfl
  have a1 : W.cell? ⟨w.heap.size, 1, none⟩ = some (.string a.client) := cell_of hz0 rfl
  have a2 : W.cell? ⟨w.heap.size, 2, none⟩ = some (.string a.msg.topic) := cell_of hz0 rfl
  have a3 : W.cell? ⟨w.heap.size, 3, none⟩ = some (.string a.msg.payload) := cell_of hz0 rfl
  have a4 : W.cell? ⟨w.heap.size, 4, none⟩ = some (.int .i64 a.msg.qos) := cell_of hz0 rfl
  have a5 : W.cell? ⟨w.heap.size, 5, none⟩ = some (.bool a.msg.retain) := cell_of hz0 rfl
  have a6 : W.cell? ⟨w.heap.size, 6, none⟩ = some (.slice a.msg.pA a.msg.props.length a.msg.pc) := cell_of hz0 rfl
  have a7 : W.cell? ⟨w.heap.size, 7, none⟩ = some (.string a.msg.from_) := cell_of hz0 rfl
  have a8 : W.cell? ⟨w.heap.size, 8, none⟩ = some (.int .i64 a.msg.until_) := cell_of hz0 rfl
  have a9 : W.cell? ⟨w.heap.size, 9, none⟩ = some (.int .i64 a.msg.seq) := cell_of hz0 rfl
  have a10 : W.cell? ⟨w.heap.size, 10, none⟩ = some (.string a.msg.group) := cell_of hz0 rfl
  have a11 : W.cell? ⟨w.heap.size, 11, none⟩ = some (.int .i64 a.n) := cell_of hz0 rfl
  have a12 : W.cell? ⟨w.heap.size, 12, none⟩ = some (.slice a.fA a.free.length a.fc) := cell_of hz0 rfl
  have HWW := Lib.hid hW
  have HB0 := Lib.hid hb0
  have HX := Lib.hid (show Calls Try.prog _ _ W _ from leave_no _ p (hn.below hb0) a.client)
  unfold GA.val
  rw [hq] at a0 HWW ⊢
  clear hq
  clear hn hb0 hz0 hW
  go_enter Try.func69, Try.ntmps69
  go_upto_region 1 with (fail)
  rw [← HWW.out]
  clear HWW
  go_wp2_with fail
  refine HX.out.mono ?_
  rintro e w1 ⟨rfl, hb⟩
  have HE := Lib.hid (then_below HB0.out hb)
  clear hb
  go_wp2_with fail
  go_ret
  exact ⟨rfl, HE.out⟩
set_option maxRecDepth 100000 in
set_option maxHeartbeats 4000000 in
theorem do_no3 (w : World) (p : Option Addr) (hn : Non w p) (a : GA) (hq : a.kind = 3) : Calls Try.prog 69 #[.pointer p, a.val] w fun e w' => e = .returned (.bool false) ∧ Below w.heap.size w w' := by
  obtain ⟨W, hW⟩ : ∃ W, W = w.alloc (.cells #[.int .i64 a.kind, .string a.client, .string a.msg.topic, .string a.msg.payload, .int .i64 a.msg.qos, .bool a.msg.retain, .slice a.msg.pA a.msg.props.length a.msg.pc, .string a.msg.from_, .int .i64 a.msg.until_, .int .i64 a.msg.seq, .string a.msg.group, .int .i64 a.n, .slice a.fA a.free.length a.fc] 81) := ⟨_, rfl⟩
  have hb0 : Below w.heap.size w W := by rw [hW]; exact alloc_below _ _
  have hz0 : W.heap[w.heap.size]? = some (.cells #[.int .i64 a.kind, .string a.client, .string a.msg.topic, .string a.msg.payload, .int .i64 a.msg.qos, .bool a.msg.retain, .slice a.msg.pA a.msg.props.length a.msg.pc, .string a.msg.from_, .int .i64 a.msg.until_, .int .i64 a.msg.seq, .string a.msg.group, .int .i64 a.n, .slice a.fA a.free.length a.fc] 81 (0, 0)) := by rw [hW]; exact heap_alloc_new w _
  have a0 : W.cell? ⟨w.heap.size, 0, none⟩ = some (.int .i64 a.kind) := cell_of hz0 rfl
  have a1 : W.cell? ⟨w.heap.size, 1, none⟩ = some (.string a.client) := cell_of hz0 rfl
  have a2 : W.cell? ⟨w.heap.size, 2, none⟩ = some (.string a.msg.topic) := cell_of hz0 rfl
  have a3 : W.cell? ⟨w.heap.size, 3, none⟩ = some (.string a.msg.payload) := cell_of hz0 rfl
  have a4 : W.cell? ⟨w.heap.size, 4, none⟩ = some (.int .i64 a.msg.qos) := cell_of hz0 rfl
  have a5 : W.cell? ⟨w.heap.size, 5, none⟩ = some (.bool a.msg.retain) := cell_of hz0 rfl
  have a6 : W.cell? ⟨w.heap.size, 6, none⟩ = some (.slice a.msg.pA a.msg.props.length a.msg.pc) := cell_of hz0 rfl
  have a7 : W.cell? ⟨w.heap.size, 7, none⟩ = some (.string a.msg.from_) := cell_of hz0 rfl
  have a8 : W.cell? ⟨w.heap.size, 8, none⟩ = some (.int .i64 a.msg.until_) := cell_of hz0 rfl
  have a9 : W.cell? ⟨w.heap.size, 9, none⟩ = some (.int .i64 a.msg.seq) := cell_of hz0 rfl
  have a10 : W.cell? ⟨w.heap.size, 10, none⟩ = some (.string a.msg.group) := cell_of hz0 rfl
  have a11 : W.cell? ⟨w.heap.size, 11, none⟩ = some (.int .i64 a.n) := cell_of hz0 rfl
  have a12 : W.cell? ⟨w.heap.size, 12, none⟩ = some (.slice a.fA a.free.length a.fc) := cell_of hz0 rfl
  have HWW := Lib.hid hW
  have HB0 := Lib.hid hb0
  have HX := Lib.hid (show Calls Try.prog _ _ W _ from online_no _ p (hn.below hb0) a.client true)
  unfold GA.val
  rw [hq] at a0 HWW ⊢
  clear hq
  clear hn hb0 hz0 hW
  go_enter Try.func69, Try.ntmps69
  go_upto_region 1 with (fail)
  rw [← HWW.out]
  clear HWW
  go_wp2_with fail
  refine HX.out.mono ?_
  rintro e w1 ⟨rfl, hb⟩
  have HE := Lib.hid (then_below HB0.out hb)
  clear hb
  go_wp2_with fail
  go_ret
  exact ⟨rfl, HE.out⟩
set_option maxRecDepth 100000 in
set_option maxHeartbeats 4000000 in
theorem do_no4 (w : World) (p : Option Addr) (hn : Non w p) (a : GA) (hq : a.kind = 4) : Calls Try.prog 69 #[.pointer p, a.val] w fun e w' => e = .returned (.bool false) ∧ Below w.heap.size w w' := by
  obtain ⟨W, hW⟩ : ∃ W, W = w.alloc (.cells #[.int .i64 a.kind, .string a.client, .string a.msg.topic, .string a.msg.payload, .int .i64 a.msg.qos, .bool a.msg.retain, .slice a.msg.pA a.msg.props.length a.msg.pc, .string a.msg.from_, .int .i64 a.msg.until_, .int .i64 a.msg.seq, .string a.msg.group, .int .i64 a.n, .slice a.fA a.free.length a.fc] 81) := ⟨_, rfl⟩
  have hb0 : Below w.heap.size w W := by rw [hW]; exact alloc_below _ _
  have hz0 : W.heap[w.heap.size]? = some (.cells #[.int .i64 a.kind, .string a.client, .string a.msg.topic, .string a.msg.payload, .int .i64 a.msg.qos, .bool a.msg.retain, .slice a.msg.pA a.msg.props.length a.msg.pc, .string a.msg.from_, .int .i64 a.msg.until_, .int .i64 a.msg.seq, .string a.msg.group, .int .i64 a.n, .slice a.fA a.free.length a.fc] 81 (0, 0)) := by rw [hW]; exact heap_alloc_new w _
  have a0 : W.cell? ⟨w.heap.size, 0, none⟩ = some (.int .i64 a.kind) := cell_of hz0 rfl
  have a1 : W.cell? ⟨w.heap.size, 1, none⟩ = some (.string a.client) := cell_of hz0 rfl
  have a2 : W.cell? ⟨w.heap.size, 2, none⟩ = some (.string a.msg.topic) := cell_of hz0 rfl
  have a3 : W.cell? ⟨w.heap.size, 3, none⟩ = some (.string a.msg.payload) := cell_of hz0 rfl
  have a4 : W.cell? ⟨w.heap.size, 4, none⟩ = some (.int .i64 a.msg.qos) := cell_of hz0 rfl
  have a5 : W.cell? ⟨w.heap.size, 5, none⟩ = some (.bool a.msg.retain) := cell_of hz0 rfl
  have a6 : W.cell? ⟨w.heap.size, 6, none⟩ = some (.slice a.msg.pA a.msg.props.length a.msg.pc) := cell_of hz0 rfl
  have a7 : W.cell? ⟨w.heap.size, 7, none⟩ = some (.string a.msg.from_) := cell_of hz0 rfl
  have a8 : W.cell? ⟨w.heap.size, 8, none⟩ = some (.int .i64 a.msg.until_) := cell_of hz0 rfl
  have a9 : W.cell? ⟨w.heap.size, 9, none⟩ = some (.int .i64 a.msg.seq) := cell_of hz0 rfl
  have a10 : W.cell? ⟨w.heap.size, 10, none⟩ = some (.string a.msg.group) := cell_of hz0 rfl
  have a11 : W.cell? ⟨w.heap.size, 11, none⟩ = some (.int .i64 a.n) := cell_of hz0 rfl
  have a12 : W.cell? ⟨w.heap.size, 12, none⟩ = some (.slice a.fA a.free.length a.fc) := cell_of hz0 rfl
  have HWW := Lib.hid hW
  have HB0 := Lib.hid hb0
  have HX := Lib.hid (show Calls Try.prog _ _ W _ from online_no _ p (hn.below hb0) a.client false)
  unfold GA.val
  rw [hq] at a0 HWW ⊢
  clear hq
  clear hn hb0 hz0 hW
  go_enter Try.func69, Try.ntmps69
  go_upto_region 1 with (fail)
  rw [← HWW.out]
  clear HWW
  go_wp2_with fail
  refine HX.out.mono ?_
  rintro e w1 ⟨rfl, hb⟩
  have HE := Lib.hid (then_below HB0.out hb)
  clear hb
  go_wp2_with fail
  go_ret
  exact ⟨rfl, HE.out⟩
set_option maxRecDepth 100000 in
set_option maxHeartbeats 4000000 in
theorem do_no5 (w : World) (p : Option Addr) (hn : Non w p) (a : GA) (hq : a.kind = 5) : Calls Try.prog 69 #[.pointer p, a.val] w fun e w' => e = .returned (.bool false) ∧ Below w.heap.size w w' := by
  obtain ⟨W, hW⟩ : ∃ W, W = w.alloc (.cells #[.int .i64 a.kind, .string a.client, .string a.msg.topic, .string a.msg.payload, .int .i64 a.msg.qos, .bool a.msg.retain, .slice a.msg.pA a.msg.props.length a.msg.pc, .string a.msg.from_, .int .i64 a.msg.until_, .int .i64 a.msg.seq, .string a.msg.group, .int .i64 a.n, .slice a.fA a.free.length a.fc] 81) := ⟨_, rfl⟩
  have hb0 : Below w.heap.size w W := by rw [hW]; exact alloc_below _ _
  have hz0 : W.heap[w.heap.size]? = some (.cells #[.int .i64 a.kind, .string a.client, .string a.msg.topic, .string a.msg.payload, .int .i64 a.msg.qos, .bool a.msg.retain, .slice a.msg.pA a.msg.props.length a.msg.pc, .string a.msg.from_, .int .i64 a.msg.until_, .int .i64 a.msg.seq, .string a.msg.group, .int .i64 a.n, .slice a.fA a.free.length a.fc] 81 (0, 0)) := by rw [hW]; exact heap_alloc_new w _
  have a0 : W.cell? ⟨w.heap.size, 0, none⟩ = some (.int .i64 a.kind) := cell_of hz0 rfl
  have a1 : W.cell? ⟨w.heap.size, 1, none⟩ = some (.string a.client) := cell_of hz0 rfl
  have a2 : W.cell? ⟨w.heap.size, 2, none⟩ = some (.string a.msg.topic) := cell_of hz0 rfl
  have a3 : W.cell? ⟨w.heap.size, 3, none⟩ = some (.string a.msg.payload) := cell_of hz0 rfl
  have a4 : W.cell? ⟨w.heap.size, 4, none⟩ = some (.int .i64 a.msg.qos) := cell_of hz0 rfl
  have a5 : W.cell? ⟨w.heap.size, 5, none⟩ = some (.bool a.msg.retain) := cell_of hz0 rfl
  have a6 : W.cell? ⟨w.heap.size, 6, none⟩ = some (.slice a.msg.pA a.msg.props.length a.msg.pc) := cell_of hz0 rfl
  have a7 : W.cell? ⟨w.heap.size, 7, none⟩ = some (.string a.msg.from_) := cell_of hz0 rfl
  have a8 : W.cell? ⟨w.heap.size, 8, none⟩ = some (.int .i64 a.msg.until_) := cell_of hz0 rfl
  have a9 : W.cell? ⟨w.heap.size, 9, none⟩ = some (.int .i64 a.msg.seq) := cell_of hz0 rfl
  have a10 : W.cell? ⟨w.heap.size, 10, none⟩ = some (.string a.msg.group) := cell_of hz0 rfl
  have a11 : W.cell? ⟨w.heap.size, 11, none⟩ = some (.int .i64 a.n) := cell_of hz0 rfl
  have a12 : W.cell? ⟨w.heap.size, 12, none⟩ = some (.slice a.fA a.free.length a.fc) := cell_of hz0 rfl
  have HWW := Lib.hid hW
  have HB0 := Lib.hid hb0
  have HX := Lib.hid (show Calls Try.prog _ _ W _ from add_no0 _ p (hn.below hb0) a.msg)
  unfold Mg.val at HX
  unfold GA.val
  rw [hq] at a0 HWW ⊢
  clear hq
  clear hn hb0 hz0 hW
  go_enter Try.func69, Try.ntmps69
  go_upto_region 1 with (fail)
  rw [← HWW.out]
  clear HWW
  go_wp2_with fail
  refine HX.out.mono ?_
  rintro e w1 ⟨rfl, hb⟩
  have HE := Lib.hid (then_below HB0.out hb)
  clear hb
  go_wp2_with fail
  go_ret
  exact ⟨rfl, HE.out⟩
set_option maxRecDepth 100000 in
set_option maxHeartbeats 4000000 in
theorem do_no7 (w : World) (p : Option Addr) (hn : Non w p) (a : GA) (hq : a.kind = 7) : Calls Try.prog 69 #[.pointer p, a.val] w fun e w' => e = .returned (.bool false) ∧ Below w.heap.size w w' := by
  obtain ⟨W, hW⟩ : ∃ W, W = w.alloc (.cells #[.int .i64 a.kind, .string a.client, .string a.msg.topic, .string a.msg.payload, .int .i64 a.msg.qos, .bool a.msg.retain, .slice a.msg.pA a.msg.props.length a.msg.pc, .string a.msg.from_, .int .i64 a.msg.until_, .int .i64 a.msg.seq, .string a.msg.group, .int .i64 a.n, .slice a.fA a.free.length a.fc] 81) := ⟨_, rfl⟩
  have hb0 : Below w.heap.size w W := by rw [hW]; exact alloc_below _ _
  have hz0 : W.heap[w.heap.size]? = some (.cells #[.int .i64 a.kind, .string a.client, .string a.msg.topic, .string a.msg.payload, .int .i64 a.msg.qos, .bool a.msg.retain, .slice a.msg.pA a.msg.props.length a.msg.pc, .string a.msg.from_, .int .i64 a.msg.until_, .int .i64 a.msg.seq, .string a.msg.group, .int .i64 a.n, .slice a.fA a.free.length a.fc] 81 (0, 0)) := by rw [hW]; exact heap_alloc_new w _
  have a0 : W.cell? ⟨w.heap.size, 0, none⟩ = some (.int .i64 a.kind) := cell_of hz0 rfl
  have a1 : W.cell? ⟨w.heap.size, 1, none⟩ = some (.string a.client) := cell_of hz0 rfl
  have a2 : W.cell? ⟨w.heap.size, 2, none⟩ = some (.string a.msg.topic) := cell_of hz0 rfl
  have a3 : W.cell? ⟨w.heap.size, 3, none⟩ = some (.string a.msg.payload) := cell_of hz0 rfl
  have a4 : W.cell? ⟨w.heap.size, 4, none⟩ = some (.int .i64 a.msg.qos) := cell_of hz0 rfl
  have a5 : W.cell? ⟨w.heap.size, 5, none⟩ = some (.bool a.msg.retain) := cell_of hz0 rfl
  have a6 : W.cell? ⟨w.heap.size, 6, none⟩ = some (.slice a.msg.pA a.msg.props.length a.msg.pc) := cell_of hz0 rfl
  have a7 : W.cell? ⟨w.heap.size, 7, none⟩ = some (.string a.msg.from_) := cell_of hz0 rfl
  have a8 : W.cell? ⟨w.heap.size, 8, none⟩ = some (.int .i64 a.msg.until_) := cell_of hz0 rfl
  have a9 : W.cell? ⟨w.heap.size, 9, none⟩ = some (.int .i64 a.msg.seq) := cell_of hz0 rfl
  have a10 : W.cell? ⟨w.heap.size, 10, none⟩ = some (.string a.msg.group) := cell_of hz0 rfl
  have a11 : W.cell? ⟨w.heap.size, 11, none⟩ = some (.int .i64 a.n) := cell_of hz0 rfl
  have a12 : W.cell? ⟨w.heap.size, 12, none⟩ = some (.slice a.fA a.free.length a.fc) := cell_of hz0 rfl
  have HWW := Lib.hid hW
  have HB0 := Lib.hid hb0
  have HX := Lib.hid (show Calls Try.prog _ _ W _ from done_no _ p (hn.below hb0) a.n a.client)
  unfold GA.val
  rw [hq] at a0 HWW ⊢
  clear hq
  clear hn hb0 hz0 hW
  go_enter Try.func69, Try.ntmps69
  go_upto_region 1 with (fail)
  rw [← HWW.out]
  clear HWW
  go_wp2_with fail
  refine HX.out.mono ?_
  rintro e w1 ⟨rfl, hb⟩
  have HE := Lib.hid (then_below HB0.out hb)
  clear hb
  go_wp2_with fail
  go_ret
  exact ⟨rfl, HE.out⟩
set_option maxRecDepth 100000 in
set_option maxHeartbeats 4000000 in
theorem do_no8 (w : World) (p : Option Addr) (hn : Non w p) (a : GA) (hq : a.kind = 8) : Calls Try.prog 69 #[.pointer p, a.val] w fun e w' => e = .returned (.bool false) ∧ Below w.heap.size w w' := by
  obtain ⟨W, hW⟩ : ∃ W, W = w.alloc (.cells #[.int .i64 a.kind, .string a.client, .string a.msg.topic, .string a.msg.payload, .int .i64 a.msg.qos, .bool a.msg.retain, .slice a.msg.pA a.msg.props.length a.msg.pc, .string a.msg.from_, .int .i64 a.msg.until_, .int .i64 a.msg.seq, .string a.msg.group, .int .i64 a.n, .slice a.fA a.free.length a.fc] 81) := ⟨_, rfl⟩
  have hb0 : Below w.heap.size w W := by rw [hW]; exact alloc_below _ _
  have hz0 : W.heap[w.heap.size]? = some (.cells #[.int .i64 a.kind, .string a.client, .string a.msg.topic, .string a.msg.payload, .int .i64 a.msg.qos, .bool a.msg.retain, .slice a.msg.pA a.msg.props.length a.msg.pc, .string a.msg.from_, .int .i64 a.msg.until_, .int .i64 a.msg.seq, .string a.msg.group, .int .i64 a.n, .slice a.fA a.free.length a.fc] 81 (0, 0)) := by rw [hW]; exact heap_alloc_new w _
  have a0 : W.cell? ⟨w.heap.size, 0, none⟩ = some (.int .i64 a.kind) := cell_of hz0 rfl
  have a1 : W.cell? ⟨w.heap.size, 1, none⟩ = some (.string a.client) := cell_of hz0 rfl
  have a2 : W.cell? ⟨w.heap.size, 2, none⟩ = some (.string a.msg.topic) := cell_of hz0 rfl
  have a3 : W.cell? ⟨w.heap.size, 3, none⟩ = some (.string a.msg.payload) := cell_of hz0 rfl
  have a4 : W.cell? ⟨w.heap.size, 4, none⟩ = some (.int .i64 a.msg.qos) := cell_of hz0 rfl
  have a5 : W.cell? ⟨w.heap.size, 5, none⟩ = some (.bool a.msg.retain) := cell_of hz0 rfl
  have a6 : W.cell? ⟨w.heap.size, 6, none⟩ = some (.slice a.msg.pA a.msg.props.length a.msg.pc) := cell_of hz0 rfl
  have a7 : W.cell? ⟨w.heap.size, 7, none⟩ = some (.string a.msg.from_) := cell_of hz0 rfl
  have a8 : W.cell? ⟨w.heap.size, 8, none⟩ = some (.int .i64 a.msg.until_) := cell_of hz0 rfl
  have a9 : W.cell? ⟨w.heap.size, 9, none⟩ = some (.int .i64 a.msg.seq) := cell_of hz0 rfl
  have a10 : W.cell? ⟨w.heap.size, 10, none⟩ = some (.string a.msg.group) := cell_of hz0 rfl
  have a11 : W.cell? ⟨w.heap.size, 11, none⟩ = some (.int .i64 a.n) := cell_of hz0 rfl
  have a12 : W.cell? ⟨w.heap.size, 12, none⟩ = some (.slice a.fA a.free.length a.fc) := cell_of hz0 rfl
  have HWW := Lib.hid hW
  have HB0 := Lib.hid hb0
  have HX := Lib.hid (show Calls Try.prog _ _ W _ from back_no0 _ p (hn.below hb0) a.n a.client)
  unfold GA.val
  rw [hq] at a0 HWW ⊢
  clear hq
  clear hn hb0 hz0 hW
  go_enter Try.func69, Try.ntmps69
  go_upto_region 1 with (fail)
  rw [← HWW.out]
  clear HWW
  go_wp2_with fail
  refine HX.out.mono ?_
  rintro e w1 ⟨rfl, hb⟩
  have HE := Lib.hid (then_below HB0.out hb)
  clear hb
  go_wp2_with fail
  go_ret
  exact ⟨rfl, HE.out⟩
set_option maxRecDepth 100000 in
set_option maxHeartbeats 4000000 in
theorem do_no10 (w : World) (p : Option Addr) (hn : Non w p) (a : GA) (hq : a.kind = 10) : Calls Try.prog 69 #[.pointer p, a.val] w fun e w' => e = .returned (.bool false) ∧ Below w.heap.size w w' := by
  obtain ⟨W, hW⟩ : ∃ W, W = w.alloc (.cells #[.int .i64 a.kind, .string a.client, .string a.msg.topic, .string a.msg.payload, .int .i64 a.msg.qos, .bool a.msg.retain, .slice a.msg.pA a.msg.props.length a.msg.pc, .string a.msg.from_, .int .i64 a.msg.until_, .int .i64 a.msg.seq, .string a.msg.group, .int .i64 a.n, .slice a.fA a.free.length a.fc] 81) := ⟨_, rfl⟩
  have hb0 : Below w.heap.size w W := by rw [hW]; exact alloc_below _ _
  have hz0 : W.heap[w.heap.size]? = some (.cells #[.int .i64 a.kind, .string a.client, .string a.msg.topic, .string a.msg.payload, .int .i64 a.msg.qos, .bool a.msg.retain, .slice a.msg.pA a.msg.props.length a.msg.pc, .string a.msg.from_, .int .i64 a.msg.until_, .int .i64 a.msg.seq, .string a.msg.group, .int .i64 a.n, .slice a.fA a.free.length a.fc] 81 (0, 0)) := by rw [hW]; exact heap_alloc_new w _
  have a0 : W.cell? ⟨w.heap.size, 0, none⟩ = some (.int .i64 a.kind) := cell_of hz0 rfl
  have a1 : W.cell? ⟨w.heap.size, 1, none⟩ = some (.string a.client) := cell_of hz0 rfl
  have a2 : W.cell? ⟨w.heap.size, 2, none⟩ = some (.string a.msg.topic) := cell_of hz0 rfl
  have a3 : W.cell? ⟨w.heap.size, 3, none⟩ = some (.string a.msg.payload) := cell_of hz0 rfl
  have a4 : W.cell? ⟨w.heap.size, 4, none⟩ = some (.int .i64 a.msg.qos) := cell_of hz0 rfl
  have a5 : W.cell? ⟨w.heap.size, 5, none⟩ = some (.bool a.msg.retain) := cell_of hz0 rfl
  have a6 : W.cell? ⟨w.heap.size, 6, none⟩ = some (.slice a.msg.pA a.msg.props.length a.msg.pc) := cell_of hz0 rfl
  have a7 : W.cell? ⟨w.heap.size, 7, none⟩ = some (.string a.msg.from_) := cell_of hz0 rfl
  have a8 : W.cell? ⟨w.heap.size, 8, none⟩ = some (.int .i64 a.msg.until_) := cell_of hz0 rfl
  have a9 : W.cell? ⟨w.heap.size, 9, none⟩ = some (.int .i64 a.msg.seq) := cell_of hz0 rfl
  have a10 : W.cell? ⟨w.heap.size, 10, none⟩ = some (.string a.msg.group) := cell_of hz0 rfl
  have a11 : W.cell? ⟨w.heap.size, 11, none⟩ = some (.int .i64 a.n) := cell_of hz0 rfl
  have a12 : W.cell? ⟨w.heap.size, 12, none⟩ = some (.slice a.fA a.free.length a.fc) := cell_of hz0 rfl
  have HWW := Lib.hid hW
  have HB0 := Lib.hid hb0
  have HX := Lib.hid (show Calls Try.prog _ _ W _ from sent_no _ p (hn.below hb0) a.n a.client)
  unfold GA.val
  rw [hq] at a0 HWW ⊢
  clear hq
  clear hn hb0 hz0 hW
  go_enter Try.func69, Try.ntmps69
  go_upto_region 1 with (fail)
  rw [← HWW.out]
  clear HWW
  go_wp2_with fail
  refine HX.out.mono ?_
  rintro e w1 ⟨rfl, hb⟩
  have HE := Lib.hid (then_below HB0.out hb)
  clear hb
  go_wp2_with fail
  go_ret
  exact ⟨rfl, HE.out⟩
set_option maxRecDepth 100000 in
set_option maxHeartbeats 4000000 in
theorem do_no11 (w : World) (p : Option Addr) (hn : Non w p) (a : GA) (hq : a.kind = 11) : Calls Try.prog 69 #[.pointer p, a.val] w fun e w' => e = .returned (.bool false) ∧ Below w.heap.size w w' := by
  obtain ⟨W, hW⟩ : ∃ W, W = w.alloc (.cells #[.int .i64 a.kind, .string a.client, .string a.msg.topic, .string a.msg.payload, .int .i64 a.msg.qos, .bool a.msg.retain, .slice a.msg.pA a.msg.props.length a.msg.pc, .string a.msg.from_, .int .i64 a.msg.until_, .int .i64 a.msg.seq, .string a.msg.group, .int .i64 a.n, .slice a.fA a.free.length a.fc] 81) := ⟨_, rfl⟩
  have hb0 : Below w.heap.size w W := by rw [hW]; exact alloc_below _ _
  have hz0 : W.heap[w.heap.size]? = some (.cells #[.int .i64 a.kind, .string a.client, .string a.msg.topic, .string a.msg.payload, .int .i64 a.msg.qos, .bool a.msg.retain, .slice a.msg.pA a.msg.props.length a.msg.pc, .string a.msg.from_, .int .i64 a.msg.until_, .int .i64 a.msg.seq, .string a.msg.group, .int .i64 a.n, .slice a.fA a.free.length a.fc] 81 (0, 0)) := by rw [hW]; exact heap_alloc_new w _
  have a0 : W.cell? ⟨w.heap.size, 0, none⟩ = some (.int .i64 a.kind) := cell_of hz0 rfl
  have a1 : W.cell? ⟨w.heap.size, 1, none⟩ = some (.string a.client) := cell_of hz0 rfl
  have a2 : W.cell? ⟨w.heap.size, 2, none⟩ = some (.string a.msg.topic) := cell_of hz0 rfl
  have a3 : W.cell? ⟨w.heap.size, 3, none⟩ = some (.string a.msg.payload) := cell_of hz0 rfl
  have a4 : W.cell? ⟨w.heap.size, 4, none⟩ = some (.int .i64 a.msg.qos) := cell_of hz0 rfl
  have a5 : W.cell? ⟨w.heap.size, 5, none⟩ = some (.bool a.msg.retain) := cell_of hz0 rfl
  have a6 : W.cell? ⟨w.heap.size, 6, none⟩ = some (.slice a.msg.pA a.msg.props.length a.msg.pc) := cell_of hz0 rfl
  have a7 : W.cell? ⟨w.heap.size, 7, none⟩ = some (.string a.msg.from_) := cell_of hz0 rfl
  have a8 : W.cell? ⟨w.heap.size, 8, none⟩ = some (.int .i64 a.msg.until_) := cell_of hz0 rfl
  have a9 : W.cell? ⟨w.heap.size, 9, none⟩ = some (.int .i64 a.msg.seq) := cell_of hz0 rfl
  have a10 : W.cell? ⟨w.heap.size, 10, none⟩ = some (.string a.msg.group) := cell_of hz0 rfl
  have a11 : W.cell? ⟨w.heap.size, 11, none⟩ = some (.int .i64 a.n) := cell_of hz0 rfl
  have a12 : W.cell? ⟨w.heap.size, 12, none⟩ = some (.slice a.fA a.free.length a.fc) := cell_of hz0 rfl
  have HWW := Lib.hid hW
  have HB0 := Lib.hid hb0
  have HX := Lib.hid (show Calls Try.prog _ _ W _ from doubt_no _ p (hn.below hb0))
  unfold GA.val
  rw [hq] at a0 HWW ⊢
  clear hq
  clear hn hb0 hz0 hW
  go_enter Try.func69, Try.ntmps69
  go_upto_region 1 with (fail)
  rw [← HWW.out]
  clear HWW
  go_wp2_with fail
  refine HX.out.mono ?_
  rintro e w1 ⟨rfl, hb⟩
  have HE := Lib.hid (then_below HB0.out hb)
  clear hb
  go_wp2_with fail
  go_ret
  exact ⟨rfl, HE.out⟩
set_option maxRecDepth 100000 in
set_option maxHeartbeats 4000000 in
theorem do_no0 (w : World) (p : Option Addr) (hn : Non w p) (a : GA) (n1 : ¬ a.kind = 1) (n2 : ¬ a.kind = 2) (n3 : ¬ a.kind = 3) (n4 : ¬ a.kind = 4) (n5 : ¬ a.kind = 5) (n7 : ¬ a.kind = 7) (n8 : ¬ a.kind = 8) (n10 : ¬ a.kind = 10) (n11 : ¬ a.kind = 11) : Calls Try.prog 69 #[.pointer p, a.val] w fun e w' => e = .returned (.bool false) ∧ Below w.heap.size w w' := by
  obtain ⟨W, hW⟩ : ∃ W, W = w.alloc (.cells #[.int .i64 a.kind, .string a.client, .string a.msg.topic, .string a.msg.payload, .int .i64 a.msg.qos, .bool a.msg.retain, .slice a.msg.pA a.msg.props.length a.msg.pc, .string a.msg.from_, .int .i64 a.msg.until_, .int .i64 a.msg.seq, .string a.msg.group, .int .i64 a.n, .slice a.fA a.free.length a.fc] 81) := ⟨_, rfl⟩
  have hb0 : Below w.heap.size w W := by rw [hW]; exact alloc_below _ _
  have hz0 : W.heap[w.heap.size]? = some (.cells #[.int .i64 a.kind, .string a.client, .string a.msg.topic, .string a.msg.payload, .int .i64 a.msg.qos, .bool a.msg.retain, .slice a.msg.pA a.msg.props.length a.msg.pc, .string a.msg.from_, .int .i64 a.msg.until_, .int .i64 a.msg.seq, .string a.msg.group, .int .i64 a.n, .slice a.fA a.free.length a.fc] 81 (0, 0)) := by rw [hW]; exact heap_alloc_new w _
  have a0 : W.cell? ⟨w.heap.size, 0, none⟩ = some (.int .i64 a.kind) := cell_of hz0 rfl
  have a1 : W.cell? ⟨w.heap.size, 1, none⟩ = some (.string a.client) := cell_of hz0 rfl
  have a2 : W.cell? ⟨w.heap.size, 2, none⟩ = some (.string a.msg.topic) := cell_of hz0 rfl
  have a3 : W.cell? ⟨w.heap.size, 3, none⟩ = some (.string a.msg.payload) := cell_of hz0 rfl
  have a4 : W.cell? ⟨w.heap.size, 4, none⟩ = some (.int .i64 a.msg.qos) := cell_of hz0 rfl
  have a5 : W.cell? ⟨w.heap.size, 5, none⟩ = some (.bool a.msg.retain) := cell_of hz0 rfl
  have a6 : W.cell? ⟨w.heap.size, 6, none⟩ = some (.slice a.msg.pA a.msg.props.length a.msg.pc) := cell_of hz0 rfl
  have a7 : W.cell? ⟨w.heap.size, 7, none⟩ = some (.string a.msg.from_) := cell_of hz0 rfl
  have a8 : W.cell? ⟨w.heap.size, 8, none⟩ = some (.int .i64 a.msg.until_) := cell_of hz0 rfl
  have a9 : W.cell? ⟨w.heap.size, 9, none⟩ = some (.int .i64 a.msg.seq) := cell_of hz0 rfl
  have a10 : W.cell? ⟨w.heap.size, 10, none⟩ = some (.string a.msg.group) := cell_of hz0 rfl
  have a11 : W.cell? ⟨w.heap.size, 11, none⟩ = some (.int .i64 a.n) := cell_of hz0 rfl
  have a12 : W.cell? ⟨w.heap.size, 12, none⟩ = some (.slice a.fA a.free.length a.fc) := cell_of hz0 rfl
  have HWW := Lib.hid hW
  have HB0 := Lib.hid hb0
  unfold GA.val
  generalize a.kind = kd at *
  clear hn hb0 hz0 hW
  go_enter Try.func69, Try.ntmps69
  go_upto_region 1 with (fail)
  rw [← HWW.out]
  clear HWW
  go_wp2_with fail
  go_ret
  exact ⟨rfl, HB0.out⟩
theorem do_no (w : World) (p : Option Addr) (hn : Non w p) (a : GA) : Calls Try.prog 69 #[.pointer p, a.val] w fun e w' => e = .returned (.bool false) ∧ Below w.heap.size w w' := by
  by_cases n1 : a.kind = 1
  · exact do_no1 w p hn a n1
  by_cases n2 : a.kind = 2
  · exact do_no2 w p hn a n2
  by_cases n3 : a.kind = 3
  · exact do_no3 w p hn a n3
  by_cases n4 : a.kind = 4
  · exact do_no4 w p hn a n4
  by_cases n5 : a.kind = 5
  · exact do_no5 w p hn a n5
  by_cases n7 : a.kind = 7
  · exact do_no7 w p hn a n7
  by_cases n8 : a.kind = 8
  · exact do_no8 w p hn a n8
  by_cases n10 : a.kind = 10
  · exact do_no10 w p hn a n10
  by_cases n11 : a.kind = 11
  · exact do_no11 w p hn a n11
  exact do_no0 w p hn a n1 n2 n3 n4 n5 n7 n8 n10 n11
end Go.Proofs.Ytclhgnlhejohgaa.GrpW
set_option linter.unusedVariables false
set_option linter.unusedSimpArgs false
namespace Go.Proofs.Ytclhgnlhejohgaa.GrpW
open Go.RowKit Go.Proofs.Ytclhgnlhejohgaa.Tc Go.Proofs.Ytclhgnlhejohgaa.GrpP
open Go.Proofs.Ytclhgnlhejohgaa.PickW (kS)
theorem act_open {H : Type} {enc : TypeId × Value → H} {w : World} {base : Nat} {sp : Nat → Bool} {held : Bool} {v : Value} {d : DataW H} {ps : List MemPlace} {P : Prop} (hv : P)
    (h : DataW.Trod enc Try.prog w base sp held 81 v d ps) : ∃ a : GA, v = a.val ∧ (a.wf ∧ SliceIs kProp w a.msg.pA a.msg.props ∧ SliceIs aS w a.fA a.free) := by
  obtain ⟨fuel, hf⟩ := h
  obtain ⟨m, hx⟩ := kGA.opens hf
  obtain ⟨hc, hw, hs⟩ := (kGA_rel _ _ _).1 hx
  refine ⟨m, ?_, hw, hs⟩
  unfold GA.vals at hc
  unfold GA.val
  cases v <;> first | (simp [Value.cells] at hc; done) | (simp only [Value.cells] at hc; rw [Value.agg.injEq]; apply Array.ext'; exact hc)
theorem act_new (w : World) (b : Nat) (hb : b = w.heap.size) (a : GA) (hw : a.wf) (hp : SliceIs kProp w a.msg.pA a.msg.props) (hf : SliceIs aS w a.fA a.free) :
    SliceIs kGA (w.alloc (.cells #[.int .i64 a.kind, .string a.client, .string a.msg.topic, .string a.msg.payload, .int .i64 a.msg.qos, .bool a.msg.retain, .slice a.msg.pA a.msg.props.length a.msg.pc, .string a.msg.from_, .int .i64 a.msg.until_, .int .i64 a.msg.seq, .string a.msg.group, .int .i64 a.n, .slice a.fA a.free.length a.fc] 81)) (some ⟨b, 0, none⟩) [a] := by
  subst hb
  have hbl := alloc_below w (.cells #[.int .i64 a.kind, .string a.client, .string a.msg.topic, .string a.msg.payload, .int .i64 a.msg.qos, .bool a.msg.retain, .slice a.msg.pA a.msg.props.length a.msg.pc, .string a.msg.from_, .int .i64 a.msg.until_, .int .i64 a.msg.seq, .string a.msg.group, .int .i64 a.n, .slice a.fA a.free.length a.fc] 81)
  refine ⟨(show (1 : Nat) ≤ maxLen by decide), fun _ => ⟨w.heap.size, 0, rfl, by simp, fun i x hx => ⟨a.vals, ?_, fun j u hu => ?_⟩⟩⟩
  · have hi : i = 0 ∧ x = a := by
      cases i with
      | zero => exact ⟨rfl, (Option.some.inj hx).symm⟩
      | succ i => simp at hx
    rw [hi.2]
    exact (kGA_rel _ _ _).2 ⟨rfl, hw, hp.below hbl, hf.below hbl⟩
  · have hi : i = 0 := by
      cases i with
      | zero => rfl
      | succ i => simp at hx
    subst hi
    rw [Nat.zero_mul, Nat.zero_add]
    exact cell_of (heap_alloc_new w _) (by rw [← Array.getElem?_toList]; exact hu)
set_option maxRecDepth 100000 in
set_option maxHeartbeats 16000000 in
theorem nobody_law (W : World) (a : GA) (ha : a.wf ∧ SliceIs kProp W a.msg.pA a.msg.props ∧ SliceIs aS W a.fA a.free) :
    Calls Try.prog 16 #[a.val] W fun e w' => e = .returned (.bool true) ∧ Below W.heap.size W w' := by
  generalize hP : (fun (e : Ending) (w' : World) => e = .returned (.bool true) ∧ Below W.heap.size W w') = PP
  have HPP := Lib.hid (show ∀ w', Below W.heap.size W w' → PP (.returned (.bool true)) w' from fun w' h1 => by
    rw [← hP]
    exact ⟨rfl, h1⟩)
  clear hP
  obtain ⟨W1, hW1⟩ : ∃ W1, W1 = W.alloc (.cells #[.int .i64 a.kind, .string a.client, .string a.msg.topic, .string a.msg.payload, .int .i64 a.msg.qos, .bool a.msg.retain, .slice a.msg.pA a.msg.props.length a.msg.pc, .string a.msg.from_, .int .i64 a.msg.until_, .int .i64 a.msg.seq, .string a.msg.group, .int .i64 a.n, .slice a.fA a.free.length a.fc] 81) := ⟨_, rfl⟩
  have hb1 : Below W.heap.size W W1 := by rw [hW1]; exact alloc_below _ _
  have hz1 : W1.heap[W.heap.size]? = some (.cells #[.int .i64 a.kind, .string a.client, .string a.msg.topic, .string a.msg.payload, .int .i64 a.msg.qos, .bool a.msg.retain, .slice a.msg.pA a.msg.props.length a.msg.pc, .string a.msg.from_, .int .i64 a.msg.until_, .int .i64 a.msg.seq, .string a.msg.group, .int .i64 a.n, .slice a.fA a.free.length a.fc] 81 (0, 0)) := by rw [hW1]; exact heap_alloc_new W _
  have hs1 : W1.heap.size = W.heap.size + 1 := by rw [hW1]; simp
  have hb2 := alloc_below W1 (.cells #[.int .i64 a.kind, .string a.client, .string a.msg.topic, .string a.msg.payload, .int .i64 a.msg.qos, .bool a.msg.retain, .slice a.msg.pA a.msg.props.length a.msg.pc, .string a.msg.from_, .int .i64 a.msg.until_, .int .i64 a.msg.seq, .string a.msg.group, .int .i64 a.n, .slice a.fA a.free.length a.fc] 81)
  have HA := Lib.hid ha
  have HF := Lib.hid (few_any (W1.alloc (.cells #[.int .i64 a.kind, .string a.client, .string a.msg.topic, .string a.msg.payload, .int .i64 a.msg.qos, .bool a.msg.retain, .slice a.msg.pA a.msg.props.length a.msg.pc, .string a.msg.from_, .int .i64 a.msg.until_, .int .i64 a.msg.seq, .string a.msg.group, .int .i64 a.n, .slice a.fA a.free.length a.fc] 81)) (some ⟨W1.heap.size, 0, none⟩) 1 [a] 1 (by decide) (act_new W1 _ rfl a ha.1 (ha.2.1.below hb1) (ha.2.2.below hb1)))
  rw [show ((1 : Nat) : Int) = 1 from rfl, show [a].length = 1 from rfl] at HF
  have e0 : W1.cell? ⟨W.heap.size, 0, none⟩ = some (.int .i64 a.kind) := cell_of hz1 rfl
  have e1 : W1.cell? ⟨W.heap.size, 1, none⟩ = some (.string a.client) := cell_of hz1 rfl
  have e2 : W1.cell? ⟨W.heap.size, 2, none⟩ = some (.string a.msg.topic) := cell_of hz1 rfl
  have e3 : W1.cell? ⟨W.heap.size, 3, none⟩ = some (.string a.msg.payload) := cell_of hz1 rfl
  have e4 : W1.cell? ⟨W.heap.size, 4, none⟩ = some (.int .i64 a.msg.qos) := cell_of hz1 rfl
  have e5 : W1.cell? ⟨W.heap.size, 5, none⟩ = some (.bool a.msg.retain) := cell_of hz1 rfl
  have e6 : W1.cell? ⟨W.heap.size, 6, none⟩ = some (.slice a.msg.pA a.msg.props.length a.msg.pc) := cell_of hz1 rfl
  have e7 : W1.cell? ⟨W.heap.size, 7, none⟩ = some (.string a.msg.from_) := cell_of hz1 rfl
  have e8 : W1.cell? ⟨W.heap.size, 8, none⟩ = some (.int .i64 a.msg.until_) := cell_of hz1 rfl
  have e9 : W1.cell? ⟨W.heap.size, 9, none⟩ = some (.int .i64 a.msg.seq) := cell_of hz1 rfl
  have e10 : W1.cell? ⟨W.heap.size, 10, none⟩ = some (.string a.msg.group) := cell_of hz1 rfl
  have e11 : W1.cell? ⟨W.heap.size, 11, none⟩ = some (.int .i64 a.n) := cell_of hz1 rfl
  have e12 : W1.cell? ⟨W.heap.size, 12, none⟩ = some (.slice a.fA a.free.length a.fc) := cell_of hz1 rfl
  have HB2 := Lib.hid (then_below hb1 hb2)
  have HZ2 := Lib.hid ((hb2.block _ (lt_of_block hz1)).trans hz1)
  have HW1 := Lib.hid hW1
  unfold GA.val
  clear ha hb1 hz1 hb2 hW1 hs1
  go_enter Try.func16, Try.ntmps16
  go_upto_region 1 with (fail)
  rw [← HW1.out]
  clear HW1
  go_wp2_with fail
  refine HF.out.mono ?_
  rintro e w1 ⟨⟨fb, rfl, -⟩, hb⟩
  have HBW := Lib.hid (then_below HB2.out hb)
  have HZ3 := Lib.hid ((hb.block _ (lt_of_block HZ2.out)).trans HZ2.out)
  clear hb e0 e1 e2 e3 e4 e5 e6 e7 e8 e9 e10 e11 e12 HF
  cases fb with
  | false =>
    go_wp2_with fail
    refine (awake_any _).mono ?_
    rintro e wz ⟨rfl, hbz⟩
    have HE := Lib.hid (HPP.out wz (then_below (HBW.out) hbz))
    clear hbz
    go_wp2_with fail
    exact HE.out
  | true =>
    obtain ⟨w2, hw2⟩ : ∃ w2, w2 = w1.alloc (.cells #[.pointer none, .string ⟨#[]⟩, .int .i64 0, .int .i64 0, .slice none 0 0, .string ⟨#[]⟩] 93) := ⟨_, rfl⟩
    obtain ⟨w3, hw3⟩ : ∃ w3, w3 = w2.alloc (.cells #[.pointer none, .pointer (some ⟨w1.heap.size, 0, none⟩)] 78) := ⟨_, rfl⟩
    have hb2 : Below w1.heap.size w1 w2 := by rw [hw2]; exact alloc_below _ _
    have hb3 : Below w2.heap.size w2 w3 := by rw [hw3]; exact alloc_below _ _
    have hs2 : w2.heap.size = w1.heap.size + 1 := by rw [hw2]; simp
    have hz2 : w2.heap[w1.heap.size]? = some Zg := by rw [hw2]; exact heap_alloc_new w1 _
    have hz3 : w3.heap[w1.heap.size + 1]? = some (.cells #[.pointer none, .pointer (some ⟨w1.heap.size, 0, none⟩)] 78 (0, 0)) := by rw [hw3, ← hs2]; exact heap_alloc_new w2 _
    have HB3 := Lib.hid (then_below hb2 hb3)
    have HG3 := Lib.hid ((hb3.block _ (lt_of_block hz2)).trans hz2)
    have HL3 := Lib.hid hz3
    have HW3 := Lib.hid (show w3 = (w1.alloc (.cells #[.pointer none, .string ⟨#[]⟩, .int .i64 0, .int .i64 0, .slice none 0 0, .string ⟨#[]⟩] 93)).alloc (.cells #[.pointer none, .pointer (some ⟨w1.heap.size, 0, none⟩)] 78) by rw [hw3, hw2])
    have HZ4 := Lib.hid ((HB3.out.block _ (lt_of_block HZ3.out)).trans HZ3.out)
    have HBW3 := Lib.hid (then_below HBW.out HB3.out)
    clear hw2 hw3 hb2 hb3 hs2 hz2 hz3 HZ3 HZ2
    go_upto_region 4 with (fail)
    rw [← HW3.out]
    clear HW3
    go_wp2_with fail
    go_loopw [4] (fun y wr => ∃ k : Nat, k ≤ 2 ∧ y = .int .i64 k ∧ Below w3.heap.size w3 wr) (fun y _ => 2 - (intOf y).toNat)
    case atStart => exact ⟨0, by omega, rfl, Below.refl _ _⟩
    case round =>
      obtain ⟨k, hk, rfl, hB⟩ := hrel
      have HB := Lib.hid hB
      clear hB
      have HL := Lib.hid ((HB.out.block _ (lt_of_block HL3.out)).trans HL3.out)
      have HZ := Lib.hid ((HB.out.block _ (lt_of_block HZ4.out)).trans HZ4.out)
      have HG := Lib.hid ((HB.out.block _ (lt_of_block HG3.out)).trans HG3.out)
      have x12 : wr.cell? ⟨W.heap.size, 12, none⟩ = some (.slice a.fA a.free.length a.fc) := cell_of HZ.out rfl
      rcases (show k = 0 ∨ k = 1 ∨ k = 2 by omega) with rfl | rfl | rfl
      · have q0 : wr.cell? ⟨w1.heap.size + 1, 0, none⟩ = some (.pointer none) := cell_of HL.out rfl
        have HN := Lib.hid (show Non wr none from .inl rfl)
        have HX := Lib.hid (next_no wr _ HN.out a.fA a.free.length a.fc)
        go_wp2_with fail
        refine HX.out.mono ?_
        rintro e v1 ⟨rfl, hb⟩
        have HV1 := Lib.hid (then_below hb (alloc_below v1 (.cells #[.string ⟨#[]⟩, .string ⟨#[]⟩, .int .i64 0, .bool false, .slice none 0 0, .string ⟨#[]⟩, .int .i64 0, .int .i64 0, .string ⟨#[]⟩] 43)))
        have hzz := (HV1.out.block _ (lt_of_block HZ.out)).trans HZ.out
        have HX := Lib.hid (do_no _ _ (HN.out.below HV1.out) a)
        unfold GA.val at HX
        have z0 : (v1.alloc (.cells #[.string ⟨#[]⟩, .string ⟨#[]⟩, .int .i64 0, .bool false, .slice none 0 0, .string ⟨#[]⟩, .int .i64 0, .int .i64 0, .string ⟨#[]⟩] 43)).cell? ⟨W.heap.size, 0, none⟩ = some (.int .i64 a.kind) := cell_of hzz rfl
        have z1 : (v1.alloc (.cells #[.string ⟨#[]⟩, .string ⟨#[]⟩, .int .i64 0, .bool false, .slice none 0 0, .string ⟨#[]⟩, .int .i64 0, .int .i64 0, .string ⟨#[]⟩] 43)).cell? ⟨W.heap.size, 1, none⟩ = some (.string a.client) := cell_of hzz rfl
        have z2 : (v1.alloc (.cells #[.string ⟨#[]⟩, .string ⟨#[]⟩, .int .i64 0, .bool false, .slice none 0 0, .string ⟨#[]⟩, .int .i64 0, .int .i64 0, .string ⟨#[]⟩] 43)).cell? ⟨W.heap.size, 2, none⟩ = some (.string a.msg.topic) := cell_of hzz rfl
        have z3 : (v1.alloc (.cells #[.string ⟨#[]⟩, .string ⟨#[]⟩, .int .i64 0, .bool false, .slice none 0 0, .string ⟨#[]⟩, .int .i64 0, .int .i64 0, .string ⟨#[]⟩] 43)).cell? ⟨W.heap.size, 3, none⟩ = some (.string a.msg.payload) := cell_of hzz rfl
        have z4 : (v1.alloc (.cells #[.string ⟨#[]⟩, .string ⟨#[]⟩, .int .i64 0, .bool false, .slice none 0 0, .string ⟨#[]⟩, .int .i64 0, .int .i64 0, .string ⟨#[]⟩] 43)).cell? ⟨W.heap.size, 4, none⟩ = some (.int .i64 a.msg.qos) := cell_of hzz rfl
        have z5 : (v1.alloc (.cells #[.string ⟨#[]⟩, .string ⟨#[]⟩, .int .i64 0, .bool false, .slice none 0 0, .string ⟨#[]⟩, .int .i64 0, .int .i64 0, .string ⟨#[]⟩] 43)).cell? ⟨W.heap.size, 5, none⟩ = some (.bool a.msg.retain) := cell_of hzz rfl
        have z6 : (v1.alloc (.cells #[.string ⟨#[]⟩, .string ⟨#[]⟩, .int .i64 0, .bool false, .slice none 0 0, .string ⟨#[]⟩, .int .i64 0, .int .i64 0, .string ⟨#[]⟩] 43)).cell? ⟨W.heap.size, 6, none⟩ = some (.slice a.msg.pA a.msg.props.length a.msg.pc) := cell_of hzz rfl
        have z7 : (v1.alloc (.cells #[.string ⟨#[]⟩, .string ⟨#[]⟩, .int .i64 0, .bool false, .slice none 0 0, .string ⟨#[]⟩, .int .i64 0, .int .i64 0, .string ⟨#[]⟩] 43)).cell? ⟨W.heap.size, 7, none⟩ = some (.string a.msg.from_) := cell_of hzz rfl
        have z8 : (v1.alloc (.cells #[.string ⟨#[]⟩, .string ⟨#[]⟩, .int .i64 0, .bool false, .slice none 0 0, .string ⟨#[]⟩, .int .i64 0, .int .i64 0, .string ⟨#[]⟩] 43)).cell? ⟨W.heap.size, 8, none⟩ = some (.int .i64 a.msg.until_) := cell_of hzz rfl
        have z9 : (v1.alloc (.cells #[.string ⟨#[]⟩, .string ⟨#[]⟩, .int .i64 0, .bool false, .slice none 0 0, .string ⟨#[]⟩, .int .i64 0, .int .i64 0, .string ⟨#[]⟩] 43)).cell? ⟨W.heap.size, 9, none⟩ = some (.int .i64 a.msg.seq) := cell_of hzz rfl
        have z10 : (v1.alloc (.cells #[.string ⟨#[]⟩, .string ⟨#[]⟩, .int .i64 0, .bool false, .slice none 0 0, .string ⟨#[]⟩, .int .i64 0, .int .i64 0, .string ⟨#[]⟩] 43)).cell? ⟨W.heap.size, 10, none⟩ = some (.string a.msg.group) := cell_of hzz rfl
        have z11 : (v1.alloc (.cells #[.string ⟨#[]⟩, .string ⟨#[]⟩, .int .i64 0, .bool false, .slice none 0 0, .string ⟨#[]⟩, .int .i64 0, .int .i64 0, .string ⟨#[]⟩] 43)).cell? ⟨W.heap.size, 11, none⟩ = some (.int .i64 a.n) := cell_of hzz rfl
        have z12 : (v1.alloc (.cells #[.string ⟨#[]⟩, .string ⟨#[]⟩, .int .i64 0, .bool false, .slice none 0 0, .string ⟨#[]⟩, .int .i64 0, .int .i64 0, .string ⟨#[]⟩] 43)).cell? ⟨W.heap.size, 12, none⟩ = some (.slice a.fA a.free.length a.fc) := cell_of hzz rfl
        clear hb hzz x12
        go_wp2_with fail
        refine HX.out.mono ?_
        rintro e v2 ⟨rfl, hb⟩
        have HV2 := Lib.hid (then_below HV1.out hb)
        have y11 : v2.cell? ⟨W.heap.size, 11, none⟩ = some (.int .i64 a.n) := cell_of ((HV2.out.block _ (lt_of_block HZ.out)).trans HZ.out) rfl
        clear hb HX z0 z1 z2 z3 z4 z5 z6 z7 z8 z9 z10 z11 z12
        have HX := Lib.hid (expire_no v2 _ (HN.out.below HV2.out) a.n)
        go_wp2_with fail
        refine HX.out.mono ?_
        rintro e v3 ⟨rfl, hb⟩
        have HV3 := Lib.hid (then_below HV2.out hb)
        clear hb HX
        have HX := Lib.hid (items_no v3 _ (HN.out.below HV3.out))
        go_wp2_with fail
        refine HX.out.mono ?_
        rintro e v4 ⟨⟨A4, c4, rfl⟩, hb⟩
        have HV4 := Lib.hid (then_below HV3.out hb)
        clear hb HX
        have HX := Lib.hid (members_no v4 _ (HN.out.below HV4.out))
        go_wp2_with fail
        refine HX.out.mono ?_
        rintro e v5 ⟨rfl, hb⟩
        have HV5 := Lib.hid (then_below HV4.out hb)
        clear hb HX
        have HX := Lib.hid (room_no v5 _ (HN.out.below HV5.out))
        go_wp2_with fail
        refine HX.out.mono ?_
        rintro e v6 ⟨rfl, hb⟩
        have HV6 := Lib.hid (then_below HV5.out hb)
        clear hb HX
        have HX := Lib.hid (generation_no v6 _ (HN.out.below HV6.out))
        go_wp2_with fail
        refine HX.out.mono ?_
        rintro e v7 ⟨rfl, hb⟩
        have HV7 := Lib.hid (then_below HV6.out hb)
        clear hb HX
        have HX := Lib.hid (strategy_no v7 _ (HN.out.below HV7.out))
        go_wp2_with fail
        refine HX.out.mono ?_
        rintro e v8 ⟨rfl, hb⟩
        have HV8 := Lib.hid (then_below HV7.out hb)
        clear hb HX
        have HX := Lib.hid (idle_no v8 _ (HN.out.below HV8.out))
        go_wp2_with fail
        refine HX.out.mono ?_
        rintro e v9 ⟨rfl, hb⟩
        have HV9 := Lib.hid (then_below HV8.out hb)
        clear hb HX
        have HX := Lib.hid (key_no v9 _ (HN.out.below HV9.out))
        go_wp2_with fail
        refine HX.out.mono ?_
        rintro e v10 ⟨rfl, hb⟩
        have HV10 := Lib.hid (then_below HV9.out hb)
        clear hb HX
        have HE := Lib.hid (then_below HB.out HV10.out)
        go_wp2_with fail
        go_roundw
        case rel => exact ⟨1, by omega, by go_num, HE.out⟩
        case measure => simp [intOf]
      · have q0 : wr.cell? ⟨w1.heap.size + 1, 1, none⟩ = some (.pointer (some ⟨w1.heap.size, 0, none⟩)) := cell_of HL.out rfl
        have HN := Lib.hid (show Non wr (some ⟨w1.heap.size, 0, none⟩) from .inr ⟨_, rfl, HG.out⟩)
        have HX := Lib.hid (next_no wr _ HN.out a.fA a.free.length a.fc)
        go_wp2_with fail
        refine HX.out.mono ?_
        rintro e v1 ⟨rfl, hb⟩
        have HV1 := Lib.hid (then_below hb (alloc_below v1 (.cells #[.string ⟨#[]⟩, .string ⟨#[]⟩, .int .i64 0, .bool false, .slice none 0 0, .string ⟨#[]⟩, .int .i64 0, .int .i64 0, .string ⟨#[]⟩] 43)))
        have hzz := (HV1.out.block _ (lt_of_block HZ.out)).trans HZ.out
        have HX := Lib.hid (do_no _ _ (HN.out.below HV1.out) a)
        unfold GA.val at HX
        have z0 : (v1.alloc (.cells #[.string ⟨#[]⟩, .string ⟨#[]⟩, .int .i64 0, .bool false, .slice none 0 0, .string ⟨#[]⟩, .int .i64 0, .int .i64 0, .string ⟨#[]⟩] 43)).cell? ⟨W.heap.size, 0, none⟩ = some (.int .i64 a.kind) := cell_of hzz rfl
        have z1 : (v1.alloc (.cells #[.string ⟨#[]⟩, .string ⟨#[]⟩, .int .i64 0, .bool false, .slice none 0 0, .string ⟨#[]⟩, .int .i64 0, .int .i64 0, .string ⟨#[]⟩] 43)).cell? ⟨W.heap.size, 1, none⟩ = some (.string a.client) := cell_of hzz rfl
        have z2 : (v1.alloc (.cells #[.string ⟨#[]⟩, .string ⟨#[]⟩, .int .i64 0, .bool false, .slice none 0 0, .string ⟨#[]⟩, .int .i64 0, .int .i64 0, .string ⟨#[]⟩] 43)).cell? ⟨W.heap.size, 2, none⟩ = some (.string a.msg.topic) := cell_of hzz rfl
        have z3 : (v1.alloc (.cells #[.string ⟨#[]⟩, .string ⟨#[]⟩, .int .i64 0, .bool false, .slice none 0 0, .string ⟨#[]⟩, .int .i64 0, .int .i64 0, .string ⟨#[]⟩] 43)).cell? ⟨W.heap.size, 3, none⟩ = some (.string a.msg.payload) := cell_of hzz rfl
        have z4 : (v1.alloc (.cells #[.string ⟨#[]⟩, .string ⟨#[]⟩, .int .i64 0, .bool false, .slice none 0 0, .string ⟨#[]⟩, .int .i64 0, .int .i64 0, .string ⟨#[]⟩] 43)).cell? ⟨W.heap.size, 4, none⟩ = some (.int .i64 a.msg.qos) := cell_of hzz rfl
        have z5 : (v1.alloc (.cells #[.string ⟨#[]⟩, .string ⟨#[]⟩, .int .i64 0, .bool false, .slice none 0 0, .string ⟨#[]⟩, .int .i64 0, .int .i64 0, .string ⟨#[]⟩] 43)).cell? ⟨W.heap.size, 5, none⟩ = some (.bool a.msg.retain) := cell_of hzz rfl
        have z6 : (v1.alloc (.cells #[.string ⟨#[]⟩, .string ⟨#[]⟩, .int .i64 0, .bool false, .slice none 0 0, .string ⟨#[]⟩, .int .i64 0, .int .i64 0, .string ⟨#[]⟩] 43)).cell? ⟨W.heap.size, 6, none⟩ = some (.slice a.msg.pA a.msg.props.length a.msg.pc) := cell_of hzz rfl
        have z7 : (v1.alloc (.cells #[.string ⟨#[]⟩, .string ⟨#[]⟩, .int .i64 0, .bool false, .slice none 0 0, .string ⟨#[]⟩, .int .i64 0, .int .i64 0, .string ⟨#[]⟩] 43)).cell? ⟨W.heap.size, 7, none⟩ = some (.string a.msg.from_) := cell_of hzz rfl
        have z8 : (v1.alloc (.cells #[.string ⟨#[]⟩, .string ⟨#[]⟩, .int .i64 0, .bool false, .slice none 0 0, .string ⟨#[]⟩, .int .i64 0, .int .i64 0, .string ⟨#[]⟩] 43)).cell? ⟨W.heap.size, 8, none⟩ = some (.int .i64 a.msg.until_) := cell_of hzz rfl
        have z9 : (v1.alloc (.cells #[.string ⟨#[]⟩, .string ⟨#[]⟩, .int .i64 0, .bool false, .slice none 0 0, .string ⟨#[]⟩, .int .i64 0, .int .i64 0, .string ⟨#[]⟩] 43)).cell? ⟨W.heap.size, 9, none⟩ = some (.int .i64 a.msg.seq) := cell_of hzz rfl
        have z10 : (v1.alloc (.cells #[.string ⟨#[]⟩, .string ⟨#[]⟩, .int .i64 0, .bool false, .slice none 0 0, .string ⟨#[]⟩, .int .i64 0, .int .i64 0, .string ⟨#[]⟩] 43)).cell? ⟨W.heap.size, 10, none⟩ = some (.string a.msg.group) := cell_of hzz rfl
        have z11 : (v1.alloc (.cells #[.string ⟨#[]⟩, .string ⟨#[]⟩, .int .i64 0, .bool false, .slice none 0 0, .string ⟨#[]⟩, .int .i64 0, .int .i64 0, .string ⟨#[]⟩] 43)).cell? ⟨W.heap.size, 11, none⟩ = some (.int .i64 a.n) := cell_of hzz rfl
        have z12 : (v1.alloc (.cells #[.string ⟨#[]⟩, .string ⟨#[]⟩, .int .i64 0, .bool false, .slice none 0 0, .string ⟨#[]⟩, .int .i64 0, .int .i64 0, .string ⟨#[]⟩] 43)).cell? ⟨W.heap.size, 12, none⟩ = some (.slice a.fA a.free.length a.fc) := cell_of hzz rfl
        clear hb hzz x12
        go_wp2_with fail
        refine HX.out.mono ?_
        rintro e v2 ⟨rfl, hb⟩
        have HV2 := Lib.hid (then_below HV1.out hb)
        have y11 : v2.cell? ⟨W.heap.size, 11, none⟩ = some (.int .i64 a.n) := cell_of ((HV2.out.block _ (lt_of_block HZ.out)).trans HZ.out) rfl
        clear hb HX z0 z1 z2 z3 z4 z5 z6 z7 z8 z9 z10 z11 z12
        have HX := Lib.hid (expire_no v2 _ (HN.out.below HV2.out) a.n)
        go_wp2_with fail
        refine HX.out.mono ?_
        rintro e v3 ⟨rfl, hb⟩
        have HV3 := Lib.hid (then_below HV2.out hb)
        clear hb HX
        have HX := Lib.hid (items_no v3 _ (HN.out.below HV3.out))
        go_wp2_with fail
        refine HX.out.mono ?_
        rintro e v4 ⟨⟨A4, c4, rfl⟩, hb⟩
        have HV4 := Lib.hid (then_below HV3.out hb)
        clear hb HX
        have HX := Lib.hid (members_no v4 _ (HN.out.below HV4.out))
        go_wp2_with fail
        refine HX.out.mono ?_
        rintro e v5 ⟨rfl, hb⟩
        have HV5 := Lib.hid (then_below HV4.out hb)
        clear hb HX
        have HX := Lib.hid (room_no v5 _ (HN.out.below HV5.out))
        go_wp2_with fail
        refine HX.out.mono ?_
        rintro e v6 ⟨rfl, hb⟩
        have HV6 := Lib.hid (then_below HV5.out hb)
        clear hb HX
        have HX := Lib.hid (generation_no v6 _ (HN.out.below HV6.out))
        go_wp2_with fail
        refine HX.out.mono ?_
        rintro e v7 ⟨rfl, hb⟩
        have HV7 := Lib.hid (then_below HV6.out hb)
        clear hb HX
        have HX := Lib.hid (strategy_no v7 _ (HN.out.below HV7.out))
        go_wp2_with fail
        refine HX.out.mono ?_
        rintro e v8 ⟨rfl, hb⟩
        have HV8 := Lib.hid (then_below HV7.out hb)
        clear hb HX
        have HX := Lib.hid (idle_no v8 _ (HN.out.below HV8.out))
        go_wp2_with fail
        refine HX.out.mono ?_
        rintro e v9 ⟨rfl, hb⟩
        have HV9 := Lib.hid (then_below HV8.out hb)
        clear hb HX
        have HX := Lib.hid (key_no v9 _ (HN.out.below HV9.out))
        go_wp2_with fail
        refine HX.out.mono ?_
        rintro e v10 ⟨rfl, hb⟩
        have HV10 := Lib.hid (then_below HV9.out hb)
        clear hb HX
        have HE := Lib.hid (then_below HB.out HV10.out)
        go_wp2_with fail
        go_roundw
        case rel => exact ⟨2, by omega, by go_num, HE.out⟩
        case measure => simp [intOf]
      · have HBE := Lib.hid (then_below HBW3.out HB.out)
        clear x12
        go_wp2_with fail
        refine (awake_any _).mono ?_
        rintro e wz ⟨rfl, hbz⟩
        have HE := Lib.hid (HPP.out wz (then_below (HBE.out) hbz))
        clear hbz
        go_wp2_with fail
        exact HE.out
end Go.Proofs.Ytclhgnlhejohgaa.GrpW
