/- A group's queue: what is sent, refused and added. -/
import Derived.Test.YtclhgnlhejohgaaGqC
import Derived.Deep.AppendSrc
set_option linter.unusedVariables false
set_option linter.unusedSimpArgs false
namespace Go.Proofs.Ytclhgnlhejohgaa.GrpW
open Go.RowKit Go.Proofs.Ytclhgnlhejohgaa.Tc Go.Proofs.Ytclhgnlhejohgaa.GrpP

section
variable {B : Nat} {w : World} {g ms : Nat} {mv iv : Value} {S : GS}
def snt (c : ByteArray) (x : Tc.It) : Tc.It := { x with at_ := c, again := true }
/-- May a message be sent there? -/
def sentAt (S : GS) (n : Int) (c : ByteArray) : Option Nat :=
  match S.I[(gidx S.I (isSeq n)).toNat]? with
  | some x => if 0 ≤ gidx S.I (isSeq n) ∧ x.at_ = ByteArray.empty ∧ ((MemP.get S.L c).map MemP.Mem.online) = some true ∧ (S.st = 3 → LaneP.may (LaneW.pr S.I) (gidx S.I (isSeq n)) c = true) then some (gidx S.I (isSeq n)).toNat else none
  | none => none
def sentP (S : GS) (n : Int) (c : ByteArray) : GS := match sentAt S n c with
  | some k => match S.I[k]? with
    | some x => { S with I := S.I.set k (snt c x), last := c }
    | none => S
  | none => S
def Hold1 (g : Nat) (x : Obj) : World → Prop := fun u => u.heap[g]? = some x
theorem Hold1.cell {g : Nat} {c : Array Value} {t : TypeId} (n : Wd (Hold1 g (.cells c t (0, 0)))) {o : Nat} {v : Value} (hv : c[o]? = some v) : n.w.cell? ⟨g, o, none⟩ = some v := cell_of n.ok hv
set_option maxRecDepth 100000 in
set_option maxHeartbeats 4000000 in
theorem sent_nowhere (h : Gp B w g ms mv iv S) (n : Int) (c : ByteArray) (m1 : ByteArray) (m2 m3 : Int) (m4 is : Bool) (HGO : Hid ((Value.tuple #[.agg #[.string ((MemP.get S.L c).getD MemW.zero).client, .int .i64 ((MemP.get S.L c).getD MemW.zero).since, .int .i64 ((MemP.get S.L c).getD MemW.zero).qos, .bool ((MemP.get S.L c).getD MemW.zero).online], .bool (MemP.get S.L c).isSome]) = .tuple #[.agg #[.string m1, .int .i64 m2, .int .i64 m3, .bool m4], .bool is]))
    (hn : gidx S.I (isSeq n) = -1) :
    Calls Try.prog 62 #[.pointer (some ⟨g, 0, none⟩), .int .i64 n, .string c] w fun e w' => e = .returned (.bool false) ∧ Below w.heap.size w w' := by
  have hb0 := alloc_below w (.cells #[.int .i64 n] 3)
  have z0 := heap_alloc_new w (.cells #[.int .i64 n] 3)
  have HI := Lib.hid (index1_any (h.below hb0) w.heap.size n (cell_of z0 rfl))
  have HB0 := Lib.hid hb0
  have HH := Lib.hid h
  clear hb0 z0 h
  rw [hn] at HI
  clear hn
  go_enter Try.func62, Try.ntmps62
  go_wp2_with fail
  refine HI.out.mono ?_
  rintro e w2 ⟨rfl, hb2⟩
  have HB2 := Lib.hid (then_below HB0.out hb2)
  have HO2 := Lib.hid (of_any (HH.out.below HB2.out))
  have HG2 := Lib.hid (MemW.get_any w2 ms mv S.L S.gen (HH.out.below HB2.out).mem c)
  unfold MemW.val at HG2
  rw [HGO.out] at HG2
  clear hb2
  go_wp2_with fail
  refine HO2.out.mono ?_
  rintro e w3 ⟨rfl, rfl⟩
  go_wp2_with fail
  refine HG2.out.mono ?_
  rintro e w3 ⟨rfl, hb3⟩
  obtain ⟨w4, hw4⟩ : ∃ w4, w4 = w3.alloc (.cells #[.string m1, .int .i64 m2, .int .i64 m3, .bool m4] 66) := ⟨_, rfl⟩
  have hb4 : Below w3.heap.size w3 w4 := by rw [hw4]; exact alloc_below _ _
  have hz4 : w4.heap[w3.heap.size]? = some (.cells #[.string m1, .int .i64 m2, .int .i64 m3, .bool m4] 66 (0, 0)) := by rw [hw4]; exact heap_alloc_new _ _
  have HB4 := Lib.hid (then_below (then_below HB2.out hb3) hb4)
  have hG4 := HH.out.below HB4.out
  have e3 : w4.cell? ⟨w3.heap.size, 3, none⟩ = some (.bool m4) := cell_of hz4 rfl
  have c4 := hG4.c4
  have c2 := hG4.c2
  have HG4 := Lib.hid hG4
  have HW4 := Lib.hid hw4
  clear hb3 hb4 hz4 hG4 hw4
  go_upto_region 3 with (fail)
  rw [← HW4.out]
  go_wp2_with fail
  go_ret
  exact ⟨rfl, HB4.out⟩
set_option maxRecDepth 100000 in
set_option maxHeartbeats 4000000 in
theorem sent_busy (h : Gp B w g ms mv iv S) (n : Int) (c : ByteArray) (m1 : ByteArray) (m2 m3 : Int) (m4 is : Bool) (HGO : Hid ((Value.tuple #[.agg #[.string ((MemP.get S.L c).getD MemW.zero).client, .int .i64 ((MemP.get S.L c).getD MemW.zero).since, .int .i64 ((MemP.get S.L c).getD MemW.zero).qos, .bool ((MemP.get S.L c).getD MemW.zero).online], .bool (MemP.get S.L c).isSome]) = .tuple #[.agg #[.string m1, .int .i64 m2, .int .i64 m3, .bool m4], .bool is]))
    (k : Nat) (x : Tc.It) (hn : gidx S.I (isSeq n) = (k : Int)) (hx : S.I[k]? = some x) (ha : x.at_ ≠ ByteArray.empty) :
    Calls Try.prog 62 #[.pointer (some ⟨g, 0, none⟩), .int .i64 n, .string c] w fun e w' => e = .returned (.bool false) ∧ Below w.heap.size w w' := by
  have hb0 := alloc_below w (.cells #[.int .i64 n] 3)
  have z0 := heap_alloc_new w (.cells #[.int .i64 n] 3)
  have HI := Lib.hid (index1_any (h.below hb0) w.heap.size n (cell_of z0 rfl))
  have HB0 := Lib.hid hb0
  have HH := Lib.hid h
  clear hb0 z0 h
  have hlt := (List.getElem?_eq_some_iff.1 hx).1
  rw [hn] at HI
  have k0 : ¬ (k : Int) < 0 := by omega
  have HX := Lib.hid hx
  clear hn hx
  obtain ⟨a1, a2⟩ := ne_empty ha
  clear ha
  go_enter Try.func62, Try.ntmps62
  go_wp2_with fail
  refine HI.out.mono ?_
  rintro e w2 ⟨rfl, hb2⟩
  have HB2 := Lib.hid (then_below HB0.out hb2)
  have HO2 := Lib.hid (of_any (HH.out.below HB2.out))
  have HG2 := Lib.hid (MemW.get_any w2 ms mv S.L S.gen (HH.out.below HB2.out).mem c)
  unfold MemW.val at HG2
  rw [HGO.out] at HG2
  clear hb2
  go_wp2_with fail
  refine HO2.out.mono ?_
  rintro e w3 ⟨rfl, rfl⟩
  go_wp2_with fail
  refine HG2.out.mono ?_
  rintro e w3 ⟨rfl, hb3⟩
  obtain ⟨w4, hw4⟩ : ∃ w4, w4 = w3.alloc (.cells #[.string m1, .int .i64 m2, .int .i64 m3, .bool m4] 66) := ⟨_, rfl⟩
  have hb4 : Below w3.heap.size w3 w4 := by rw [hw4]; exact alloc_below _ _
  have hz4 : w4.heap[w3.heap.size]? = some (.cells #[.string m1, .int .i64 m2, .int .i64 m3, .bool m4] 66 (0, 0)) := by rw [hw4]; exact heap_alloc_new _ _
  have HB4 := Lib.hid (then_below (then_below HB2.out hb3) hb4)
  have hG4 := HH.out.below HB4.out
  have e3 : w4.cell? ⟨w3.heap.size, 3, none⟩ = some (.bool m4) := cell_of hz4 rfl
  have c4 := hG4.c4
  have c2 := hG4.c2
  have HG4 := Lib.hid hG4
  have HW4 := Lib.hid hw4
  clear hb3 hb4 hz4 hG4 hw4
  go_upto_region 3 with (fail)
  rw [← HW4.out]
  obtain ⟨gi, cp, hiv, hit⟩ := HG4.out.at_ HX.out
  have c9 := hit.c9
  rw [hiv] at c4
  clear hit
  go_wp2_with fail
  go_ret
  exact ⟨rfl, HB4.out⟩
set_option maxRecDepth 100000 in
set_option maxHeartbeats 4000000 in
theorem sent_none (h : Gp B w g ms mv iv S) (n : Int) (c : ByteArray) (m1 : ByteArray) (m2 m3 : Int) (m4 is : Bool) (HGO : Hid ((Value.tuple #[.agg #[.string ((MemP.get S.L c).getD MemW.zero).client, .int .i64 ((MemP.get S.L c).getD MemW.zero).since, .int .i64 ((MemP.get S.L c).getD MemW.zero).qos, .bool ((MemP.get S.L c).getD MemW.zero).online], .bool (MemP.get S.L c).isSome]) = .tuple #[.agg #[.string m1, .int .i64 m2, .int .i64 m3, .bool m4], .bool is]))
    (k : Nat) (x : Tc.It) (hn : gidx S.I (isSeq n) = (k : Int)) (hx : S.I[k]? = some x) (ha : x.at_ = ByteArray.empty) (hm : (is && m4) = false) :
    Calls Try.prog 62 #[.pointer (some ⟨g, 0, none⟩), .int .i64 n, .string c] w fun e w' => e = .returned (.bool false) ∧ Below w.heap.size w w' := by
  have hb0 := alloc_below w (.cells #[.int .i64 n] 3)
  have z0 := heap_alloc_new w (.cells #[.int .i64 n] 3)
  have HI := Lib.hid (index1_any (h.below hb0) w.heap.size n (cell_of z0 rfl))
  have HB0 := Lib.hid hb0
  have HH := Lib.hid h
  clear hb0 z0 h
  have hlt := (List.getElem?_eq_some_iff.1 hx).1
  rw [hn] at HI
  have k0 : ¬ (k : Int) < 0 := by omega
  have HX := Lib.hid hx
  clear hn hx
  go_enter Try.func62, Try.ntmps62
  go_wp2_with fail
  refine HI.out.mono ?_
  rintro e w2 ⟨rfl, hb2⟩
  have HB2 := Lib.hid (then_below HB0.out hb2)
  have HO2 := Lib.hid (of_any (HH.out.below HB2.out))
  have HG2 := Lib.hid (MemW.get_any w2 ms mv S.L S.gen (HH.out.below HB2.out).mem c)
  unfold MemW.val at HG2
  rw [HGO.out] at HG2
  clear hb2
  go_wp2_with fail
  refine HO2.out.mono ?_
  rintro e w3 ⟨rfl, rfl⟩
  go_wp2_with fail
  refine HG2.out.mono ?_
  rintro e w3 ⟨rfl, hb3⟩
  obtain ⟨w4, hw4⟩ : ∃ w4, w4 = w3.alloc (.cells #[.string m1, .int .i64 m2, .int .i64 m3, .bool m4] 66) := ⟨_, rfl⟩
  have hb4 : Below w3.heap.size w3 w4 := by rw [hw4]; exact alloc_below _ _
  have hz4 : w4.heap[w3.heap.size]? = some (.cells #[.string m1, .int .i64 m2, .int .i64 m3, .bool m4] 66 (0, 0)) := by rw [hw4]; exact heap_alloc_new _ _
  have HB4 := Lib.hid (then_below (then_below HB2.out hb3) hb4)
  have hG4 := HH.out.below HB4.out
  have e3 : w4.cell? ⟨w3.heap.size, 3, none⟩ = some (.bool m4) := cell_of hz4 rfl
  have c4 := hG4.c4
  have c2 := hG4.c2
  have HG4 := Lib.hid hG4
  have HW4 := Lib.hid hw4
  clear hb3 hb4 hz4 hG4 hw4
  go_upto_region 3 with (fail)
  rw [← HW4.out]
  obtain ⟨gi, cp, hiv, hit⟩ := HG4.out.at_ HX.out
  have c9 := hit.c9
  rw [hiv] at c4
  clear hit
  rw [ha] at c9
  cases is <;> cases m4
  case true.true => simp at hm
  all_goals
    clear hm ha
    go_wp2_with fail
    go_ret
    exact ⟨rfl, HB4.out⟩
set_option maxRecDepth 100000 in
set_option maxHeartbeats 4000000 in
theorem sent_lane (h : Gp B w g ms mv iv S) (n : Int) (c : ByteArray) (m1 : ByteArray) (m2 m3 : Int) (HGO : Hid ((Value.tuple #[.agg #[.string ((MemP.get S.L c).getD MemW.zero).client, .int .i64 ((MemP.get S.L c).getD MemW.zero).since, .int .i64 ((MemP.get S.L c).getD MemW.zero).qos, .bool ((MemP.get S.L c).getD MemW.zero).online], .bool (MemP.get S.L c).isSome]) = .tuple #[.agg #[.string m1, .int .i64 m2, .int .i64 m3, .bool true], .bool true]))
    (k : Nat) (x : Tc.It) (hn : gidx S.I (isSeq n) = (k : Int)) (hx : S.I[k]? = some x) (ha : x.at_ = ByteArray.empty) (hst : S.st = 3) (hmay : LaneP.may (LaneW.pr S.I) (k : Int) c = false) :
    Calls Try.prog 62 #[.pointer (some ⟨g, 0, none⟩), .int .i64 n, .string c] w fun e w' => e = .returned (.bool false) ∧ Below w.heap.size w w' := by
  have hb0 := alloc_below w (.cells #[.int .i64 n] 3)
  have z0 := heap_alloc_new w (.cells #[.int .i64 n] 3)
  have HI := Lib.hid (index1_any (h.below hb0) w.heap.size n (cell_of z0 rfl))
  have HB0 := Lib.hid hb0
  have HH := Lib.hid h
  clear hb0 z0 h
  have hlt := (List.getElem?_eq_some_iff.1 hx).1
  rw [hn] at HI
  have k0 : ¬ (k : Int) < 0 := by omega
  have HX := Lib.hid hx
  clear hn hx
  go_enter Try.func62, Try.ntmps62
  go_wp2_with fail
  refine HI.out.mono ?_
  rintro e w2 ⟨rfl, hb2⟩
  have HB2 := Lib.hid (then_below HB0.out hb2)
  have HO2 := Lib.hid (of_any (HH.out.below HB2.out))
  have HG2 := Lib.hid (MemW.get_any w2 ms mv S.L S.gen (HH.out.below HB2.out).mem c)
  unfold MemW.val at HG2
  rw [HGO.out] at HG2
  clear hb2
  go_wp2_with fail
  refine HO2.out.mono ?_
  rintro e w3 ⟨rfl, rfl⟩
  go_wp2_with fail
  refine HG2.out.mono ?_
  rintro e w3 ⟨rfl, hb3⟩
  obtain ⟨w4, hw4⟩ : ∃ w4, w4 = w3.alloc (.cells #[.string m1, .int .i64 m2, .int .i64 m3, .bool true] 66) := ⟨_, rfl⟩
  have hb4 : Below w3.heap.size w3 w4 := by rw [hw4]; exact alloc_below _ _
  have hz4 : w4.heap[w3.heap.size]? = some (.cells #[.string m1, .int .i64 m2, .int .i64 m3, .bool true] 66 (0, 0)) := by rw [hw4]; exact heap_alloc_new _ _
  have HB4 := Lib.hid (then_below (then_below HB2.out hb3) hb4)
  have hG4 := HH.out.below HB4.out
  have e3 : w4.cell? ⟨w3.heap.size, 3, none⟩ = some (.bool true) := cell_of hz4 rfl
  have c4 := hG4.c4
  have c2 := hG4.c2
  have HG4 := Lib.hid hG4
  have HW4 := Lib.hid hw4
  clear hb3 hb4 hz4 hG4 hw4
  go_upto_region 3 with (fail)
  rw [← HW4.out]
  obtain ⟨gi, cp, hiv, hit⟩ := HG4.out.at_ HX.out
  have c9 := hit.c9
  rw [hiv] at c4
  clear hit
  rw [ha] at c9
  rw [hst] at c2
  obtain ⟨A5, cp5, hiv5, hS5⟩ := HG4.out.items
  have HMY := Lib.hid (LaneW.may_any w4 A5 cp5 S.I (k : Int) c hS5)
  rw [hmay, ← hiv5, hiv] at HMY
  clear hS5 hiv5 ha hst hmay
  go_wp2_with fail
  refine HMY.out.mono ?_
  rintro e w5 ⟨rfl, hb5⟩
  have HB5 := Lib.hid (then_below HB4.out hb5)
  clear hb5
  go_wp2_with fail
  go_ret
  exact ⟨rfl, HB5.out⟩
end
end Go.Proofs.Ytclhgnlhejohgaa.GrpW
set_option linter.unusedVariables false
set_option linter.unusedSimpArgs false
namespace Go.Proofs.Ytclhgnlhejohgaa.GrpW
open Go.RowKit Go.Proofs.Ytclhgnlhejohgaa.Tc Go.Proofs.Ytclhgnlhejohgaa.GrpP

section
variable {B : Nat} {w : World} {g ms : Nat} {mv iv : Value} {S : GS}
theorem snt_lod {x : Tc.It} (c : ByteArray) (hc : c.size ≤ maxLen) (h : Lod B w x) : Lod B w (snt c x) := h.congr rfl rfl rfl rfl rfl ⟨h.led.1.1, hc⟩
set_option maxRecDepth 100000 in
set_option maxHeartbeats 4000000 in
theorem sent_other (h : Gp B w g ms mv iv S) (n : Int) (c : ByteArray) (m1 : ByteArray) (m2 m3 : Int) (HGO : Hid ((Value.tuple #[.agg #[.string ((MemP.get S.L c).getD MemW.zero).client, .int .i64 ((MemP.get S.L c).getD MemW.zero).since, .int .i64 ((MemP.get S.L c).getD MemW.zero).qos, .bool ((MemP.get S.L c).getD MemW.zero).online], .bool (MemP.get S.L c).isSome]) = .tuple #[.agg #[.string m1, .int .i64 m2, .int .i64 m3, .bool true], .bool true]))
    (k : Nat) (x : Tc.It) (hn : gidx S.I (isSeq n) = (k : Int)) (hx : S.I[k]? = some x) (ha : x.at_ = ByteArray.empty) (hst : S.st ≠ 3) (hc : c.size ≤ maxLen) :
    Calls Try.prog 62 #[.pointer (some ⟨g, 0, none⟩), .int .i64 n, .string c] w (MPost B w g ms true { S with I := S.I.set k (snt c x), last := c }) := by
  generalize hP : MPost B w g ms true { S with I := S.I.set k (snt c x), last := c } = PP
  have HPP := Lib.hid (show ∀ mv' w', Gp B w' g ms mv' iv { S with I := S.I.set k (snt c x), last := c } → Gf B w w' → PP (.returned (.bool true)) w' from fun mv' w' h1 h2 => by
    rw [← hP]
    exact ⟨mv', iv, rfl, h1, h2⟩)
  clear hP
  have hb0 := alloc_below w (.cells #[.int .i64 n] 3)
  have z0 := heap_alloc_new w (.cells #[.int .i64 n] 3)
  have HI := Lib.hid (index1_any (h.below hb0) w.heap.size n (cell_of z0 rfl))
  have HB0 := Lib.hid hb0
  have HH := Lib.hid h
  clear hb0 z0 h
  have hlt := (List.getElem?_eq_some_iff.1 hx).1
  rw [hn] at HI
  have k0 : ¬ (k : Int) < 0 := by omega
  have HX := Lib.hid hx
  clear hn hx
  have HC := Lib.hid hc
  clear hc
  go_enter Try.func62, Try.ntmps62
  go_wp2_with fail
  refine HI.out.mono ?_
  rintro e w2 ⟨rfl, hb2⟩
  have HB2 := Lib.hid (then_below HB0.out hb2)
  have HO2 := Lib.hid (of_any (HH.out.below HB2.out))
  have HG2 := Lib.hid (MemW.get_any w2 ms mv S.L S.gen (HH.out.below HB2.out).mem c)
  unfold MemW.val at HG2
  rw [HGO.out] at HG2
  clear hb2
  go_wp2_with fail
  refine HO2.out.mono ?_
  rintro e w3 ⟨rfl, rfl⟩
  go_wp2_with fail
  refine HG2.out.mono ?_
  rintro e w3 ⟨rfl, hb3⟩
  obtain ⟨w4, hw4⟩ : ∃ w4, w4 = w3.alloc (.cells #[.string m1, .int .i64 m2, .int .i64 m3, .bool true] 66) := ⟨_, rfl⟩
  have hb4 : Below w3.heap.size w3 w4 := by rw [hw4]; exact alloc_below _ _
  have hz4 : w4.heap[w3.heap.size]? = some (.cells #[.string m1, .int .i64 m2, .int .i64 m3, .bool true] 66 (0, 0)) := by rw [hw4]; exact heap_alloc_new _ _
  have HB4 := Lib.hid (then_below (then_below HB2.out hb3) hb4)
  have hG4 := HH.out.below HB4.out
  have e3 : w4.cell? ⟨w3.heap.size, 3, none⟩ = some (.bool true) := cell_of hz4 rfl
  have c4 := hG4.c4
  have c2 := hG4.c2
  have HG4 := Lib.hid hG4
  have HW4 := Lib.hid hw4
  clear hb3 hb4 hz4 hG4 hw4
  go_upto_region 3 with (fail)
  rw [← HW4.out]
  obtain ⟨gi, cp, hiv, hit⟩ := HG4.out.at_ HX.out
  have c9 := hit.c9
  rw [hiv] at c4
  clear hit
  rw [ha] at c9
  have hc := HC.out
  have HG5 := Lib.hid (HG4.out.below (⟨rfl, rfl, rfl, Nat.le_refl _, fun _ _ => rfl⟩ : Below w4.heap.size w4 w4.drew))
  have HF5 := Lib.hid (Gf.of_below (B := B) (HB4.out.trans ((⟨rfl, rfl, rfl, Nat.le_refl _, fun _ _ => rfl⟩ : Below w4.heap.size w4 w4.drew).mono HB4.out.size)))
  have HIV := Lib.hid hiv
  have HS0 := Lib.hid (HG5.out.st)
  obtain ⟨gi3, cp3, hv3, hf3, hc3⟩ := own_elem vals_len HG5.out.own HX.out
  have hv6 := HIV.out.symm.trans hv3
  injection hv6 with hA h6 hC
  injection hA with hA
  injection hA with hA
  subst hA hC
  clear h6 hv3
  have x11 : w4.cell? ⟨gi, k * 12 + 11, none⟩ = some (.bool x.again) := hc3 11 _ rfl
  have y11 : w4.frozen? ⟨gi, k * 12 + 11, none⟩ = false := hf3 _
  have x9 : w4.cell? ⟨gi, k * 12 + 9, none⟩ = some (.string x.at_) := hc3 9 _ rfl
  have y9 : w4.frozen? ⟨gi, k * 12 + 9, none⟩ = false := hf3 _
  have ng1 : g ≠ gi := Ne.symm (HG5.out.gi gi (by rw [HIV.out]; rfl))
  have ng2 : gi ≠ g := Ne.symm ng1
  have x5 : w4.cell? ⟨g, 5, none⟩ = some (.string S.last) := HG5.out.c5
  have y5 : w4.frozen? ⟨g, 5, none⟩ = false := free_of HG5.out.st 5
  clear hf3 hc3
  obtain ⟨gi5, cp5, hv5, hcell5, hfr5, hG6, hF6⟩ := HG5.out.put (y := { x with at_ := c }) HX.out 9 (by decide) (.string c) rfl (fun w' hl => hl.congr rfl rfl rfl rfl rfl ⟨hl.led.1.1, hc⟩)
  have hv6 := HIV.out.symm.trans hv5
  injection hv6 with hA h6 hC
  injection hA with hA
  injection hA with hA
  subst hA hC
  clear h6 hv5
  have hx6 : (S.I.set k { x with at_ := c })[k]? = some { x with at_ := c } := List.getElem?_set_self (List.getElem?_eq_some_iff.1 HX.out).1
  obtain ⟨gi6, cp6, hv6, hcell6, hfr6, hG7, hF7⟩ := hG6.put (y := snt c x) hx6 11 (by decide) (.bool true) rfl (fun w' hl => hl.congr rfl rfl rfl rfl rfl hl.led.1)
  rw [List.length_set] at hv6
  have hv7 := HIV.out.symm.trans hv6
  injection hv7 with hA h6 hC
  injection hA with hA
  injection hA with hA
  subst hA hC
  clear h6 hv6
  simp only [List.set_set] at hG7
  have hst8 := set_of hG7.st 5 (.string c)
  have hT9 : Tch [g] ((w4.drew.setCell ⟨gi, k * 12 + 9, none⟩ (.string c)).setCell ⟨gi, k * 12 + 11, none⟩ (.bool true)) (((w4.drew.setCell ⟨gi, k * 12 + 9, none⟩ (.string c)).setCell ⟨gi, k * 12 + 11, none⟩ (.bool true)).setCell ⟨g, 5, none⟩ (.string c)) := (Tch.refl _ _).setCell (.inl (by simp)) _
  have HT := Lib.hid (hG7.turn (iv' := iv) (S' := { S with I := S.I.set k (snt c x), last := c }) rfl rfl (hT9.mono (by simp)) hst8 (own_kept hG7.own hT9 (by intro j hj hm; exact hG7.gi j hj (by simpa using hm))) (fun j hj => .inl hj) (fun hg z hz => (hG7.each z hz).gf hg))
  clear hT9
  have HF := Lib.hid ((HF5.out.trans hF6).trans hF7)
  have HS1 := Lib.hid hG6.st
  have HS2 := Lib.hid hG7.st
  clear hcell5 hcell6 hfr5 hfr6 hG6 hF6 hG7 hF7 hx6 hst8
  rw [HIV.out] at HS1 HS2 HS0
  have d4 := fun q : Wd (Hold1 g (.cells #[.pointer (some ⟨ms, 0, none⟩), .string S.key, .int .i64 S.st, .int .i64 S.most, .slice (some ⟨gi, 0, none⟩) S.I.length cp, .string S.last] 93 (0, 0))) => Hold1.cell q (o := 4) (v := .slice (some ⟨gi, 0, none⟩) S.I.length cp) rfl
  have hNS : Nonempty (Wd (Hold1 g (.cells #[.pointer (some ⟨ms, 0, none⟩), .string S.key, .int .i64 S.st, .int .i64 S.most, .slice (some ⟨gi, 0, none⟩) S.I.length cp, .string S.last] 93 (0, 0)))) := ⟨⟨_, HS0.out⟩⟩
  generalize hSS : Hold1 g (.cells #[.pointer (some ⟨ms, 0, none⟩), .string S.key, .int .i64 S.st, .int .i64 S.most, .slice (some ⟨gi, 0, none⟩) S.I.length cp, .string S.last] 93 (0, 0)) = SS at d4 hNS
  have HSA := Lib.hid (show SS w4.drew by rw [← hSS]; exact HS0.out)
  have HSB := Lib.hid (show SS (w4.drew.setCell ⟨gi, k * 12 + 9, none⟩ (.string c)) by rw [← hSS]; exact HS1.out)
  have HSC := Lib.hid (show SS ((w4.drew.setCell ⟨gi, k * 12 + 9, none⟩ (.string c)).setCell ⟨gi, k * 12 + 11, none⟩ (.bool true)) by rw [← hSS]; exact HS2.out)
  have HPQ := Lib.hid (show PP (.returned (.bool true)) (((w4.drew.setCell ⟨gi, k * 12 + 9, none⟩ (.string c)).setCell ⟨gi, k * 12 + 11, none⟩ (.bool true)).setCell ⟨g, 5, none⟩ (.string c)) from HPP.out _ _ HT.out.1 (HF.out.trans HT.out.2))
  have hS0 := HSA.out
  clear HS0 HS1 HS2 HSA HT HF hSS
  go_upto_region 7 with (fail)
  refine wp_region_G (n := 22) SS rfl (by kernel_rfl) hS0 (fun hS => ?_)
  refine wpAnyG_seg (fuel := 7) [0, 4, 5, 9, 10, 11, 12, 1, 6, 2, 7, 3, 8, 13, 14] rfl rfl (by kernel_rfl) (fun _ _ d _ _ h => by cases d <;> exact h) hS ?_
  repeat (go_big_quiet_step (fail))
  refine wpQuiet_nil ?_
  refine wpAnyG_alone (fuel := 6) 15 (by kernel_rfl) rfl hS (fun K hK => ?_)
  go_simp
  refine hK.out SS _ _ (fun _ h => h) HSB.out (fun hS => ?_)
  clear hK K
  refine wpAnyG_seg (fuel := 4) [16, 17] rfl rfl (by kernel_rfl) (fun _ _ d _ _ h => by cases d <;> exact h) hS ?_
  repeat (go_big_quiet_step (fail))
  refine wpQuiet_nil ?_
  refine wpAnyG_alone (fuel := 3) 18 (by kernel_rfl) rfl hS (fun K hK => ?_)
  go_simp
  refine hK.out SS _ _ (fun _ h => h) HSC.out (fun hS => ?_)
  clear hK K
  refine wpAnyG_seg (fuel := 1) [19, 20] rfl rfl (by kernel_rfl) (fun _ _ d _ _ h => by cases d <;> exact h) hS ?_
  repeat (go_big_quiet_step (fail))
  refine wpQuiet_nil ?_
  refine wpAnyG_sealed (fuel := 0) 21 (by kernel_rfl) (by kernel_rfl) rfl (fun K hK => ?_)
  go_simp
  refine hK.out (fun _ => True) _ _ trivial (fun hS => ?_)
  clear hK K hS
  refine wpAnyG_end (by kernel_rfl) ?_
  go_wp2_with fail
  exact HPQ.out
set_option maxRecDepth 100000 in
set_option maxHeartbeats 4000000 in
theorem sent_hash (h : Gp B w g ms mv iv S) (n : Int) (c : ByteArray) (m1 : ByteArray) (m2 m3 : Int) (HGO : Hid ((Value.tuple #[.agg #[.string ((MemP.get S.L c).getD MemW.zero).client, .int .i64 ((MemP.get S.L c).getD MemW.zero).since, .int .i64 ((MemP.get S.L c).getD MemW.zero).qos, .bool ((MemP.get S.L c).getD MemW.zero).online], .bool (MemP.get S.L c).isSome]) = .tuple #[.agg #[.string m1, .int .i64 m2, .int .i64 m3, .bool true], .bool true]))
    (k : Nat) (x : Tc.It) (hn : gidx S.I (isSeq n) = (k : Int)) (hx : S.I[k]? = some x) (ha : x.at_ = ByteArray.empty) (hst : S.st = 3) (hmay : LaneP.may (LaneW.pr S.I) (k : Int) c = true) (hc : c.size ≤ maxLen) :
    Calls Try.prog 62 #[.pointer (some ⟨g, 0, none⟩), .int .i64 n, .string c] w (MPost B w g ms true { S with I := S.I.set k (snt c x), last := c }) := by
  generalize hP : MPost B w g ms true { S with I := S.I.set k (snt c x), last := c } = PP
  have HPP := Lib.hid (show ∀ mv' w', Gp B w' g ms mv' iv { S with I := S.I.set k (snt c x), last := c } → Gf B w w' → PP (.returned (.bool true)) w' from fun mv' w' h1 h2 => by
    rw [← hP]
    exact ⟨mv', iv, rfl, h1, h2⟩)
  clear hP
  have hb0 := alloc_below w (.cells #[.int .i64 n] 3)
  have z0 := heap_alloc_new w (.cells #[.int .i64 n] 3)
  have HI := Lib.hid (index1_any (h.below hb0) w.heap.size n (cell_of z0 rfl))
  have HB0 := Lib.hid hb0
  have HH := Lib.hid h
  clear hb0 z0 h
  have hlt := (List.getElem?_eq_some_iff.1 hx).1
  rw [hn] at HI
  have k0 : ¬ (k : Int) < 0 := by omega
  have HX := Lib.hid hx
  clear hn hx
  have HC := Lib.hid hc
  clear hc
  go_enter Try.func62, Try.ntmps62
  go_wp2_with fail
  refine HI.out.mono ?_
  rintro e w2 ⟨rfl, hb2⟩
  have HB2 := Lib.hid (then_below HB0.out hb2)
  have HO2 := Lib.hid (of_any (HH.out.below HB2.out))
  have HG2 := Lib.hid (MemW.get_any w2 ms mv S.L S.gen (HH.out.below HB2.out).mem c)
  unfold MemW.val at HG2
  rw [HGO.out] at HG2
  clear hb2
  go_wp2_with fail
  refine HO2.out.mono ?_
  rintro e w3 ⟨rfl, rfl⟩
  go_wp2_with fail
  refine HG2.out.mono ?_
  rintro e w3 ⟨rfl, hb3⟩
  obtain ⟨w4, hw4⟩ : ∃ w4, w4 = w3.alloc (.cells #[.string m1, .int .i64 m2, .int .i64 m3, .bool true] 66) := ⟨_, rfl⟩
  have hb4 : Below w3.heap.size w3 w4 := by rw [hw4]; exact alloc_below _ _
  have hz4 : w4.heap[w3.heap.size]? = some (.cells #[.string m1, .int .i64 m2, .int .i64 m3, .bool true] 66 (0, 0)) := by rw [hw4]; exact heap_alloc_new _ _
  have HB4 := Lib.hid (then_below (then_below HB2.out hb3) hb4)
  have hG4 := HH.out.below HB4.out
  have e3 : w4.cell? ⟨w3.heap.size, 3, none⟩ = some (.bool true) := cell_of hz4 rfl
  have c4 := hG4.c4
  have c2 := hG4.c2
  have HG4 := Lib.hid hG4
  have HW4 := Lib.hid hw4
  clear hb3 hb4 hz4 hG4 hw4
  go_upto_region 3 with (fail)
  rw [← HW4.out]
  obtain ⟨gi, cp, hiv, hit⟩ := HG4.out.at_ HX.out
  have c9 := hit.c9
  rw [hiv] at c4
  clear hit
  rw [ha] at c9
  rw [hst] at c2
  obtain ⟨A5, cp5, hiv5, hS5⟩ := HG4.out.items
  have HMY := Lib.hid (LaneW.may_any w4 A5 cp5 S.I (k : Int) c hS5)
  rw [hmay, ← hiv5, hiv] at HMY
  clear hS5 hiv5 hmay
  clear A5 cp5
  go_wp2_with fail
  refine HMY.out.mono ?_
  rintro e w5 ⟨rfl, hb5⟩
  have HB5 := Lib.hid (then_below HB4.out hb5)
  have HGG := Lib.hid (HG4.out.below hb5)
  clear hb5 e3 c4 c2 c9
  have hc := HC.out
  have c4 := HGG.out.c4
  rw [hiv] at c4
  have HG5 := Lib.hid (HGG.out.below (⟨rfl, rfl, rfl, Nat.le_refl _, fun _ _ => rfl⟩ : Below w5.heap.size w5 w5.drew))
  have HF5 := Lib.hid (Gf.of_below (B := B) (HB5.out.trans ((⟨rfl, rfl, rfl, Nat.le_refl _, fun _ _ => rfl⟩ : Below w5.heap.size w5 w5.drew).mono HB5.out.size)))
  have HIV := Lib.hid hiv
  have HS0 := Lib.hid (HG5.out.st)
  obtain ⟨gi3, cp3, hv3, hf3, hc3⟩ := own_elem vals_len HG5.out.own HX.out
  have hv6 := HIV.out.symm.trans hv3
  injection hv6 with hA h6 hC
  injection hA with hA
  injection hA with hA
  subst hA hC
  clear h6 hv3
  have x11 : w5.cell? ⟨gi, k * 12 + 11, none⟩ = some (.bool x.again) := hc3 11 _ rfl
  have y11 : w5.frozen? ⟨gi, k * 12 + 11, none⟩ = false := hf3 _
  have x9 : w5.cell? ⟨gi, k * 12 + 9, none⟩ = some (.string x.at_) := hc3 9 _ rfl
  have y9 : w5.frozen? ⟨gi, k * 12 + 9, none⟩ = false := hf3 _
  have ng1 : g ≠ gi := Ne.symm (HG5.out.gi gi (by rw [HIV.out]; rfl))
  have ng2 : gi ≠ g := Ne.symm ng1
  have x5 : w5.cell? ⟨g, 5, none⟩ = some (.string S.last) := HG5.out.c5
  have y5 : w5.frozen? ⟨g, 5, none⟩ = false := free_of HG5.out.st 5
  clear hf3 hc3
  obtain ⟨gi5, cp5, hv5, hcell5, hfr5, hG6, hF6⟩ := HG5.out.put (y := { x with at_ := c }) HX.out 9 (by decide) (.string c) rfl (fun w' hl => hl.congr rfl rfl rfl rfl rfl ⟨hl.led.1.1, hc⟩)
  have hv6 := HIV.out.symm.trans hv5
  injection hv6 with hA h6 hC
  injection hA with hA
  injection hA with hA
  subst hA hC
  clear h6 hv5
  have hx6 : (S.I.set k { x with at_ := c })[k]? = some { x with at_ := c } := List.getElem?_set_self (List.getElem?_eq_some_iff.1 HX.out).1
  obtain ⟨gi6, cp6, hv6, hcell6, hfr6, hG7, hF7⟩ := hG6.put (y := snt c x) hx6 11 (by decide) (.bool true) rfl (fun w' hl => hl.congr rfl rfl rfl rfl rfl hl.led.1)
  rw [List.length_set] at hv6
  have hv7 := HIV.out.symm.trans hv6
  injection hv7 with hA h6 hC
  injection hA with hA
  injection hA with hA
  subst hA hC
  clear h6 hv6
  simp only [List.set_set] at hG7
  have hst8 := set_of hG7.st 5 (.string c)
  have hT9 : Tch [g] ((w5.drew.setCell ⟨gi, k * 12 + 9, none⟩ (.string c)).setCell ⟨gi, k * 12 + 11, none⟩ (.bool true)) (((w5.drew.setCell ⟨gi, k * 12 + 9, none⟩ (.string c)).setCell ⟨gi, k * 12 + 11, none⟩ (.bool true)).setCell ⟨g, 5, none⟩ (.string c)) := (Tch.refl _ _).setCell (.inl (by simp)) _
  have HT := Lib.hid (hG7.turn (iv' := iv) (S' := { S with I := S.I.set k (snt c x), last := c }) rfl rfl (hT9.mono (by simp)) hst8 (own_kept hG7.own hT9 (by intro j hj hm; exact hG7.gi j hj (by simpa using hm))) (fun j hj => .inl hj) (fun hg z hz => (hG7.each z hz).gf hg))
  clear hT9
  have HF := Lib.hid ((HF5.out.trans hF6).trans hF7)
  have HS1 := Lib.hid hG6.st
  have HS2 := Lib.hid hG7.st
  clear hcell5 hcell6 hfr5 hfr6 hG6 hF6 hG7 hF7 hx6 hst8
  rw [HIV.out] at HS1 HS2 HS0
  have d4 := fun q : Wd (Hold1 g (.cells #[.pointer (some ⟨ms, 0, none⟩), .string S.key, .int .i64 S.st, .int .i64 S.most, .slice (some ⟨gi, 0, none⟩) S.I.length cp, .string S.last] 93 (0, 0))) => Hold1.cell q (o := 4) (v := .slice (some ⟨gi, 0, none⟩) S.I.length cp) rfl
  have hNS : Nonempty (Wd (Hold1 g (.cells #[.pointer (some ⟨ms, 0, none⟩), .string S.key, .int .i64 S.st, .int .i64 S.most, .slice (some ⟨gi, 0, none⟩) S.I.length cp, .string S.last] 93 (0, 0)))) := ⟨⟨_, HS0.out⟩⟩
  generalize hSS : Hold1 g (.cells #[.pointer (some ⟨ms, 0, none⟩), .string S.key, .int .i64 S.st, .int .i64 S.most, .slice (some ⟨gi, 0, none⟩) S.I.length cp, .string S.last] 93 (0, 0)) = SS at d4 hNS
  have HSA := Lib.hid (show SS w5.drew by rw [← hSS]; exact HS0.out)
  have HSB := Lib.hid (show SS (w5.drew.setCell ⟨gi, k * 12 + 9, none⟩ (.string c)) by rw [← hSS]; exact HS1.out)
  have HSC := Lib.hid (show SS ((w5.drew.setCell ⟨gi, k * 12 + 9, none⟩ (.string c)).setCell ⟨gi, k * 12 + 11, none⟩ (.bool true)) by rw [← hSS]; exact HS2.out)
  have HPQ := Lib.hid (show PP (.returned (.bool true)) (((w5.drew.setCell ⟨gi, k * 12 + 9, none⟩ (.string c)).setCell ⟨gi, k * 12 + 11, none⟩ (.bool true)).setCell ⟨g, 5, none⟩ (.string c)) from HPP.out _ _ HT.out.1 (HF.out.trans HT.out.2))
  have hS0 := HSA.out
  clear HS0 HS1 HS2 HSA HT HF hSS
  go_upto_region 7 with (fail)
  refine wp_region_G (n := 22) SS rfl (by kernel_rfl) hS0 (fun hS => ?_)
  refine wpAnyG_seg (fuel := 7) [0, 4, 5, 9, 10, 11, 12, 1, 6, 2, 7, 3, 8, 13, 14] rfl rfl (by kernel_rfl) (fun _ _ d _ _ h => by cases d <;> exact h) hS ?_
  repeat (go_big_quiet_step (fail))
  refine wpQuiet_nil ?_
  refine wpAnyG_alone (fuel := 6) 15 (by kernel_rfl) rfl hS (fun K hK => ?_)
  go_simp
  refine hK.out SS _ _ (fun _ h => h) HSB.out (fun hS => ?_)
  clear hK K
  refine wpAnyG_seg (fuel := 4) [16, 17] rfl rfl (by kernel_rfl) (fun _ _ d _ _ h => by cases d <;> exact h) hS ?_
  repeat (go_big_quiet_step (fail))
  refine wpQuiet_nil ?_
  refine wpAnyG_alone (fuel := 3) 18 (by kernel_rfl) rfl hS (fun K hK => ?_)
  go_simp
  refine hK.out SS _ _ (fun _ h => h) HSC.out (fun hS => ?_)
  clear hK K
  refine wpAnyG_seg (fuel := 1) [19, 20] rfl rfl (by kernel_rfl) (fun _ _ d _ _ h => by cases d <;> exact h) hS ?_
  repeat (go_big_quiet_step (fail))
  refine wpQuiet_nil ?_
  refine wpAnyG_sealed (fuel := 0) 21 (by kernel_rfl) (by kernel_rfl) rfl (fun K hK => ?_)
  go_simp
  refine hK.out (fun _ => True) _ _ trivial (fun hS => ?_)
  clear hK K hS
  refine wpAnyG_end (by kernel_rfl) ?_
  go_wp2_with fail
  exact HPQ.out
/-- Sent. -/
theorem sent_any (h : Gp B w g ms mv iv S) (n : Int) (c : ByteArray) (hc : c.size ≤ maxLen) :
    Calls Try.prog 62 #[.pointer (some ⟨g, 0, none⟩), .int .i64 n, .string c] w (MPost B w g ms (sentAt S n c).isSome (sentP S n c)) := by
  have hbt := gidx_bd S.I (isSeq n)
  have no : sentAt S n c = none → MPost B w g ms (sentAt S n c).isSome (sentP S n c) = MPost B w g ms false S := by
    intro e
    unfold sentP
    rw [e]
    rfl
  have tono : sentAt S n c = none → (Calls Try.prog 62 #[.pointer (some ⟨g, 0, none⟩), .int .i64 n, .string c] w fun e w' => e = .returned (.bool false) ∧ Below w.heap.size w w') → Calls Try.prog 62 #[.pointer (some ⟨g, 0, none⟩), .int .i64 n, .string c] w (MPost B w g ms (sentAt S n c).isSome (sentP S n c)) := by
    intro e hcl
    rw [no e]
    refine hcl.mono ?_
    rintro e w' ⟨rfl, hb⟩
    exact ⟨mv, iv, rfl, h.below hb, Gf.of_below hb⟩
  have hget : ∀ y, MemP.get S.L c = y → (y.map MemP.Mem.online = some true ↔ (y.isSome && (y.getD MemW.zero).online) = true) := by
    intro y _
    cases y <;> simp
  have hG := hget _ rfl
  rcases hbt with hn | ⟨k, x, hk, hx, -⟩
  · refine tono ?_ (sent_nowhere h n c _ _ _ _ _ (Lib.hid rfl) hn)
    unfold sentAt
    rw [hn]
    cases hx : S.I[(-1 : Int).toNat]? with
    | none => rfl
    | some x => simp
  · 
    have hAt : sentAt S n c = if (0 : Int) ≤ k ∧ x.at_ = ByteArray.empty ∧ ((MemP.get S.L c).map MemP.Mem.online) = some true ∧ (S.st = 3 → LaneP.may (LaneW.pr S.I) k c = true) then some k else none := by
      unfold sentAt
      rw [hk]
      simp only [Int.toNat_natCast, hx]
    by_cases ha : x.at_ = ByteArray.empty
    · by_cases hm : (MemP.get S.L c).map MemP.Mem.online = some true
      · by_cases hy : S.st = 3 → LaneP.may (LaneW.pr S.I) k c = true
        · have hAt2 : sentAt S n c = some k := by rw [hAt, if_pos ⟨by omega, ha, hm, hy⟩]
          have hP : sentP S n c = { S with I := S.I.set k (snt c x), last := c } := by
            unfold sentP
            rw [hAt2]
            simp only [hx]
          rw [hAt2, hP]
          have hm2 := hG.1 hm
          have hb : (MemP.get S.L c).isSome = true ∧ ((MemP.get S.L c).getD MemW.zero).online = true := by simpa using hm2
          have HGO : Hid ((Value.tuple #[.agg #[.string ((MemP.get S.L c).getD MemW.zero).client, .int .i64 ((MemP.get S.L c).getD MemW.zero).since, .int .i64 ((MemP.get S.L c).getD MemW.zero).qos, .bool ((MemP.get S.L c).getD MemW.zero).online], .bool (MemP.get S.L c).isSome]) = .tuple #[.agg #[.string ((MemP.get S.L c).getD MemW.zero).client, .int .i64 ((MemP.get S.L c).getD MemW.zero).since, .int .i64 ((MemP.get S.L c).getD MemW.zero).qos, .bool true], .bool true]) := Lib.hid (by rw [hb.1, hb.2])
          by_cases h3 : S.st = 3
          · exact sent_hash h n c _ _ _ HGO k x hk hx ha h3 (hy h3) hc
          · exact sent_other h n c _ _ _ HGO k x hk hx ha h3 hc
        · have h3 : S.st = 3 := by
            by_cases h3 : S.st = 3
            · exact h3
            · exact absurd (fun e => absurd e h3) hy
          have hmay : LaneP.may (LaneW.pr S.I) k c = false := by
            cases hq : LaneP.may (LaneW.pr S.I) k c with
            | false => rfl
            | true => exact absurd (fun _ => hq) hy
          have hm2 := hG.1 hm
          have hb : (MemP.get S.L c).isSome = true ∧ ((MemP.get S.L c).getD MemW.zero).online = true := by simpa using hm2
          refine tono ?_ (sent_lane h n c ((MemP.get S.L c).getD MemW.zero).client ((MemP.get S.L c).getD MemW.zero).since ((MemP.get S.L c).getD MemW.zero).qos (Lib.hid (by rw [hb.1, hb.2])) k x hk hx ha h3 hmay)
          rw [hAt, if_neg (fun hh => hy hh.2.2.2)]
      · refine tono ?_ (sent_none h n c _ _ _ _ _ (Lib.hid rfl) k x hk hx ha ?_)
        · rw [hAt, if_neg (fun hh => hm hh.2.2.1)]
        · cases hq : ((MemP.get S.L c).isSome && ((MemP.get S.L c).getD MemW.zero).online) with
          | false => rfl
          | true => exact absurd (hG.2 hq) hm
    · refine tono ?_ (sent_busy h n c _ _ _ _ _ (Lib.hid rfl) k x hk hx ha)
      rw [hAt, if_neg (fun hh => ha hh.2.1)]
end
end Go.Proofs.Ytclhgnlhejohgaa.GrpW
set_option linter.unusedVariables false
set_option linter.unusedSimpArgs false
namespace Go.Proofs.Ytclhgnlhejohgaa.GrpW
open Go.RowKit Go.Proofs.Ytclhgnlhejohgaa.Tc Go.Proofs.Ytclhgnlhejohgaa.GrpP

/-- append of a text to a slice that is full. -/
theorem grow_text {w : World} {A : Option Addr} {l : List ByteArray} (hS : Rd w A (l.flatMap sval)) (hl : l.length < 1000000) (c : ByteArray) :
    ∃ cp w', (Builtin.append_ #[26, 26] 26 #[.slice A l.length l.length, .slice (some ⟨w.heap.size, 0, none⟩) 1 1]).run Try.prog (w.alloc (.cells #[.string c] 9)) = .ok (.slice (some ⟨w.heap.size + 1, 0, none⟩) (l.length + 1) cp) w' ∧ w'.ownsRow 0 9 1 (.slice (some ⟨w.heap.size + 1, 0, none⟩) (l.length + 1) cp) (l ++ [c]).length ((l ++ [c]).flatMap sval) ∧ Below w.heap.size w w' ∧ l.length + 1 ≤ cp := by
  obtain ⟨i0, hi, hz0, hz1, hz2⟩ := info_parts info9
  have hb := alloc_below w (.cells #[.string c] 9)
  have hs1 : (w.alloc (.cells #[.string c] 9)).heap.size = w.heap.size + 1 := by simp
  have hnew := cell_one_new w (.string c) 9
  have hS2 := hS.below hb
  generalize hw2 : w.alloc (.cells #[.string c] 9) = w2 at *
  have hsrc : Src Try.prog i0.size 26 (.slice (some ⟨w.heap.size, 0, none⟩) 1 1) 1 [.string c] w2 := Src.ofSlice w2 Try.underlying26 ⟨w.heap.size, 0, none⟩ 1 1 [.string c] (by rw [hz1]; rfl) hnew (by intro u hu; rw [List.mem_singleton.1 hu]; rfl)
  have hlen : (l.flatMap sval).length = l.length * i0.size := by rw [fl_len sval_len, hz1]
  have hold : (Builtin.firstCells i0.size l.length (.slice A l.length l.length)).run Try.prog w2.drew = .ok (l.flatMap sval).toArray w2.drew := by
    cases A with
    | none =>
      have h0 := hS.none
      have h2 := fl_len sval_len l
      rw [h0] at h2
      have h3 : l.length = 0 := by simpa using h2.symm
      rw [h0, h3]
      exact run_firstCells_none w2.drew i0.size 0 0 0

    | some a =>
      refine run_firstCells_some w2.drew i0.size l.length a l.length l.length (l.flatMap sval) hlen ?_
      intro j u hu
      obtain ⟨b, off, hA, hc⟩ := hS2 (by have := (List.getElem?_eq_some_iff.1 hu).1; omega)
      rw [Option.some.inj hA, add_plain]
      simpa using hc j u hu
  have hr := run_append_grow_src (P := Try.prog) w2 26 26 26 9 i0 _ Try.underlying26 hi hz0 A l.length l.length (l.flatMap sval) hold _ 1 [.string c] hsrc (by omega) (by omega) (growslice_fits (by omega) (by rw [hz2]; omega))
  rw [hs1] at hr
  have hge := grownCap_ge w2 (l.length + 1) l.length 9
  have hcm : grownCap w2 (l.length + 1) l.length 9 ≤ maxLen := grownCap_le_maxLen w2 (l.length + 1) l.length 9 (by unfold maxLen; omega)
  have hfl : (l ++ [c]).flatMap sval = l.flatMap sval ++ [.string c] := by rw [List.flatMap_append]; rfl
  refine ⟨_, _, hr, ⟨fl_len sval_len _, .inr ⟨w.heap.size + 1, grownCap w2 (l.length + 1) l.length 9, (l.flatMap sval ++ [Value.string c]).toArray ++ Builtin.zeroCells (Value.string ByteArray.empty).cells (grownCap w2 (l.length + 1) l.length 9 - (l.length + 1)), by rw [List.length_append]; rfl, Nat.zero_le _, ?_, by rw [List.length_append]; exact hge, hcm, ?_, ?_⟩⟩, hb.trans ?_, hge⟩
  · rw [← hs1]; exact heap_alloc_new w2.drew _
  · have h5 := fl_len sval_len l
    have h6 := size_zeroCells
    simp only [Array.size_append, List.size_toArray, List.length_append, size_zeroCells, h5, List.length_singleton]
    show l.length * 1 + 1 + _ * 1 = _
    omega
  · rw [hfl]
    simp only [Array.toList_append, List.append_assoc]
    rw [← List.append_assoc]
    have h7 : (l ++ [c]).length * 1 = (l.flatMap sval ++ [Value.string c]).length := by simp [fl_len sval_len]
    rw [h7]
    exact List.take_left
  · refine ⟨rfl, rfl, rfl, by simp, fun k hk => heap_alloc_old w2.drew _ (show k < w2.heap.size by omega)⟩
section
variable {B : Nat} {w : World} {g ms : Nat} {mv iv : Value} {S : GS}
/-- A cell of an item is stored: what the new item leads to can be read. -/
theorem Gp.put2 (h : Gp B w g ms mv iv S) {k : Nat} {x y : Tc.It} (hk : S.I[k]? = some x) (j : Nat) (hj : j < 12) (u : Value) (hy : y.vals = x.vals.set j u) (hl : Lod B w y) {gi c : Nat} (hv : iv = .slice (some ⟨gi, 0, none⟩) S.I.length c) :
    Gp B (w.setCell ⟨gi, k * 12 + j, none⟩ u) g ms mv iv { S with I := S.I.set k y } ∧ Gf B w (w.setCell ⟨gi, k * 12 + j, none⟩ u) := by
  have hown := h.own
  rw [hv] at hown
  obtain ⟨h1, h2⟩ := own_set' vals_len rfl hown hk j hj u hy
  have hne : gi ≠ g := h.gi gi (by rw [hv]; rfl)
  have hT : Tch (g :: iv.ownBlock.toList) w (w.setCell ⟨gi, k * 12 + j, none⟩ u) := h2.mono (by rw [hv]; intro i hi; simp [Value.ownBlock] at hi ⊢; exact .inr hi)
  refine h.turn (S' := { S with I := S.I.set k y }) rfl rfl hT ?_ (by simpa [hv] using h1) (fun k hk => .inl hk) (fun hg z hz => ?_)
  · exact (set_other (p := ⟨gi, k * 12 + j, none⟩) (Ne.symm hne) u).trans h.st
  · rcases List.mem_or_eq_of_mem_set hz with hz | rfl
    · exact (h.each z hz).gf hg
    · exact hl.gf hg
theorem Gp.cells (h : Gp B w g ms mv iv S) {k : Nat} {x : Tc.It} (hk : S.I[k]? = some x) {gi c : Nat} (hv : iv = .slice (some ⟨gi, 0, none⟩) S.I.length c) (j : Nat) {v : Value} (hj : x.vals[j]? = some v) : w.cell? ⟨gi, k * 12 + j, none⟩ = some v ∧ w.frozen? ⟨gi, k * 12 + j, none⟩ = false := by
  obtain ⟨gi', c', hv', hf, hc⟩ := own_elem vals_len h.own hk
  rw [hv] at hv'
  injection hv' with hA
  injection hA with hA
  injection hA with hA
  subst hA
  exact ⟨hc j v hj, hf _⟩
theorem text_small {w : World} {A : Option Addr} {l : List ByteArray} (h : SliceIs aS w A l) : ∀ x ∈ l, x.size ≤ maxLen := by
  intro x hx
  obtain ⟨k, hk, rfl⟩ := List.getElem_of_mem hx
  obtain ⟨b, off, hA, -, hc⟩ := h.at_ (by omega)
  obtain ⟨cs, ⟨rfl, hs⟩, -⟩ := hc k _ (List.getElem?_eq_getElem hk)
  exact hs
/-- What an item is that came back. -/
structure IsBack (c : ByteArray) (x y : Tc.It) : Prop where
  msg : y.msg = x.msg
  at_ : y.at_ = ByteArray.empty
  behind : y.behind = if PickP.has x.behind c = true then x.behind else x.behind ++ [c]
  again : y.again = x.again
set_option maxRecDepth 100000 in
set_option maxHeartbeats 4000000 in
theorem back_no (h : Gp B w g ms mv iv S) (n : Int) (c : ByteArray) (hi : gidx S.I (isWith n c) = -1) :
    Calls Try.prog 88 #[.pointer (some ⟨g, 0, none⟩), .int .i64 n, .string c] w (MPost B w g ms false S) := by
  have HW := Lib.hid (with_any h n c)
  have HH := Lib.hid h
  rw [hi] at HW
  generalize hP : MPost B w g ms false S = PP
  have HPP := Lib.hid (show ∀ w', Gp B w' g ms mv iv S → Gf B w w' → PP (.returned (.bool false)) w' from fun w' h1 h2 => by
    rw [← hP]
    exact ⟨mv, iv, rfl, h1, h2⟩)
  clear h hP hi
  go_enter Try.func88, Try.ntmps88
  go_wp2_with fail
  refine HW.out.mono ?_
  rintro e w2 ⟨rfl, hb⟩
  have HE := Lib.hid (HPP.out w2 (HH.out.below hb) (Gf.of_below hb))
  clear hb
  go_wp2_with fail
  exact HE.out
set_option maxRecDepth 100000 in
set_option maxHeartbeats 4000000 in
theorem back_yes (h : Gp B w g ms mv iv S) (n : Int) (c : ByteArray) (hc : c.size ≤ maxLen) (k : Nat) (x : Tc.It) (hi : gidx S.I (isWith n c) = (k : Int)) (hx : S.I[k]? = some x) (hbl : x.behind.length < 1000000) :
    Calls Try.prog 88 #[.pointer (some ⟨g, 0, none⟩), .int .i64 n, .string c] w (fun e w' => ∃ y, IsBack c x y ∧ MPost B w g ms true { S with I := S.I.set k y } e w') := by
  have HW := Lib.hid (with_any h n c)
  have HH := Lib.hid h
  rw [hi] at HW
  generalize hP : (fun (e : Ending) (w' : World) => ∃ y, IsBack c x y ∧ MPost B w g ms true { S with I := S.I.set k y } e w') = PP
  have HPP := Lib.hid (show ∀ y w', IsBack c x y → Gp B w' g ms mv iv { S with I := S.I.set k y } → Gf B w w' → PP (.returned (.bool true)) w' from fun y w' h0 h1 h2 => by
    rw [← hP]
    exact ⟨y, h0, mv, iv, rfl, h1, h2⟩)
  have hlt := (List.getElem?_eq_some_iff.1 hx).1
  have k0 : ¬ (k : Int) < 0 := by omega
  obtain ⟨gi, cp, hv, -, -⟩ := own_elem vals_len h.own hx
  have HV := Lib.hid hv
  have HX := Lib.hid hx
  have HC := Lib.hid hc
  have HL := Lib.hid hbl
  clear h hP hi hv hx hc hbl
  go_enter Try.func88, Try.ntmps88
  go_wp2_with fail
  refine HW.out.mono ?_
  rintro e w2 ⟨rfl, hb⟩
  have hG2 := HH.out.below hb
  have c4 := hG2.c4
  rw [HV.out] at c4
  obtain ⟨c9, f9⟩ := hG2.cells HX.out HV.out 9 (v := .string x.at_) rfl
  have hP3 := hG2.put2 (y := { x with at_ := ByteArray.empty }) HX.out 9 (by decide) (.string ByteArray.empty) rfl ((hG2.each x (List.mem_of_getElem? HX.out)).congr rfl rfl rfl rfl rfl ⟨(hG2.each x (List.mem_of_getElem? HX.out)).led.1.1, show ByteArray.empty.size ≤ maxLen from Nat.zero_le _⟩) HV.out
  obtain ⟨w3, hw3⟩ : ∃ w3, w3 = w2.setCell ⟨gi, k * 12 + 9, none⟩ (.string ByteArray.empty) := ⟨_, rfl⟩
  rw [← hw3] at hP3
  have HG3 := Lib.hid hP3.1
  have HF3 := Lib.hid ((Gf.of_below (B := B) hb).trans hP3.2)
  have HW3 := Lib.hid (show w3 = w2.setCell ⟨gi, k * 12 + 9, none⟩ (.string { data := #[] }) from hw3)
  have hx3 : (S.I.set k { x with at_ := ByteArray.empty })[k]? = some { x with at_ := ByteArray.empty } := List.getElem?_set_self hlt
  have HX3 := Lib.hid hx3
  have HL3 := Lib.hid (HG3.out.each _ (List.mem_of_getElem? hx3))
  have HV3 := Lib.hid (show iv = .slice (some ⟨gi, 0, none⟩) (S.I.set k { x with at_ := ByteArray.empty }).length cp by rw [List.length_set]; exact HV.out)
  obtain ⟨c10, f10⟩ := HG3.out.cells HX3.out HV3.out 10 (v := .slice x.bA x.behind.length x.bc) rfl
  have HCO := Lib.hid (show Calls Try.prog 76 #[.slice x.bA x.behind.length x.bc, .string c] w3 fun e w' => e = .returned (.bool (PickP.has x.behind c)) ∧ w3 = w' from PickW.contains_any w3 x.bA x.bc x.behind HL3.out.led.2.2 c)
  have HCL := Lib.hid (clip_any w3 x.bA x.behind.length x.bc HL3.out.bcap)
  clear hb hG2 hP3 hw3 hx3
  go_upto_region 6 with (fail)
  rw [← HW3.out]
  clear c4 c9 f9
  cases hh : PickP.has x.behind c with
  | true =>
    rw [hh] at HCO
    have HQ := Lib.hid (HPP.out { x with at_ := ByteArray.empty } w3 ⟨rfl, rfl, by rw [hh]; rfl, rfl⟩ HG3.out HF3.out)
    clear hh f10
    go_wp2_with fail
    refine HCO.out.mono ?_
    rintro e w4 ⟨rfl, rfl⟩
    go_wp2_with fail
    exact HQ.out
  | false =>
    rw [hh] at HCO
    obtain ⟨cp4, w4, hrun, hown4, hb4, hcp4⟩ := grow_text (rd_texts HL3.out.led.2.2) HL.out c
    have hG4 := HG3.out.below hb4
    have hz4 : ∃ cur f, w4.heap[w3.heap.size + 1]? = some (.cells cur 9 f) := by
      obtain ⟨cur, hcur⟩ := own_type hown4 (show (Value.slice (some ⟨w3.heap.size + 1, 0, none⟩) (x.behind.length + 1) cp4).ownBlock = some (w3.heap.size + 1) from rfl)
      exact ⟨cur, _, hcur⟩
    have hL4 := HL3.out.below hb4
    have hsm : ∀ z ∈ x.behind ++ [c], z.size ≤ maxLen := by
      intro z hz
      rcases List.mem_append.1 hz with hz | hz
      · exact text_small HL3.out.led.2.2 z hz
      · rw [List.mem_singleton.1 hz]; exact HC.out
    have hlod : Lod B w4 { x with at_ := ByteArray.empty, bA := some ⟨w3.heap.size + 1, 0, none⟩, bc := cp4, behind := x.behind ++ [c] } := by
      refine ⟨⟨hL4.led.1, hL4.led.2.1, ?_⟩, hL4.fixp, ?_, by rw [List.length_append]; exact hcp4⟩
      · have ho := hown4
        rw [show x.behind.length + 1 = (x.behind ++ [c]).length by rw [List.length_append]; rfl] at ho
        obtain ⟨A', c', hv', hs'⟩ := own_texts ho hsm
        injection hv' with hA
        rw [hA]
        exact hs'
      · intro ad hA _
        obtain ⟨cur, f, hcur⟩ := hz4
        injection hA with hA
        subst hA
        refine .inr ?_
        rintro ⟨cur', f', t, hc', ht⟩
        rw [hcur] at hc'
        injection hc' with hc'
        injection hc' with _ hc'
        subst hc'
        simp at ht
    obtain ⟨d10, g10⟩ := hG4.cells HX3.out HV3.out 10 (v := .slice x.bA x.behind.length x.bc) rfl
    have hP5 := hG4.put2 (y := { x with at_ := ByteArray.empty, bA := some ⟨w3.heap.size + 1, 0, none⟩, bc := cp4, behind := x.behind ++ [c] }) HX3.out 10 (by decide) (.slice (some ⟨w3.heap.size + 1, 0, none⟩) (x.behind.length + 1) cp4) (by simp [It.vals, List.length_append]) hlod HV3.out
    rw [List.set_set] at hP5
    have HQ := Lib.hid (HPP.out { x with at_ := ByteArray.empty, bA := some ⟨w3.heap.size + 1, 0, none⟩, bc := cp4, behind := x.behind ++ [c] } _ ⟨rfl, rfl, by rw [hh, if_neg (by decide)], rfl⟩ hP5.1 ((HF3.out.trans (Gf.of_below hb4)).trans hP5.2))
    have HRUN := Lib.hid hrun
    clear hh hrun hown4 hb4 hcp4 hG4 hz4 hL4 hsm hlod hP5
    go_wp2_with fail
    refine HCO.out.mono ?_
    rintro e w5 ⟨rfl, rfl⟩
    go_wp2_with fail
    refine HCL.out.mono ?_
    rintro e w5 ⟨rfl, rfl⟩
    go_wp2_with (at_builtin; refine wpList_append_eq rfl _ _ _ rfl rfl rfl HRUN.out ?_)
    exact HQ.out
end
end Go.Proofs.Ytclhgnlhejohgaa.GrpW
set_option linter.unusedVariables false
set_option linter.unusedSimpArgs false
namespace Go.Proofs.Ytclhgnlhejohgaa.GrpW
open Go.RowKit Go.Proofs.Ytclhgnlhejohgaa.Tc Go.Proofs.Ytclhgnlhejohgaa.GrpP

theorem fl_at {α : Type} {vals : α → List Value} {size : Nat} (hv : ∀ x, (vals x).length = size) {l : List α} {i : Nat} {x : α} (hi : l[i]? = some x) {j : Nat} {u : Value} (hu : (vals x)[j]? = some u) : (l.flatMap vals)[i * size + j]? = some u := by
  induction l generalizing i with
  | nil => simp at hi
  | cons y l ih =>
    rw [List.flatMap_cons]
    cases i with
    | zero =>
      have hy : y = x := by simpa using hi
      subst hy
      have := (List.getElem?_eq_some_iff.1 hu).1
      rw [Nat.zero_mul, Nat.zero_add, List.getElem?_append_left this]
      exact hu
    | succ i =>
      have h2 : (i + 1) * size + j = (vals y).length + (i * size + j) := by rw [hv, Nat.add_mul, Nat.one_mul]; omega
      rw [h2, List.getElem?_append_right (by omega), Nat.add_sub_cancel_left]
      exact ih (by simpa using hi)
theorem own_props {w : World} {v : Value} {M : List Prp} (h : w.ownsRow 0 113 4 v M.length (M.flatMap Prp.cells)) (hM : ∀ x ∈ M, x.wf) : ∃ A c, v = .slice A M.length c ∧ SliceIs kProp w A M ∧ (∀ ad, A = some ad → ∃ cur f, w.heap[ad.block]? = some (.cells cur 113 f)) := by
  obtain ⟨A, c, rfl⟩ := own_form h
  refine ⟨A, c, rfl, ⟨own_le h, fun hn => ?_⟩, fun ad hA => ?_⟩
  · obtain ⟨g, c', hv, -, hc⟩ := own_cells h hn
    injection hv with hA
    subst hA
    refine ⟨g, 0, rfl, own_lt h (g := g) rfl, fun i x hi => ⟨Prp.cells x, (kProp_rel _ _ _).2 ⟨rfl, hM x (List.mem_of_getElem? hi)⟩, fun j u hu => ?_⟩⟩
    have hj : j < 4 := (List.getElem?_eq_some_iff.1 hu).1
    rw [cellsProp, Nat.zero_add]
    refine hc _ u ?_
    exact fl_at prp_len hi hu
  · subst hA
    obtain ⟨cur, hcur⟩ := own_type h (g := ad.block) rfl
    exact ⟨cur, _, hcur⟩
theorem prop_small {w : World} {A : Option Addr} {l : List Prp} (h : SliceIs kProp w A l) : ∀ x ∈ l, x.wf := by
  intro x hx
  obtain ⟨k, hk, rfl⟩ := List.getElem_of_mem hx
  obtain ⟨b, off, hA, -, -, -, -, -, hw⟩ := prop_cells h hk
  exact hw
def Hold2 (s b : Nat) (x y : Obj) : World → Prop := fun u => u.heap[s]? = some x ∧ u.heap[b]? = some y
section
variable {B : Nat} {w : World} {g ms : Nat} {mv iv : Value} {S : GS}
/-- An item that holds a message: fresh. -/
structure IsFresh (m : Tc.Mg) (x : Tc.It) : Prop where
  msg : ∃ A c, x.msg = { m with pA := A, pc := c }
  at_ : x.at_ = ByteArray.empty
  behind : x.behind = []
  again : x.again = false
set_option maxRecDepth 100000 in
set_option maxHeartbeats 4000000 in
theorem add_no (h : Gp B w g ms mv iv S) (hl : S.I.length < 1000000) (h0 : -9223372036854775808 ≤ S.most) (h1 : S.most ≤ 9223372036854775807) (hn : (S.I.length : Int) ≤ max S.most 0) (m : Tc.Mg) (hr : roomP S = 0) :
    Calls Try.prog 65 #[.pointer (some ⟨g, 0, none⟩), m.val] w (MPost B w g ms false S) := by
  generalize hP : MPost B w g ms false S = PP
  have HPP := Lib.hid (show ∀ w', Gp B w' g ms mv iv S → Gf B w w' → PP (.returned (.bool false)) w' from fun w' h1 h2 => by
    rw [← hP]
    exact ⟨mv, iv, rfl, h1, h2⟩)
  have hb0 := alloc_below w (.cells #[.string m.topic, .string m.payload, .int .i64 m.qos, .bool m.retain, .slice m.pA m.props.length m.pc, .string m.from_, .int .i64 m.until_, .int .i64 m.seq, .string m.group] 43)
  obtain ⟨W, hW⟩ : ∃ W, W = w.alloc (.cells #[.string m.topic, .string m.payload, .int .i64 m.qos, .bool m.retain, .slice m.pA m.props.length m.pc, .string m.from_, .int .i64 m.until_, .int .i64 m.seq, .string m.group] 43) := ⟨_, rfl⟩
  have HW := Lib.hid hW
  rw [← hW] at hb0
  have HR := Lib.hid (room_any (h.below hb0) hl h0 h1 hn)
  rw [hr] at HR
  have HH := Lib.hid h
  have HB := Lib.hid hb0
  clear h hl h0 h1 hn hr hP hb0 hW
  unfold Mg.val
  go_enter Try.func65, Try.ntmps65
  go_upto_region 1 with (fail)
  rw [← HW.out]
  clear HW
  go_wp2_with fail
  refine HR.out.mono ?_
  rintro e w2 ⟨rfl, hd⟩
  have HE := Lib.hid (HPP.out w2 ((HH.out.below HB.out).below (Dr.below hd)) (Gf.of_below (then_below HB.out (Dr.below hd))))
  clear hd
  go_wp2_with fail
  exact HE.out
set_option maxRecDepth 100000 in
set_option maxHeartbeats 8000000 in
theorem add_yes (h : Gp B w g ms mv iv S) (hl : S.I.length < 1000000) (h0 : -9223372036854775808 ≤ S.most) (h1 : S.most ≤ 9223372036854775807) (hn : (S.I.length : Int) ≤ max S.most 0) (m : Tc.Mg) (hr : ¬ roomP S = 0)
    (hm : m.wf) (hpr : SliceIs kProp w m.pA m.props) (hpl : m.props.length < 1000000) :
    Calls Try.prog 65 #[.pointer (some ⟨g, 0, none⟩), m.val] w (fun e w' => ∃ x, IsFresh m x ∧ MPost B w g ms true { S with I := S.I ++ [x] } e w') := by
  generalize hP : (fun (e : Ending) (w' : World) => ∃ x, IsFresh m x ∧ MPost B w g ms true { S with I := S.I ++ [x] } e w') = PP
  have HPP := Lib.hid (show ∀ x iv' w', IsFresh m x → Gp B w' g ms mv iv' { S with I := S.I ++ [x] } → Gf B w w' → PP (.returned (.bool true)) w' from fun x iv' w' h0 h1 h2 => by
    rw [← hP]
    exact ⟨x, h0, mv, iv', rfl, h1, h2⟩)
  have hb0 := alloc_below w (.cells #[.string m.topic, .string m.payload, .int .i64 m.qos, .bool m.retain, .slice m.pA m.props.length m.pc, .string m.from_, .int .i64 m.until_, .int .i64 m.seq, .string m.group] 43)
  have hz0 := heap_alloc_new w (.cells #[.string m.topic, .string m.payload, .int .i64 m.qos, .bool m.retain, .slice m.pA m.props.length m.pc, .string m.from_, .int .i64 m.until_, .int .i64 m.seq, .string m.group] 43)
  have hs0 : (w.alloc (.cells #[.string m.topic, .string m.payload, .int .i64 m.qos, .bool m.retain, .slice m.pA m.props.length m.pc, .string m.from_, .int .i64 m.until_, .int .i64 m.seq, .string m.group] 43)).heap.size = w.heap.size + 1 := by simp
  obtain ⟨W, hW⟩ : ∃ W, W = w.alloc (.cells #[.string m.topic, .string m.payload, .int .i64 m.qos, .bool m.retain, .slice m.pA m.props.length m.pc, .string m.from_, .int .i64 m.until_, .int .i64 m.seq, .string m.group] 43) := ⟨_, rfl⟩
  have HW := Lib.hid hW
  rw [← hW] at hb0 hz0 hs0
  have HR := Lib.hid (room_any (h.below hb0) hl h0 h1 hn)
  have HB0 := Lib.hid hb0
  have HZ0 := Lib.hid hz0
  have HS0 := Lib.hid hs0
  have HQ := Lib.hid (h.below hb0)
  have HQ0 := Lib.hid h
  have HM := Lib.hid (hpr.below hb0)
  have HMW := Lib.hid hm
  have HPL := Lib.hid hpl
  have HSM := Lib.hid (prop_small hpr)
  have HIL := Lib.hid hl
  obtain ⟨A, c, rfl, -⟩ := h.items
  generalize hrr : roomP S = r at *
  clear hb0 hz0 hs0 hm hpr hpl h hW hP h0 h1 hn hl hrr
  unfold Mg.val
  go_enter Try.func65, Try.ntmps65
  go_upto_region 1 with (fail)
  rw [← HW.out]
  clear HW
  go_wp2_with fail
  refine HR.out.mono ?_
  rintro e wq ⟨rfl, hd⟩
  have hbq := Dr.below hd
  have hz1 := (hbq.block _ (lt_of_block HZ0.out)).trans HZ0.out
  have HCL := Lib.hid (cloneP_any wq m.pA m.pc m.props (rd_props (HM.out.below hbq)) HPL.out)
  have HBQ := Lib.hid hbq
  clear hd hbq
  have a0 : wq.cell? ⟨w.heap.size, 0, none⟩ = some (.string m.topic) := cell_of hz1 rfl
  have a1 : wq.cell? ⟨w.heap.size, 1, none⟩ = some (.string m.payload) := cell_of hz1 rfl
  have a2 : wq.cell? ⟨w.heap.size, 2, none⟩ = some (.int .i64 m.qos) := cell_of hz1 rfl
  have a3 : wq.cell? ⟨w.heap.size, 3, none⟩ = some (.bool m.retain) := cell_of hz1 rfl
  have a4 : wq.cell? ⟨w.heap.size, 4, none⟩ = some (.slice m.pA m.props.length m.pc) := cell_of hz1 rfl
  have a5 : wq.cell? ⟨w.heap.size, 5, none⟩ = some (.string m.from_) := cell_of hz1 rfl
  have a6 : wq.cell? ⟨w.heap.size, 6, none⟩ = some (.int .i64 m.until_) := cell_of hz1 rfl
  have a7 : wq.cell? ⟨w.heap.size, 7, none⟩ = some (.int .i64 m.seq) := cell_of hz1 rfl
  have a8 : wq.cell? ⟨w.heap.size, 8, none⟩ = some (.string m.group) := cell_of hz1 rfl
  have HZ1 := Lib.hid hz1
  clear hz1
  go_wp2_with fail
  refine HCL.out.mono ?_
  rintro e w3 ⟨⟨v, rfl, hR, hN⟩, hb⟩
  obtain ⟨A1, cA, rfl, hRd, hty⟩ := own_props hR HSM.out
  have hz0 := (hb.block _ (lt_of_block HZ1.out)).trans HZ1.out
  have hb3 := HB0.out.trans ((HBQ.out.trans (hb.mono HBQ.out.size)).mono HB0.out.size)
  have HN3 := Lib.hid (show ∀ ad, A1 = some ad → w.heap.size + 1 ≤ ad.block by
    intro ad had
    subst had
    have h1 := hN ad.block rfl
    have h2 := HBQ.out.size
    rw [HS0.out] at h2
    omega)
  have x4 : w3.cell? ⟨w.heap.size, 4, none⟩ = some (.slice m.pA m.props.length m.pc) := cell_of hz0 rfl
  have xf := free_of hz0 4
  have hz5 : (w3.setCell ⟨w.heap.size, 4, none⟩ (.slice A1 m.props.length cA)).heap[w.heap.size]? = some (.cells #[.string m.topic, .string m.payload, .int .i64 m.qos, .bool m.retain, .slice A1 m.props.length cA, .string m.from_, .int .i64 m.until_, .int .i64 m.seq, .string m.group] 43 (0, 0)) := set_of hz0 4 _
  obtain ⟨wA, hwA⟩ : ∃ wA, wA = w3.setCell ⟨w.heap.size, 4, none⟩ (.slice A1 m.props.length cA) := ⟨_, rfl⟩
  have hbA : Below w.heap.size w wA := by
    rw [hwA]
    exact (((Tch.of_below (S := []) hb3).setCell (p := ⟨w.heap.size, 4, none⟩) (.inr (Nat.le_refl _)) _).below (Nat.le_refl _) (by simp))
  have hzt : wA.heap.size = w3.heap.size := by rw [hwA]; simp
  obtain ⟨x, hx⟩ : ∃ x : Tc.It, x = ⟨{ m with pA := A1, pc := cA }, ByteArray.empty, none, 0, [], false⟩ := ⟨_, rfl⟩
  have hok : Lod B wA x := by
    rw [hx]
    refine ⟨⟨⟨HMW.out, Nat.zero_le _⟩, slp_kept hRd (fun ad hA hn hlt => ?_) (by omega), SliceIs.nil _ _ _⟩, fun ad hA hn => ?_, fun ad hA hn => absurd (show 0 < 0 from hn) (Nat.lt_irrefl 0), Nat.le_refl _⟩
    · have h1 := HN3.out ad hA
      rw [hwA]
      exact set_other (p := ⟨w.heap.size, 4, none⟩) (by simp; omega) _
    · have h1 := HN3.out ad hA
      obtain ⟨cur, f, hcur⟩ := hty ad hA
      refine .inr ?_
      rintro ⟨cur', f', t, hc', ht⟩
      have h5 : wA.heap[ad.block]? = w3.heap[ad.block]? := by
        rw [hwA]
        exact set_other (p := ⟨w.heap.size, 4, none⟩) (by simp; omega) _
      rw [h5, hcur] at hc'
      injection hc' with hc'
      injection hc' with _ hc'
      subst hc'
      simp at ht
  rw [← hwA] at hz5
  have hqA := HQ0.out.below hbA
  have hdr : Below wA.heap.size wA wA.drew := below_drewN (Below.refl _ _) 1
  have hGd := hqA.below hdr
  obtain ⟨v', w4, hrun, hown, htch, hloc⟩ := (show LaneW.OwnIt wA.drew wA.drew (.slice A S.I.length c) S.I from ⟨hGd.own, fun z hz => (hGd.each z hz).led⟩).snoc HIL.out x (hok.below hdr).led
  rw [hx] at hrun
  have hal : Below wA.heap.size wA (wA.alloc (.cells #[.string m.topic, .string m.payload, .int .i64 m.qos, .bool m.retain, .slice A1 m.props.length cA, .string m.from_, .int .i64 m.until_, .int .i64 m.seq, .string m.group, .string ByteArray.empty, .slice none 0 0, .bool false] 45)).drew := below_drewN (alloc_below wA _) 1
  have ht4 : Tch (Value.slice A S.I.length c).ownBlock.toList wA w4 := (Tch.of_below hdr).trans htch
  have hgi := hqA.gi
  have hs4 := (ht4.block g (lt_of_block hqA.st) (by
    intro hs
    exact hgi g (by simpa using hs) rfl)).trans hqA.st
  have hset := set_of hs4 4 v'
  have hne : ∀ j, v'.ownBlock = some j → j ≠ g := by
    intro j hj e
    rcases hloc j hj with h | h
    · exact hgi j h e
    · have h2 : wA.drew.heap.size = wA.heap.size := rfl
      have := lt_of_block hqA.st
      omega
  have hTg : Tch [g] w4 (w4.setCell ⟨g, 4, none⟩ v') := (Tch.refl _ _).setCell (.inl (by simp)) _
  have hput := hqA.turn (w' := w4.setCell ⟨g, 4, none⟩ v') (iv' := v') (S' := { S with I := S.I ++ [x] }) rfl rfl
    ((ht4.mono (by intro i hi; exact List.mem_cons_of_mem _ hi)).trans (hTg.mono (by intro i hi; rw [List.mem_singleton.1 hi]; exact List.mem_cons_self)))
    (by simpa using hset) (by exact own_kept hown.1 hTg (by intro j hj hm; exact hne j hj (by simpa using hm)))
    (fun j hj => by
      rcases hloc j hj with h | h
      · exact .inl h
      · have h2 : wA.drew.heap.size = wA.heap.size := rfl
        right
        omega)
    (fun hg z hz => by
      rcases List.mem_append.1 hz with hz | hz
      · exact (hqA.each z hz).gf hg
      · rw [List.mem_singleton.1 hz]; exact hok.gf hg)
  have HE := Lib.hid (HPP.out x v' _ (by rw [hx]; exact ⟨⟨_, _, rfl⟩, rfl, rfl, rfl⟩) hput.1 ((Gf.of_below hbA).trans hput.2))
  have HS4 := Lib.hid hs4
  have HRUN := Lib.hid (show (Builtin.append_ #[37, 37] 37 #[.slice A S.I.length c, .slice (some ⟨wA.heap.size, 0, none⟩) 1 1]).run Try.prog (wA.alloc (.cells #[.string m.topic, .string m.payload, .int .i64 m.qos, .bool m.retain, .slice A1 m.props.length cA, .string m.from_, .int .i64 m.until_, .int .i64 m.seq, .string m.group, .string ByteArray.empty, .slice none 0 0, .bool false] 45)).drew = .ok v' w4 from hrun)
  have HWA := Lib.hid hwA.symm
  obtain ⟨SS, hSdef⟩ : ∃ SS, SS = Hold2 g w.heap.size (.cells #[.pointer (some ⟨ms, 0, none⟩), .string S.key, .int .i64 S.st, .int .i64 S.most, .slice A S.I.length c, .string S.last] 93 (0, 0)) (.cells #[.string m.topic, .string m.payload, .int .i64 m.qos, .bool m.retain, .slice A1 m.props.length cA, .string m.from_, .int .i64 m.until_, .int .i64 m.seq, .string m.group] 43 (0, 0)) := ⟨_, rfl⟩
  have hS1 : SS wA.drew := by rw [hSdef]; exact ⟨hqA.st, hz5⟩
  have HS2 := Lib.hid (show SS (wA.alloc (.cells #[.string m.topic, .string m.payload, .int .i64 m.qos, .bool m.retain, .slice A1 m.props.length cA, .string m.from_, .int .i64 m.until_, .int .i64 m.seq, .string m.group, .string ByteArray.empty, .slice none 0 0, .bool false] 45)).drew by rw [hSdef]; exact ⟨(hal.block _ (lt_of_block hqA.st)).trans hqA.st, (hal.block _ (lt_of_block hz5)).trans hz5⟩)
  have HS3 := Lib.hid (show SS w4 by
    rw [hSdef]
    refine ⟨hs4, (ht4.block _ (lt_of_block hz5) ?_).trans hz5⟩
    intro hs
    have hg : (Value.slice A S.I.length c).ownBlock = some w.heap.size := by simpa using hs
    have := own_lt HQ0.out.own hg
    omega)
  have r4 := fun n : Wd SS => (show n.w.cell? ⟨g, 4, none⟩ = some (.slice A S.I.length c) by
    obtain ⟨u, hu⟩ := n
    rw [hSdef] at hu
    exact cell_of hu.1 rfl)
  have hbx := fun n : Wd SS => (show n.w.heap[w.heap.size]? = some (.cells #[.string m.topic, .string m.payload, .int .i64 m.qos, .bool m.retain, .slice A1 m.props.length cA, .string m.from_, .int .i64 m.until_, .int .i64 m.seq, .string m.group] 43 (0, 0)) by
    obtain ⟨u, hu⟩ := n
    rw [hSdef] at hu
    exact hu.2)
  have b0 := fun n : Wd SS => cell_of (hbx n) (o := 0) (v := .string m.topic) rfl
  have b1 := fun n : Wd SS => cell_of (hbx n) (o := 1) (v := .string m.payload) rfl
  have b2 := fun n : Wd SS => cell_of (hbx n) (o := 2) (v := .int .i64 m.qos) rfl
  have b3 := fun n : Wd SS => cell_of (hbx n) (o := 3) (v := .bool m.retain) rfl
  have b4 := fun n : Wd SS => cell_of (hbx n) (o := 4) (v := .slice A1 m.props.length cA) rfl
  have b5 := fun n : Wd SS => cell_of (hbx n) (o := 5) (v := .string m.from_) rfl
  have b6 := fun n : Wd SS => cell_of (hbx n) (o := 6) (v := .int .i64 m.until_) rfl
  have b7 := fun n : Wd SS => cell_of (hbx n) (o := 7) (v := .int .i64 m.seq) rfl
  have b8 := fun n : Wd SS => cell_of (hbx n) (o := 8) (v := .string m.group) rfl
  clear hSdef hbx
  have e4 := cell_of hs4 (o := 4) (v := .slice A S.I.length c) rfl
  have ef := free_of hs4 4
  have HVF := Lib.hid (show ∃ A' n' c', v' = .slice A' n' c' by
    obtain ⟨A', c', hv⟩ := own_form hown.1
    exact ⟨A', _, c', hv⟩)
  clear hR hty hRd hN hb hz0 hb3 hz5 hbA hzt hok hqA hdr hGd hrun hown htch hloc hal ht4 hgi hs4 hset hne hTg hput hwA a0 a1 a2 a3 a4 a5 a6 a7 a8 hx
  go_upto_region 4 with (fail)
  rw [HWA.out]
  clear HWA x4 xf
  have hNS : Nonempty (Wd SS) := ⟨⟨_, hS1⟩⟩
  refine wp_region_G (n := 12) SS rfl (by kernel_rfl) hS1 (fun hS => ?_)
  refine wpAnyG_seg (fuel := 5) [0, 1, 5, 2, 6, 3, 4] rfl rfl (by kernel_rfl) (fun _ _ d _ _ h => by cases d <;> exact h) hS ?_
  repeat (go_big_quiet_step (fail))
  refine wpQuiet_nil ?_
  clear r4 b0 b1 b2 b3 b4 b5 b6 b7 b8
  refine wpAnyG_alone (fuel := 4) 7 (by kernel_rfl) rfl hS (fun K hK => ?_)
  go_simp
  refine hK.out SS _ _ (fun _ h => h) HS2.out (fun hS => ?_)
  clear hK K
  refine wpAnyG_alone (fuel := 3) 8 (by kernel_rfl) rfl hS (fun K hK => ?_)
  refine MemW.step_append_eq (by rfl) _ _ _ (by rfl) (by rfl) (by rfl) HRUN.out ?_
  go_simp
  refine hK.out SS _ _ (fun _ h => h) HS3.out (fun hS => ?_)
  clear hK K
  obtain ⟨A', n', c', rfl⟩ := HVF.out
  refine wpAnyG_seg (fuel := 1) [9, 10] rfl rfl (by kernel_rfl) (fun _ _ d _ _ h => by cases d <;> exact h) hS ?_
  repeat (go_big_quiet_step (fail))
  refine wpQuiet_nil ?_
  refine wpAnyG_sealed (fuel := 0) 11 (by kernel_rfl) (by kernel_rfl) rfl (fun K hK => ?_)
  go_simp
  refine hK.out (fun _ => True) _ _ trivial (fun hS => ?_)
  clear hK K hS e4 ef
  refine wpAnyG_end (by kernel_rfl) ?_
  go_wp2_with fail
  exact HE.out
end
end Go.Proofs.Ytclhgnlhejohgaa.GrpW
