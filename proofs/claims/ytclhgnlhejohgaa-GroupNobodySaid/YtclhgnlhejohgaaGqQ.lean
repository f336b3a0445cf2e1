/- A group's queue: who gets a message, and the next one. -/
import Derived.Test.YtclhgnlhejohgaaGqK
set_option linter.unusedVariables false
set_option linter.unusedSimpArgs false
namespace Go.Proofs.Ytclhgnlhejohgaa.GrpW
open Go.RowKit Go.Proofs.Ytclhgnlhejohgaa.Tc Go.Proofs.Ytclhgnlhejohgaa.GrpP
open Go.Proofs.Ytclhgnlhejohgaa.LaneW (OwnIt OwnI Newer copy_below info3 info45 ownP)
open Go.Proofs.Ytclhgnlhejohgaa.PickW (OwnS kS kI Small str_cell rank)

theorem here_len (L : List MemP.Mem) : (MemP.here L).length ≤ L.length := by
  unfold MemP.here
  rw [List.length_map]
  exact List.length_filter_le _ _
theorem mayP_sub (L : List MemP.Mem) (x : Tc.It) : ∀ s ∈ mayP L x, s ∈ MemP.here L := by
  intro s hs
  unfold mayP at hs
  split at hs
  · exact hs
  · exact (List.mem_filter.1 hs).1
theorem here_mem (L : List MemP.Mem) : ∀ s ∈ MemP.here L, ∃ m ∈ L, m.client = s ∧ m.online = true := by
  intro s hs
  unfold MemP.here at hs
  obtain ⟨m, hm, rfl⟩ := List.mem_map.1 hs
  obtain ⟨h1, h2⟩ := List.mem_filter.1 hm
  exact ⟨m, h1, rfl, h2⟩
theorem mayP_len (L : List MemP.Mem) (x : Tc.It) : (mayP L x).length ≤ L.length := by
  unfold mayP
  split
  · exact here_len L
  · exact Nat.le_trans (List.length_filter_le _ _) (here_len L)
theorem small_may {L : List MemP.Mem} (h : ∀ m ∈ L, m.client.size ≤ 100) (x : Tc.It) : Small (mayP L x) := PickW.small_of fun s hs => by
  obtain ⟨m, hm, rfl, -⟩ := here_mem L s (mayP_sub L x s hs)
  exact h m hm
theorem readyP_eq (L : List MemP.Mem) (x : Tc.It) (free : List ByteArray) : (mayP L x).filter (fun s => !(!PickP.has free s)) = readyP L x free := by
  unfold readyP
  congr 1
  funext s
  rw [Bool.not_not]
theorem hashP_eq (I : List Tc.It) (k : Nat) (x : Tc.It) (free ml : List ByteArray) : hashP I k x free ml = (match LaneP.owner (LaneW.pr I) x.msg.topic with
    | some s => (s, PickP.has free s && LaneP.may (LaneW.pr I) k s)
    | none => ((oneP ml (PickP.hash (rank x.msg.topic) ml) free).1, (oneP ml (PickP.hash (rank x.msg.topic) ml) free).2 && LaneP.may (LaneW.pr I) k (oneP ml (PickP.hash (rank x.msg.topic) ml) free).1)) := by
  unfold hashP ownP
  cases LaneP.owner (LaneW.pr I) x.msg.topic <;> rfl
theorem gidx_first {I : List Tc.It} {k : Nat} (hlt : k < I.length) (h : k = firstW I) : gidx I (fun x => decide (x.at_ = LaneP.No)) = (k : Int) := by
  unfold gidx
  unfold firstW at h
  rw [← h, if_pos hlt]
theorem gidx_other {I : List Tc.It} {k : Nat} (hlt : k < I.length) (h : ¬ k = firstW I) : ¬ (k : Int) = gidx I (fun x => decide (x.at_ = LaneP.No)) := by
  intro e
  unfold gidx at e
  split at e
  · exact h (Int.ofNat.inj e)
  · omega
theorem lt_of_block_cell {w : World} {a o : Nat} {v : Value} (h : w.cell? ⟨a, o, none⟩ = some v) : a < w.heap.size := by
  rcases Nat.lt_or_ge a w.heap.size with h1 | h1
  · exact h1
  · unfold World.cell? at h
    rw [Array.getElem?_eq_none h1] at h
    cases h
section
variable {B : Nat} {w : World} {g ms : Nat} {mv iv : Value} {S : GS}
set_option maxRecDepth 100000 in
set_option maxHeartbeats 8000000 in
theorem whom_from (h : Gp B w g ms mv iv S) (hI : S.I.length < 1000000) (hL : S.L.length < 1000000) (hnm : ∀ m ∈ S.L, m.client.size ≤ 100) (k : Nat) (x : Tc.It) (hx : S.I[k]? = some x) (ht : x.msg.topic.size ≤ 200) (hfr : x.msg.from_.size ≤ 200) (Af : Option Addr) (capf : Nat) (free : List ByteArray) (hf : SliceIs kS w Af free) (hst : S.st = 2) :
    Calls Try.prog 96 #[.pointer (some ⟨g, 0, none⟩), .int .i64 k, .slice Af free.length capf] w (fun e w' => e = .returned (.tuple #[.string (whomP S.st S.I S.L S.last k x free).1, .bool (whomP S.st S.I S.L S.last k x free).2]) ∧ Below w.heap.size w w') := by
  generalize hP : (fun (e : Ending) (w' : World) => e = .returned (.tuple #[.string (whomP S.st S.I S.L S.last k x free).1, .bool (whomP S.st S.I S.L S.last k x free).2]) ∧ Below w.heap.size w w') = PP
  have HPP := Lib.hid (show ∀ w', Below w.heap.size w w' → PP (.returned (.tuple #[.string (whomP S.st S.I S.L S.last k x free).1, .bool (whomP S.st S.I S.L S.last k x free).2])) w' from fun w' h1 => by
    rw [← hP]
    exact ⟨rfl, h1⟩)
  clear hP
  have HH := Lib.hid h
  have HII := Lib.hid hI
  have HLL := Lib.hid hL
  have HX := Lib.hid hx
  have HT := Lib.hid ht
  have HFR := Lib.hid hfr
  have HF := Lib.hid hf
  have HSM := Lib.hid (small_may hnm x)
  have HML := Lib.hid (mayP_len S.L x)
  have hlt := (List.getElem?_eq_some_iff.1 hx).1
  have hlen := (show S.I.length ≤ 9223372036854775807 by omega)
  obtain ⟨W1, hW1⟩ : ∃ W1, W1 = w.alloc (.cells #[.pointer (some ⟨g, 0, none⟩)] 78) := ⟨_, rfl⟩
  obtain ⟨W2, hW2⟩ : ∃ W2, W2 = W1.alloc (.cells #[.slice Af free.length capf] 26) := ⟨_, rfl⟩
  have hb1 : Below w.heap.size w W1 := by rw [hW1]; exact alloc_below _ _
  have hb2 : Below W1.heap.size W1 W2 := by rw [hW2]; exact alloc_below _ _
  have hs1 : W1.heap.size = w.heap.size + 1 := by rw [hW1]; simp
  have hs2 : W2.heap.size = w.heap.size + 2 := by rw [hW2]; simp [hs1]
  have b3 : W2.cell? ⟨w.heap.size, 0, none⟩ = some (.pointer (some ⟨g, 0, none⟩)) := (Same.of_below hb2).cell (by rw [hW1]; exact cell_of (heap_alloc_new w _) rfl)
  have b5 : W2.cell? ⟨w.heap.size + 1, 0, none⟩ = some (.slice Af free.length capf) := by rw [hW2, ← hs1]; exact cell_of (heap_alloc_new W1 _) rfl
  have HB2 := Lib.hid (then_below hb1 hb2)
  have HZ2 := Lib.hid hs2
  have hG2 := HH.out.below HB2.out
  obtain ⟨gi, cp, hiv, hit⟩ := hG2.at_ hx
  obtain ⟨d0, d1, d2, d3, d4, d5, d6, d7, d8, d9, d10, d11⟩ := hit
  have HIV := Lib.hid hiv
  have g4 := hG2.c4
  rw [hiv] at g4
  obtain ⟨W3, hW3⟩ : ∃ W3, W3 = W2.alloc (.cells x.vals.toArray 45) := ⟨_, rfl⟩
  have hb3 : Below W2.heap.size W2 W3 := by rw [hW3]; exact alloc_below _ _
  have HCP := Lib.hid (show CpAt W3 (w.heap.size + 2) x by rw [hW3, ← hs2]; exact CpAt.new W2 _)
  have HB3 := Lib.hid (then_below HB2.out hb3)
  have hG3 := HH.out.below HB3.out
  have e3 := (Same.of_below hb3).cell b3
  have E3 := Lib.hid e3
  have E5 := Lib.hid ((Same.of_below hb3).cell b5)
  have f0 := HCP.out.c0
  have f1 := HCP.out.c1
  have f2 := HCP.out.c2
  have f3 := HCP.out.c3
  have f4 := HCP.out.c4
  have f5 := HCP.out.c5
  have f6 := HCP.out.c6
  have f7 := HCP.out.c7
  have f8 := HCP.out.c8
  have f9 := HCP.out.c9
  have f10 := HCP.out.c10
  have f11 := HCP.out.c11
  have HMAY := Lib.hid (may_any hG3 HLL.out x (hG3.each x (List.mem_of_getElem? hx)).led.2.2)
  unfold It.val at HMAY
  have HW2 := Lib.hid hW2
  have HW3 := Lib.hid hW3
  unfold It.vals at HW3
  rw [hW1] at HW2
  rw [hs1] at *
  clear h hI hL hnm hx ht hfr hf hb1 hb2 hW1 hW2 hG2 hiv hb3 hG3 hW3
  go_enter Try.func96, Try.ntmps96
  go_upto_region 1 with (fail)
  rw [← HW2.out]
  go_upto_region 2 with (fail)
  rw [← HW3.out]
  clear HW2 HW3 b3 b5 g4 d0 d1 d2 d3 d4 d5 d6 d7 d8 d9 d10 d11
  go_wp2_with fail
  refine HMAY.out.mono ?_
  rintro e w4 ⟨⟨v4, rfl, ho4⟩, hb4⟩
  obtain ⟨A4, c4, hv4, hs4⟩ := ho4.form
  have HCL := Lib.hid (cloneS_any w4 A4 c4 (mayP S.L x) (rd_texts hs4) (Nat.lt_of_le_of_lt HML.out HLL.out))
  have HO4 := Lib.hid ho4
  have HB4 := Lib.hid hb4
  have HS4 := Lib.hid hs4
  subst hv4
  clear ho4 hb4 hs4
  go_wp2_with fail
  refine HCL.out.mono ?_
  rintro e w5 ⟨⟨v5, rfl, ho5, hn5⟩, hb5⟩
  have HN5 := Lib.hid hn5
  have HB5 := Lib.hid hb5
  have HD := Lib.hid (deleteS_any 110 (w.heap.size + 1) (fun s => !PickP.has free s) (enters_of Try.func110 (by kernel_rfl) rfl) w5 v5 (mayP S.L x) ho5 (Nat.lt_of_le_of_lt HML.out HLL.out) HO4.out.2 (fun s W hs hT => by
    have h2 := HB4.out.size
    have h3 := HB5.out.size
    have h4 := HB3.out.size
    have hlt : ∀ k, k < W3.heap.size → W.heap[k]? = W3.heap[k]? := fun k hk => by
      refine (hT.block k (by omega) (fun hm => ?_)).trans ((HB5.out.block k (by omega)).trans (HB4.out.block k hk))
      have := HN5.out k (by simpa using hm)
      omega
    refine free_fn (w.heap.size + 1) s Af capf free W ?_ ?_
    · exact cell_stay (hlt _ (lt_of_block_cell E5.out)) E5.out
    · refine sls_kept (HF.out.below HB3.out) (fun ad hA hn hk => hlt _ hk) ?_
      have := hT.size
      omega))
  clear ho5 hn5 hb5
  go_wp2_with fail
  refine HD.out.mono ?_
  rintro e w6 ⟨⟨v6, rfl, ho6, hl6⟩, ht6⟩
  rw [readyP_eq] at ho6
  have hbe : Below w4.heap.size w4 w6 := (show Newer w4 v5 from HN5.out).below HB5.out ht6
  have hb36 : Below W3.heap.size W3 w6 := HB4.out.trans (hbe.mono HB4.out.size)
  have HB6 := Lib.hid (HB3.out.trans (hb36.mono HB3.out.size))
  have HG6 := Lib.hid (HH.out.below HB6.out)
  have p3 := (Same.of_below hb36).cell E3.out
  have p5 := (Same.of_below hb36).cell E5.out
  have P3 := Lib.hid p3
  have P5 := Lib.hid p5
  have HC6 := Lib.hid ((Same.of_below hb36).cell HCP.out.c5)
  have HF6 := Lib.hid (HF.out.below HB6.out)
  have HM6 := Lib.hid (HS4.out.below hbe)
  have hrd := owns_of ho6 (fun s hs => HO4.out.2 s (List.mem_filter.1 hs).1)
  obtain ⟨A6, c6, hv6, hs6⟩ := hrd.form
  have HS6 := Lib.hid hs6
  have HRL := Lib.hid (show (readyP S.L x free).length < 1000000 from Nat.lt_of_le_of_lt (Nat.le_trans (List.length_filter_le _ _) HML.out) HLL.out)
  subst hv6
  have g0 := HG6.out.c0
  have g2 := HG6.out.c2
  have g4 := HG6.out.c4
  clear ho6 hl6 ht6 hbe hb36 hrd hs6 e3 f0 f1 f2 f3 f4 f5 f6 f7 f8 f9 f10 f11
  rw [hst] at g2
  have hw : whomP S.st S.I S.L S.last k x free = oneP (mayP S.L x) (PickP.hash (rank x.msg.from_) (mayP S.L x)) free := by unfold whomP; rw [if_pos hst]
  rw [hw] at HPP
  have HONE := Lib.hid (one1_any 112 (.pointer (some ⟨w.heap.size + 2, 0, none⟩)) (enters_of Try.func112 (by kernel_rfl) rfl) w6 A4 Af c4 capf (mayP S.L x) free (by have := HML.out; have := HLL.out; omega) HF6.out (PickP.hash (rank x.msg.from_) (mayP S.L x)) (fun _ => from_fn (w.heap.size + 2) x.msg.from_ A4 c4 (mayP S.L x) w6 HC6.out HM6.out HFR.out HSM.out))
  clear hw
  generalize oneP (mayP S.L x) (PickP.hash (rank x.msg.from_) (mayP S.L x)) free = r at *
  obtain ⟨r1, r2⟩ := r
  dsimp only at HPP HONE
  go_wp2_with fail
  refine HONE.out.mono ?_
  rintro e w7 ⟨rfl, hb7⟩
  have HE := Lib.hid (HPP.out w7 (then_below HB6.out hb7))
  clear hb7
  go_wp2_with fail
  exact HE.out
set_option maxRecDepth 100000 in
set_option maxHeartbeats 8000000 in
theorem whom_hash (h : Gp B w g ms mv iv S) (hI : S.I.length < 1000000) (hL : S.L.length < 1000000) (hnm : ∀ m ∈ S.L, m.client.size ≤ 100) (k : Nat) (x : Tc.It) (hx : S.I[k]? = some x) (ht : x.msg.topic.size ≤ 200) (hfr : x.msg.from_.size ≤ 200) (Af : Option Addr) (capf : Nat) (free : List ByteArray) (hf : SliceIs kS w Af free) (hst : S.st = 3) :
    Calls Try.prog 96 #[.pointer (some ⟨g, 0, none⟩), .int .i64 k, .slice Af free.length capf] w (fun e w' => e = .returned (.tuple #[.string (whomP S.st S.I S.L S.last k x free).1, .bool (whomP S.st S.I S.L S.last k x free).2]) ∧ Below w.heap.size w w') := by
  generalize hP : (fun (e : Ending) (w' : World) => e = .returned (.tuple #[.string (whomP S.st S.I S.L S.last k x free).1, .bool (whomP S.st S.I S.L S.last k x free).2]) ∧ Below w.heap.size w w') = PP
  have HPP := Lib.hid (show ∀ w', Below w.heap.size w w' → PP (.returned (.tuple #[.string (whomP S.st S.I S.L S.last k x free).1, .bool (whomP S.st S.I S.L S.last k x free).2])) w' from fun w' h1 => by
    rw [← hP]
    exact ⟨rfl, h1⟩)
  clear hP
  have HH := Lib.hid h
  have HII := Lib.hid hI
  have HLL := Lib.hid hL
  have HX := Lib.hid hx
  have HT := Lib.hid ht
  have HFR := Lib.hid hfr
  have HF := Lib.hid hf
  have HSM := Lib.hid (small_may hnm x)
  have HML := Lib.hid (mayP_len S.L x)
  have hlt := (List.getElem?_eq_some_iff.1 hx).1
  have hlen := (show S.I.length ≤ 9223372036854775807 by omega)
  obtain ⟨W1, hW1⟩ : ∃ W1, W1 = w.alloc (.cells #[.pointer (some ⟨g, 0, none⟩)] 78) := ⟨_, rfl⟩
  obtain ⟨W2, hW2⟩ : ∃ W2, W2 = W1.alloc (.cells #[.slice Af free.length capf] 26) := ⟨_, rfl⟩
  have hb1 : Below w.heap.size w W1 := by rw [hW1]; exact alloc_below _ _
  have hb2 : Below W1.heap.size W1 W2 := by rw [hW2]; exact alloc_below _ _
  have hs1 : W1.heap.size = w.heap.size + 1 := by rw [hW1]; simp
  have hs2 : W2.heap.size = w.heap.size + 2 := by rw [hW2]; simp [hs1]
  have b3 : W2.cell? ⟨w.heap.size, 0, none⟩ = some (.pointer (some ⟨g, 0, none⟩)) := (Same.of_below hb2).cell (by rw [hW1]; exact cell_of (heap_alloc_new w _) rfl)
  have b5 : W2.cell? ⟨w.heap.size + 1, 0, none⟩ = some (.slice Af free.length capf) := by rw [hW2, ← hs1]; exact cell_of (heap_alloc_new W1 _) rfl
  have HB2 := Lib.hid (then_below hb1 hb2)
  have HZ2 := Lib.hid hs2
  have hG2 := HH.out.below HB2.out
  obtain ⟨gi, cp, hiv, hit⟩ := hG2.at_ hx
  obtain ⟨d0, d1, d2, d3, d4, d5, d6, d7, d8, d9, d10, d11⟩ := hit
  have HIV := Lib.hid hiv
  have g4 := hG2.c4
  rw [hiv] at g4
  obtain ⟨W3, hW3⟩ : ∃ W3, W3 = W2.alloc (.cells x.vals.toArray 45) := ⟨_, rfl⟩
  have hb3 : Below W2.heap.size W2 W3 := by rw [hW3]; exact alloc_below _ _
  have HCP := Lib.hid (show CpAt W3 (w.heap.size + 2) x by rw [hW3, ← hs2]; exact CpAt.new W2 _)
  have HB3 := Lib.hid (then_below HB2.out hb3)
  have hG3 := HH.out.below HB3.out
  have e3 := (Same.of_below hb3).cell b3
  have E3 := Lib.hid e3
  have E5 := Lib.hid ((Same.of_below hb3).cell b5)
  have f0 := HCP.out.c0
  have f1 := HCP.out.c1
  have f2 := HCP.out.c2
  have f3 := HCP.out.c3
  have f4 := HCP.out.c4
  have f5 := HCP.out.c5
  have f6 := HCP.out.c6
  have f7 := HCP.out.c7
  have f8 := HCP.out.c8
  have f9 := HCP.out.c9
  have f10 := HCP.out.c10
  have f11 := HCP.out.c11
  have HMAY := Lib.hid (may_any hG3 HLL.out x (hG3.each x (List.mem_of_getElem? hx)).led.2.2)
  unfold It.val at HMAY
  have HW2 := Lib.hid hW2
  have HW3 := Lib.hid hW3
  unfold It.vals at HW3
  rw [hW1] at HW2
  rw [hs1] at *
  clear h hI hL hnm hx ht hfr hf hb1 hb2 hW1 hW2 hG2 hiv hb3 hG3 hW3
  go_enter Try.func96, Try.ntmps96
  go_upto_region 1 with (fail)
  rw [← HW2.out]
  go_upto_region 2 with (fail)
  rw [← HW3.out]
  clear HW2 HW3 b3 b5 g4 d0 d1 d2 d3 d4 d5 d6 d7 d8 d9 d10 d11
  go_wp2_with fail
  refine HMAY.out.mono ?_
  rintro e w4 ⟨⟨v4, rfl, ho4⟩, hb4⟩
  obtain ⟨A4, c4, hv4, hs4⟩ := ho4.form
  have HCL := Lib.hid (cloneS_any w4 A4 c4 (mayP S.L x) (rd_texts hs4) (Nat.lt_of_le_of_lt HML.out HLL.out))
  have HO4 := Lib.hid ho4
  have HB4 := Lib.hid hb4
  have HS4 := Lib.hid hs4
  subst hv4
  clear ho4 hb4 hs4
  go_wp2_with fail
  refine HCL.out.mono ?_
  rintro e w5 ⟨⟨v5, rfl, ho5, hn5⟩, hb5⟩
  have HN5 := Lib.hid hn5
  have HB5 := Lib.hid hb5
  have HD := Lib.hid (deleteS_any 110 (w.heap.size + 1) (fun s => !PickP.has free s) (enters_of Try.func110 (by kernel_rfl) rfl) w5 v5 (mayP S.L x) ho5 (Nat.lt_of_le_of_lt HML.out HLL.out) HO4.out.2 (fun s W hs hT => by
    have h2 := HB4.out.size
    have h3 := HB5.out.size
    have h4 := HB3.out.size
    have hlt : ∀ k, k < W3.heap.size → W.heap[k]? = W3.heap[k]? := fun k hk => by
      refine (hT.block k (by omega) (fun hm => ?_)).trans ((HB5.out.block k (by omega)).trans (HB4.out.block k hk))
      have := HN5.out k (by simpa using hm)
      omega
    refine free_fn (w.heap.size + 1) s Af capf free W ?_ ?_
    · exact cell_stay (hlt _ (lt_of_block_cell E5.out)) E5.out
    · refine sls_kept (HF.out.below HB3.out) (fun ad hA hn hk => hlt _ hk) ?_
      have := hT.size
      omega))
  clear ho5 hn5 hb5
  go_wp2_with fail
  refine HD.out.mono ?_
  rintro e w6 ⟨⟨v6, rfl, ho6, hl6⟩, ht6⟩
  rw [readyP_eq] at ho6
  have hbe : Below w4.heap.size w4 w6 := (show Newer w4 v5 from HN5.out).below HB5.out ht6
  have hb36 : Below W3.heap.size W3 w6 := HB4.out.trans (hbe.mono HB4.out.size)
  have HB6 := Lib.hid (HB3.out.trans (hb36.mono HB3.out.size))
  have HG6 := Lib.hid (HH.out.below HB6.out)
  have p3 := (Same.of_below hb36).cell E3.out
  have p5 := (Same.of_below hb36).cell E5.out
  have P3 := Lib.hid p3
  have P5 := Lib.hid p5
  have HC6 := Lib.hid ((Same.of_below hb36).cell HCP.out.c5)
  have HF6 := Lib.hid (HF.out.below HB6.out)
  have HM6 := Lib.hid (HS4.out.below hbe)
  have hrd := owns_of ho6 (fun s hs => HO4.out.2 s (List.mem_filter.1 hs).1)
  obtain ⟨A6, c6, hv6, hs6⟩ := hrd.form
  have HS6 := Lib.hid hs6
  have HRL := Lib.hid (show (readyP S.L x free).length < 1000000 from Nat.lt_of_le_of_lt (Nat.le_trans (List.length_filter_le _ _) HML.out) HLL.out)
  subst hv6
  have g0 := HG6.out.c0
  have g2 := HG6.out.c2
  have g4 := HG6.out.c4
  clear ho6 hl6 ht6 hbe hb36 hrd hs6 e3 f0 f1 f2 f3 f4 f5 f6 f7 f8 f9 f10 f11
  rw [hst] at g2
  have hw : whomP S.st S.I S.L S.last k x free = hashP S.I k x free (mayP S.L x) := by
    unfold whomP hashP ownP
    rw [if_neg (by omega), if_pos hst]
    cases LaneP.owner (LaneW.pr S.I) x.msg.topic <;> rfl
  rw [hw] at HPP
  have HONE := Lib.hid (hashed_any HG6.out HII.out k x HX.out A4 Af c4 capf (mayP S.L x) free HM6.out HF6.out HT.out HSM.out)
  clear hw
  generalize hashP S.I k x free (mayP S.L x) = r at *
  obtain ⟨r1, r2⟩ := r
  dsimp only at HPP HONE
  go_wp2_with fail
  refine HONE.out.mono ?_
  rintro e w7 ⟨rfl, hb7⟩
  have HE := Lib.hid (HPP.out w7 (then_below HB6.out hb7))
  clear hb7
  go_wp2_with fail
  exact HE.out
set_option maxRecDepth 100000 in
set_option maxHeartbeats 8000000 in
theorem whom_least (h : Gp B w g ms mv iv S) (hI : S.I.length < 1000000) (hL : S.L.length < 1000000) (hnm : ∀ m ∈ S.L, m.client.size ≤ 100) (k : Nat) (x : Tc.It) (hx : S.I[k]? = some x) (ht : x.msg.topic.size ≤ 200) (hfr : x.msg.from_.size ≤ 200) (Af : Option Addr) (capf : Nat) (free : List ByteArray) (hf : SliceIs kS w Af free) (hst : S.st = 4) :
    Calls Try.prog 96 #[.pointer (some ⟨g, 0, none⟩), .int .i64 k, .slice Af free.length capf] w (fun e w' => e = .returned (.tuple #[.string (whomP S.st S.I S.L S.last k x free).1, .bool (whomP S.st S.I S.L S.last k x free).2]) ∧ Below w.heap.size w w') := by
  generalize hP : (fun (e : Ending) (w' : World) => e = .returned (.tuple #[.string (whomP S.st S.I S.L S.last k x free).1, .bool (whomP S.st S.I S.L S.last k x free).2]) ∧ Below w.heap.size w w') = PP
  have HPP := Lib.hid (show ∀ w', Below w.heap.size w w' → PP (.returned (.tuple #[.string (whomP S.st S.I S.L S.last k x free).1, .bool (whomP S.st S.I S.L S.last k x free).2])) w' from fun w' h1 => by
    rw [← hP]
    exact ⟨rfl, h1⟩)
  clear hP
  have HH := Lib.hid h
  have HII := Lib.hid hI
  have HLL := Lib.hid hL
  have HX := Lib.hid hx
  have HT := Lib.hid ht
  have HFR := Lib.hid hfr
  have HF := Lib.hid hf
  have HSM := Lib.hid (small_may hnm x)
  have HML := Lib.hid (mayP_len S.L x)
  have hlt := (List.getElem?_eq_some_iff.1 hx).1
  have hlen := (show S.I.length ≤ 9223372036854775807 by omega)
  obtain ⟨W1, hW1⟩ : ∃ W1, W1 = w.alloc (.cells #[.pointer (some ⟨g, 0, none⟩)] 78) := ⟨_, rfl⟩
  obtain ⟨W2, hW2⟩ : ∃ W2, W2 = W1.alloc (.cells #[.slice Af free.length capf] 26) := ⟨_, rfl⟩
  have hb1 : Below w.heap.size w W1 := by rw [hW1]; exact alloc_below _ _
  have hb2 : Below W1.heap.size W1 W2 := by rw [hW2]; exact alloc_below _ _
  have hs1 : W1.heap.size = w.heap.size + 1 := by rw [hW1]; simp
  have hs2 : W2.heap.size = w.heap.size + 2 := by rw [hW2]; simp [hs1]
  have b3 : W2.cell? ⟨w.heap.size, 0, none⟩ = some (.pointer (some ⟨g, 0, none⟩)) := (Same.of_below hb2).cell (by rw [hW1]; exact cell_of (heap_alloc_new w _) rfl)
  have b5 : W2.cell? ⟨w.heap.size + 1, 0, none⟩ = some (.slice Af free.length capf) := by rw [hW2, ← hs1]; exact cell_of (heap_alloc_new W1 _) rfl
  have HB2 := Lib.hid (then_below hb1 hb2)
  have HZ2 := Lib.hid hs2
  have hG2 := HH.out.below HB2.out
  obtain ⟨gi, cp, hiv, hit⟩ := hG2.at_ hx
  obtain ⟨d0, d1, d2, d3, d4, d5, d6, d7, d8, d9, d10, d11⟩ := hit
  have HIV := Lib.hid hiv
  have g4 := hG2.c4
  rw [hiv] at g4
  obtain ⟨W3, hW3⟩ : ∃ W3, W3 = W2.alloc (.cells x.vals.toArray 45) := ⟨_, rfl⟩
  have hb3 : Below W2.heap.size W2 W3 := by rw [hW3]; exact alloc_below _ _
  have HCP := Lib.hid (show CpAt W3 (w.heap.size + 2) x by rw [hW3, ← hs2]; exact CpAt.new W2 _)
  have HB3 := Lib.hid (then_below HB2.out hb3)
  have hG3 := HH.out.below HB3.out
  have e3 := (Same.of_below hb3).cell b3
  have E3 := Lib.hid e3
  have E5 := Lib.hid ((Same.of_below hb3).cell b5)
  have f0 := HCP.out.c0
  have f1 := HCP.out.c1
  have f2 := HCP.out.c2
  have f3 := HCP.out.c3
  have f4 := HCP.out.c4
  have f5 := HCP.out.c5
  have f6 := HCP.out.c6
  have f7 := HCP.out.c7
  have f8 := HCP.out.c8
  have f9 := HCP.out.c9
  have f10 := HCP.out.c10
  have f11 := HCP.out.c11
  have HMAY := Lib.hid (may_any hG3 HLL.out x (hG3.each x (List.mem_of_getElem? hx)).led.2.2)
  unfold It.val at HMAY
  have HW2 := Lib.hid hW2
  have HW3 := Lib.hid hW3
  unfold It.vals at HW3
  rw [hW1] at HW2
  rw [hs1] at *
  clear h hI hL hnm hx ht hfr hf hb1 hb2 hW1 hW2 hG2 hiv hb3 hG3 hW3
  go_enter Try.func96, Try.ntmps96
  go_upto_region 1 with (fail)
  rw [← HW2.out]
  go_upto_region 2 with (fail)
  rw [← HW3.out]
  clear HW2 HW3 b3 b5 g4 d0 d1 d2 d3 d4 d5 d6 d7 d8 d9 d10 d11
  go_wp2_with fail
  refine HMAY.out.mono ?_
  rintro e w4 ⟨⟨v4, rfl, ho4⟩, hb4⟩
  obtain ⟨A4, c4, hv4, hs4⟩ := ho4.form
  have HCL := Lib.hid (cloneS_any w4 A4 c4 (mayP S.L x) (rd_texts hs4) (Nat.lt_of_le_of_lt HML.out HLL.out))
  have HO4 := Lib.hid ho4
  have HB4 := Lib.hid hb4
  have HS4 := Lib.hid hs4
  subst hv4
  clear ho4 hb4 hs4
  go_wp2_with fail
  refine HCL.out.mono ?_
  rintro e w5 ⟨⟨v5, rfl, ho5, hn5⟩, hb5⟩
  have HN5 := Lib.hid hn5
  have HB5 := Lib.hid hb5
  have HD := Lib.hid (deleteS_any 110 (w.heap.size + 1) (fun s => !PickP.has free s) (enters_of Try.func110 (by kernel_rfl) rfl) w5 v5 (mayP S.L x) ho5 (Nat.lt_of_le_of_lt HML.out HLL.out) HO4.out.2 (fun s W hs hT => by
    have h2 := HB4.out.size
    have h3 := HB5.out.size
    have h4 := HB3.out.size
    have hlt : ∀ k, k < W3.heap.size → W.heap[k]? = W3.heap[k]? := fun k hk => by
      refine (hT.block k (by omega) (fun hm => ?_)).trans ((HB5.out.block k (by omega)).trans (HB4.out.block k hk))
      have := HN5.out k (by simpa using hm)
      omega
    refine free_fn (w.heap.size + 1) s Af capf free W ?_ ?_
    · exact cell_stay (hlt _ (lt_of_block_cell E5.out)) E5.out
    · refine sls_kept (HF.out.below HB3.out) (fun ad hA hn hk => hlt _ hk) ?_
      have := hT.size
      omega))
  clear ho5 hn5 hb5
  go_wp2_with fail
  refine HD.out.mono ?_
  rintro e w6 ⟨⟨v6, rfl, ho6, hl6⟩, ht6⟩
  rw [readyP_eq] at ho6
  have hbe : Below w4.heap.size w4 w6 := (show Newer w4 v5 from HN5.out).below HB5.out ht6
  have hb36 : Below W3.heap.size W3 w6 := HB4.out.trans (hbe.mono HB4.out.size)
  have HB6 := Lib.hid (HB3.out.trans (hb36.mono HB3.out.size))
  have HG6 := Lib.hid (HH.out.below HB6.out)
  have p3 := (Same.of_below hb36).cell E3.out
  have p5 := (Same.of_below hb36).cell E5.out
  have P3 := Lib.hid p3
  have P5 := Lib.hid p5
  have HC6 := Lib.hid ((Same.of_below hb36).cell HCP.out.c5)
  have HF6 := Lib.hid (HF.out.below HB6.out)
  have HM6 := Lib.hid (HS4.out.below hbe)
  have hrd := owns_of ho6 (fun s hs => HO4.out.2 s (List.mem_filter.1 hs).1)
  obtain ⟨A6, c6, hv6, hs6⟩ := hrd.form
  have HS6 := Lib.hid hs6
  have HRL := Lib.hid (show (readyP S.L x free).length < 1000000 from Nat.lt_of_le_of_lt (Nat.le_trans (List.length_filter_le _ _) HML.out) HLL.out)
  subst hv6
  have g0 := HG6.out.c0
  have g2 := HG6.out.c2
  have g4 := HG6.out.c4
  clear ho6 hl6 ht6 hbe hb36 hrd hs6 e3 f0 f1 f2 f3 f4 f5 f6 f7 f8 f9 f10 f11
  rw [hst] at g2
  have hw : whomP S.st S.I S.L S.last k x free = oneP (readyP S.L x free) (PickP.least (readyP S.L x free) (underP S.I (readyP S.L x free))) free := by unfold whomP; rw [if_neg (by omega), if_neg (by omega), if_pos hst]
  rw [hw] at HPP
  have HONE := Lib.hid (one1_any 114 (.pointer (some ⟨w.heap.size, 0, none⟩)) (enters_of Try.func114 (by kernel_rfl) rfl) w6 A6 Af c6 capf (readyP S.L x free) free (by have := HRL.out; omega) HF6.out (PickP.least (readyP S.L x free) (underP S.I (readyP S.L x free))) (fun _ => least_fn HG6.out HII.out w.heap.size A6 c6 (readyP S.L x free) P3.out HS6.out HRL.out))
  clear hw
  generalize oneP (readyP S.L x free) (PickP.least (readyP S.L x free) (underP S.I (readyP S.L x free))) free = r at *
  obtain ⟨r1, r2⟩ := r
  dsimp only at HPP HONE
  go_wp2_with fail
  refine HONE.out.mono ?_
  rintro e w7 ⟨rfl, hb7⟩
  have HE := Lib.hid (HPP.out w7 (then_below HB6.out hb7))
  clear hb7
  go_wp2_with fail
  exact HE.out
set_option maxRecDepth 100000 in
set_option maxHeartbeats 8000000 in
theorem whom_first (h : Gp B w g ms mv iv S) (hI : S.I.length < 1000000) (hL : S.L.length < 1000000) (hnm : ∀ m ∈ S.L, m.client.size ≤ 100) (k : Nat) (x : Tc.It) (hx : S.I[k]? = some x) (ht : x.msg.topic.size ≤ 200) (hfr : x.msg.from_.size ≤ 200) (Af : Option Addr) (capf : Nat) (free : List ByteArray) (hf : SliceIs kS w Af free) (hst : S.st = 5) (hfirst : k = firstW S.I) :
    Calls Try.prog 96 #[.pointer (some ⟨g, 0, none⟩), .int .i64 k, .slice Af free.length capf] w (fun e w' => e = .returned (.tuple #[.string (whomP S.st S.I S.L S.last k x free).1, .bool (whomP S.st S.I S.L S.last k x free).2]) ∧ Below w.heap.size w w') := by
  generalize hP : (fun (e : Ending) (w' : World) => e = .returned (.tuple #[.string (whomP S.st S.I S.L S.last k x free).1, .bool (whomP S.st S.I S.L S.last k x free).2]) ∧ Below w.heap.size w w') = PP
  have HPP := Lib.hid (show ∀ w', Below w.heap.size w w' → PP (.returned (.tuple #[.string (whomP S.st S.I S.L S.last k x free).1, .bool (whomP S.st S.I S.L S.last k x free).2])) w' from fun w' h1 => by
    rw [← hP]
    exact ⟨rfl, h1⟩)
  clear hP
  have HFI := Lib.hid hfirst
  clear hfirst
  have HH := Lib.hid h
  have HII := Lib.hid hI
  have HLL := Lib.hid hL
  have HX := Lib.hid hx
  have HT := Lib.hid ht
  have HFR := Lib.hid hfr
  have HF := Lib.hid hf
  have HSM := Lib.hid (small_may hnm x)
  have HML := Lib.hid (mayP_len S.L x)
  have hlt := (List.getElem?_eq_some_iff.1 hx).1
  have hlen := (show S.I.length ≤ 9223372036854775807 by omega)
  obtain ⟨W1, hW1⟩ : ∃ W1, W1 = w.alloc (.cells #[.pointer (some ⟨g, 0, none⟩)] 78) := ⟨_, rfl⟩
  obtain ⟨W2, hW2⟩ : ∃ W2, W2 = W1.alloc (.cells #[.slice Af free.length capf] 26) := ⟨_, rfl⟩
  have hb1 : Below w.heap.size w W1 := by rw [hW1]; exact alloc_below _ _
  have hb2 : Below W1.heap.size W1 W2 := by rw [hW2]; exact alloc_below _ _
  have hs1 : W1.heap.size = w.heap.size + 1 := by rw [hW1]; simp
  have hs2 : W2.heap.size = w.heap.size + 2 := by rw [hW2]; simp [hs1]
  have b3 : W2.cell? ⟨w.heap.size, 0, none⟩ = some (.pointer (some ⟨g, 0, none⟩)) := (Same.of_below hb2).cell (by rw [hW1]; exact cell_of (heap_alloc_new w _) rfl)
  have b5 : W2.cell? ⟨w.heap.size + 1, 0, none⟩ = some (.slice Af free.length capf) := by rw [hW2, ← hs1]; exact cell_of (heap_alloc_new W1 _) rfl
  have HB2 := Lib.hid (then_below hb1 hb2)
  have HZ2 := Lib.hid hs2
  have hG2 := HH.out.below HB2.out
  obtain ⟨gi, cp, hiv, hit⟩ := hG2.at_ hx
  obtain ⟨d0, d1, d2, d3, d4, d5, d6, d7, d8, d9, d10, d11⟩ := hit
  have HIV := Lib.hid hiv
  have g4 := hG2.c4
  rw [hiv] at g4
  obtain ⟨W3, hW3⟩ : ∃ W3, W3 = W2.alloc (.cells x.vals.toArray 45) := ⟨_, rfl⟩
  have hb3 : Below W2.heap.size W2 W3 := by rw [hW3]; exact alloc_below _ _
  have HCP := Lib.hid (show CpAt W3 (w.heap.size + 2) x by rw [hW3, ← hs2]; exact CpAt.new W2 _)
  have HB3 := Lib.hid (then_below HB2.out hb3)
  have hG3 := HH.out.below HB3.out
  have e3 := (Same.of_below hb3).cell b3
  have E3 := Lib.hid e3
  have E5 := Lib.hid ((Same.of_below hb3).cell b5)
  have f0 := HCP.out.c0
  have f1 := HCP.out.c1
  have f2 := HCP.out.c2
  have f3 := HCP.out.c3
  have f4 := HCP.out.c4
  have f5 := HCP.out.c5
  have f6 := HCP.out.c6
  have f7 := HCP.out.c7
  have f8 := HCP.out.c8
  have f9 := HCP.out.c9
  have f10 := HCP.out.c10
  have f11 := HCP.out.c11
  have HMAY := Lib.hid (may_any hG3 HLL.out x (hG3.each x (List.mem_of_getElem? hx)).led.2.2)
  unfold It.val at HMAY
  have HW2 := Lib.hid hW2
  have HW3 := Lib.hid hW3
  unfold It.vals at HW3
  rw [hW1] at HW2
  rw [hs1] at *
  clear h hI hL hnm hx ht hfr hf hb1 hb2 hW1 hW2 hG2 hiv hb3 hG3 hW3
  go_enter Try.func96, Try.ntmps96
  go_upto_region 1 with (fail)
  rw [← HW2.out]
  go_upto_region 2 with (fail)
  rw [← HW3.out]
  clear HW2 HW3 b3 b5 g4 d0 d1 d2 d3 d4 d5 d6 d7 d8 d9 d10 d11
  go_wp2_with fail
  refine HMAY.out.mono ?_
  rintro e w4 ⟨⟨v4, rfl, ho4⟩, hb4⟩
  obtain ⟨A4, c4, hv4, hs4⟩ := ho4.form
  have HCL := Lib.hid (cloneS_any w4 A4 c4 (mayP S.L x) (rd_texts hs4) (Nat.lt_of_le_of_lt HML.out HLL.out))
  have HO4 := Lib.hid ho4
  have HB4 := Lib.hid hb4
  have HS4 := Lib.hid hs4
  subst hv4
  clear ho4 hb4 hs4
  go_wp2_with fail
  refine HCL.out.mono ?_
  rintro e w5 ⟨⟨v5, rfl, ho5, hn5⟩, hb5⟩
  have HN5 := Lib.hid hn5
  have HB5 := Lib.hid hb5
  have HD := Lib.hid (deleteS_any 110 (w.heap.size + 1) (fun s => !PickP.has free s) (enters_of Try.func110 (by kernel_rfl) rfl) w5 v5 (mayP S.L x) ho5 (Nat.lt_of_le_of_lt HML.out HLL.out) HO4.out.2 (fun s W hs hT => by
    have h2 := HB4.out.size
    have h3 := HB5.out.size
    have h4 := HB3.out.size
    have hlt : ∀ k, k < W3.heap.size → W.heap[k]? = W3.heap[k]? := fun k hk => by
      refine (hT.block k (by omega) (fun hm => ?_)).trans ((HB5.out.block k (by omega)).trans (HB4.out.block k hk))
      have := HN5.out k (by simpa using hm)
      omega
    refine free_fn (w.heap.size + 1) s Af capf free W ?_ ?_
    · exact cell_stay (hlt _ (lt_of_block_cell E5.out)) E5.out
    · refine sls_kept (HF.out.below HB3.out) (fun ad hA hn hk => hlt _ hk) ?_
      have := hT.size
      omega))
  clear ho5 hn5 hb5
  go_wp2_with fail
  refine HD.out.mono ?_
  rintro e w6 ⟨⟨v6, rfl, ho6, hl6⟩, ht6⟩
  rw [readyP_eq] at ho6
  have hbe : Below w4.heap.size w4 w6 := (show Newer w4 v5 from HN5.out).below HB5.out ht6
  have hb36 : Below W3.heap.size W3 w6 := HB4.out.trans (hbe.mono HB4.out.size)
  have HB6 := Lib.hid (HB3.out.trans (hb36.mono HB3.out.size))
  have HG6 := Lib.hid (HH.out.below HB6.out)
  have p3 := (Same.of_below hb36).cell E3.out
  have p5 := (Same.of_below hb36).cell E5.out
  have P3 := Lib.hid p3
  have P5 := Lib.hid p5
  have HC6 := Lib.hid ((Same.of_below hb36).cell HCP.out.c5)
  have HF6 := Lib.hid (HF.out.below HB6.out)
  have HM6 := Lib.hid (HS4.out.below hbe)
  have hrd := owns_of ho6 (fun s hs => HO4.out.2 s (List.mem_filter.1 hs).1)
  obtain ⟨A6, c6, hv6, hs6⟩ := hrd.form
  have HS6 := Lib.hid hs6
  have HRL := Lib.hid (show (readyP S.L x free).length < 1000000 from Nat.lt_of_le_of_lt (Nat.le_trans (List.length_filter_le _ _) HML.out) HLL.out)
  subst hv6
  have g0 := HG6.out.c0
  have g2 := HG6.out.c2
  have g4 := HG6.out.c4
  clear ho6 hl6 ht6 hbe hb36 hrd hs6 e3 f0 f1 f2 f3 f4 f5 f6 f7 f8 f9 f10 f11
  rw [hst] at g2
  have hw : whomP S.st S.I S.L S.last k x free = ((oneP (MemP.here S.L) ((MemP.here S.L).getD 0 ByteArray.empty) free).1, (oneP (MemP.here S.L) ((MemP.here S.L).getD 0 ByteArray.empty) free).2 && true) := by unfold whomP; rw [if_neg (by omega), if_neg (by omega), if_neg (by omega), if_pos hst, decide_eq_true HFI.out]
  rw [hw] at HPP
  clear hw
  rw [HIV.out] at g4
  obtain ⟨Ai, ci, hiv2, hSI⟩ := HG6.out.items
  have hiv3 := HIV.out.symm.trans hiv2
  injection hiv3 with e1 e2 e3
  subst e1 e3
  have HIX := Lib.hid (indexI0_any 116 (fun x => decide (x.at_ = LaneP.No)) (enters_of Try.func116 (by kernel_rfl) rfl) w6 S.I (fun x W _ _ => none_fn x W) (some ⟨gi, 0, none⟩) cp hSI)
  have hgx := gidx_first hlt HFI.out
  rw [hgx] at HIX
  clear hgx
  clear hSI hiv2 e2
  go_wp2_with fail
  refine HIX.out.mono ?_
  rintro e w7 ⟨rfl, hb7⟩
  have HB7 := Lib.hid (then_below HB6.out hb7)
  have HB67 := Lib.hid hb7
  have HGG := Lib.hid (HG6.out.below hb7)
  have q3 := (Same.of_below hb7).cell P3.out
  have q5 := (Same.of_below hb7).cell P5.out
  have Q5 := Lib.hid q5
  have q0 := HGG.out.c0
  clear p3 p5 g0 g2 g4 hb7
  go_upto_region 13 with (fail)
  have d3 := fun n : Wd (Gr w7) => n.cell q3
  have d5 := fun n : Wd (Gr w7) => n.cell q5
  have d0 := fun n : Wd (Gr w7) => n.cell q0
  refine wp_region_G (n := 12) (Gr w7) rfl (by kernel_rfl) (gr_drew _) (fun hS => ?_)
  refine wpAnyG_seg (fuel := 7) [0, 1, 2, 3, 5] rfl rfl (by kernel_rfl) (fun _ _ d _ _ h => by cases d <;> exact h) hS ?_
  repeat (go_big_quiet_step (fail))
  refine wpQuiet_nil ?_
  refine wpAnyG_alone (fuel := 6) 4 (by kernel_rfl) rfl hS (fun K hK => ?_)
  obtain ⟨w7', hw7'⟩ : ∃ w7', w7' = w7.drew := ⟨_, rfl⟩
  have HG7 := Lib.hid (show Gp B w7' g ms mv iv S by rw [hw7']; exact HGG.out.below (gr_drew w7))
  have HB77 := Lib.hid (show Below w7.heap.size w7 w7' by rw [hw7']; exact gr_drew w7)
  have HHR := Lib.hid (MemW.here_any w7' ms mv S.L S.gen HG7.out.mem HLL.out)
  rw [← hw7']
  clear hw7' hS d0 d3 d5 q0 q3 q5
  go_simp
  refine HHR.out.mono ?_
  rintro e w8 ⟨⟨v8, rfl, ho8⟩, hb8⟩
  obtain ⟨A8, c8, hv8, hs8⟩ := ho8.form
  have hb78 : Below w7.heap.size w7 w8 := then_below HB77.out hb8
  have HB8 := Lib.hid hb78
  have HF8 := Lib.hid (HF6.out.below ((show Below w6.heap.size w6 w8 from by first | exact then_below (show Below w6.heap.size w6 w7 from HB67.out) hb78)))
  have HGR := Lib.hid (show ∀ u, Below w8.heap.size w8 u → Gr w7 u from fun u hu => then_below hb78 hu)
  have HB00 := Lib.hid (Below.refl w8.heap.size w8)
  have HONE := Lib.hid (one0_any 117 (enters_of Try.func117 (by kernel_rfl) rfl) w8 A8 Af c8 capf (MemP.here S.L) free (by have := here_len S.L; have := HLL.out; omega) HF8.out ((MemP.here S.L).getD 0 ByteArray.empty) (fun h0 => head_fn A8 c8 (MemP.here S.L) w8 hs8 h0))
  subst hv8
  clear ho8 hb8 hs8 hb78
  generalize oneP (MemP.here S.L) ((MemP.here S.L).getD 0 ByteArray.empty) free = r at *
  obtain ⟨r1, r2⟩ := r
  dsimp only at HPP HONE
  go_wp2_with fail
  refine hK.out (Gr w8) _ _ HGR.out HB00.out (fun hS => ?_)
  clear hK K
  refine wpAnyG_alone (fuel := 5) 6 (by kernel_rfl) rfl hS (fun K hK => ?_)
  go_simp
  refine HONE.out.mono ?_
  rintro e w9 ⟨rfl, hb9⟩
  have HE := Lib.hid (fun u (hu : Below w9.heap.size w9 u) => HPP.out u (then_below HB7.out (then_below HB8.out (then_below hb9 hu))))
  have HGR2 := Lib.hid (show ∀ u, Below w9.heap.size w9 u → Gr w8 u from fun u hu => then_below hb9 hu)
  have HB01 := Lib.hid (Below.refl w9.heap.size w9)
  clear hb9
  go_wp2_with fail
  refine hK.out (Gr w9) _ _ HGR2.out HB01.out (fun hS => ?_)
  clear hK K
  refine wpAnyG_seg (fuel := 0) [7, 8, 9, 10, 11] rfl rfl (by kernel_rfl) (fun _ _ d _ _ h => by cases d <;> exact h) hS ?_
  repeat (go_big_quiet_step (fail))
  refine wpQuiet_nil ?_
  refine wpAnyG_end (by kernel_rfl) ?_
  have HE2 := Lib.hid (HE.out _ HB01.out)
  cases r2 with
  | true =>
    rw [Bool.true_and] at HE2
    go_wp2_with fail
    exact HE2.out
  | false =>
    rw [Bool.false_and] at HE2
    go_wp2_with fail
    exact HE2.out
set_option maxRecDepth 100000 in
set_option maxHeartbeats 8000000 in
theorem whom_other (h : Gp B w g ms mv iv S) (hI : S.I.length < 1000000) (hL : S.L.length < 1000000) (hnm : ∀ m ∈ S.L, m.client.size ≤ 100) (k : Nat) (x : Tc.It) (hx : S.I[k]? = some x) (ht : x.msg.topic.size ≤ 200) (hfr : x.msg.from_.size ≤ 200) (Af : Option Addr) (capf : Nat) (free : List ByteArray) (hf : SliceIs kS w Af free) (hst : S.st = 5) (hfirst : ¬ k = firstW S.I) :
    Calls Try.prog 96 #[.pointer (some ⟨g, 0, none⟩), .int .i64 k, .slice Af free.length capf] w (fun e w' => e = .returned (.tuple #[.string (whomP S.st S.I S.L S.last k x free).1, .bool (whomP S.st S.I S.L S.last k x free).2]) ∧ Below w.heap.size w w') := by
  generalize hP : (fun (e : Ending) (w' : World) => e = .returned (.tuple #[.string (whomP S.st S.I S.L S.last k x free).1, .bool (whomP S.st S.I S.L S.last k x free).2]) ∧ Below w.heap.size w w') = PP
  have HPP := Lib.hid (show ∀ w', Below w.heap.size w w' → PP (.returned (.tuple #[.string (whomP S.st S.I S.L S.last k x free).1, .bool (whomP S.st S.I S.L S.last k x free).2])) w' from fun w' h1 => by
    rw [← hP]
    exact ⟨rfl, h1⟩)
  clear hP
  have HFI := Lib.hid hfirst
  clear hfirst
  have HH := Lib.hid h
  have HII := Lib.hid hI
  have HLL := Lib.hid hL
  have HX := Lib.hid hx
  have HT := Lib.hid ht
  have HFR := Lib.hid hfr
  have HF := Lib.hid hf
  have HSM := Lib.hid (small_may hnm x)
  have HML := Lib.hid (mayP_len S.L x)
  have hlt := (List.getElem?_eq_some_iff.1 hx).1
  have hlen := (show S.I.length ≤ 9223372036854775807 by omega)
  obtain ⟨W1, hW1⟩ : ∃ W1, W1 = w.alloc (.cells #[.pointer (some ⟨g, 0, none⟩)] 78) := ⟨_, rfl⟩
  obtain ⟨W2, hW2⟩ : ∃ W2, W2 = W1.alloc (.cells #[.slice Af free.length capf] 26) := ⟨_, rfl⟩
  have hb1 : Below w.heap.size w W1 := by rw [hW1]; exact alloc_below _ _
  have hb2 : Below W1.heap.size W1 W2 := by rw [hW2]; exact alloc_below _ _
  have hs1 : W1.heap.size = w.heap.size + 1 := by rw [hW1]; simp
  have hs2 : W2.heap.size = w.heap.size + 2 := by rw [hW2]; simp [hs1]
  have b3 : W2.cell? ⟨w.heap.size, 0, none⟩ = some (.pointer (some ⟨g, 0, none⟩)) := (Same.of_below hb2).cell (by rw [hW1]; exact cell_of (heap_alloc_new w _) rfl)
  have b5 : W2.cell? ⟨w.heap.size + 1, 0, none⟩ = some (.slice Af free.length capf) := by rw [hW2, ← hs1]; exact cell_of (heap_alloc_new W1 _) rfl
  have HB2 := Lib.hid (then_below hb1 hb2)
  have HZ2 := Lib.hid hs2
  have hG2 := HH.out.below HB2.out
  obtain ⟨gi, cp, hiv, hit⟩ := hG2.at_ hx
  obtain ⟨d0, d1, d2, d3, d4, d5, d6, d7, d8, d9, d10, d11⟩ := hit
  have HIV := Lib.hid hiv
  have g4 := hG2.c4
  rw [hiv] at g4
  obtain ⟨W3, hW3⟩ : ∃ W3, W3 = W2.alloc (.cells x.vals.toArray 45) := ⟨_, rfl⟩
  have hb3 : Below W2.heap.size W2 W3 := by rw [hW3]; exact alloc_below _ _
  have HCP := Lib.hid (show CpAt W3 (w.heap.size + 2) x by rw [hW3, ← hs2]; exact CpAt.new W2 _)
  have HB3 := Lib.hid (then_below HB2.out hb3)
  have hG3 := HH.out.below HB3.out
  have e3 := (Same.of_below hb3).cell b3
  have E3 := Lib.hid e3
  have E5 := Lib.hid ((Same.of_below hb3).cell b5)
  have f0 := HCP.out.c0
  have f1 := HCP.out.c1
  have f2 := HCP.out.c2
  have f3 := HCP.out.c3
  have f4 := HCP.out.c4
  have f5 := HCP.out.c5
  have f6 := HCP.out.c6
  have f7 := HCP.out.c7
  have f8 := HCP.out.c8
  have f9 := HCP.out.c9
  have f10 := HCP.out.c10
  have f11 := HCP.out.c11
  have HMAY := Lib.hid (may_any hG3 HLL.out x (hG3.each x (List.mem_of_getElem? hx)).led.2.2)
  unfold It.val at HMAY
  have HW2 := Lib.hid hW2
  have HW3 := Lib.hid hW3
  unfold It.vals at HW3
  rw [hW1] at HW2
  rw [hs1] at *
  clear h hI hL hnm hx ht hfr hf hb1 hb2 hW1 hW2 hG2 hiv hb3 hG3 hW3
  go_enter Try.func96, Try.ntmps96
  go_upto_region 1 with (fail)
  rw [← HW2.out]
  go_upto_region 2 with (fail)
  rw [← HW3.out]
  clear HW2 HW3 b3 b5 g4 d0 d1 d2 d3 d4 d5 d6 d7 d8 d9 d10 d11
  go_wp2_with fail
  refine HMAY.out.mono ?_
  rintro e w4 ⟨⟨v4, rfl, ho4⟩, hb4⟩
  obtain ⟨A4, c4, hv4, hs4⟩ := ho4.form
  have HCL := Lib.hid (cloneS_any w4 A4 c4 (mayP S.L x) (rd_texts hs4) (Nat.lt_of_le_of_lt HML.out HLL.out))
  have HO4 := Lib.hid ho4
  have HB4 := Lib.hid hb4
  have HS4 := Lib.hid hs4
  subst hv4
  clear ho4 hb4 hs4
  go_wp2_with fail
  refine HCL.out.mono ?_
  rintro e w5 ⟨⟨v5, rfl, ho5, hn5⟩, hb5⟩
  have HN5 := Lib.hid hn5
  have HB5 := Lib.hid hb5
  have HD := Lib.hid (deleteS_any 110 (w.heap.size + 1) (fun s => !PickP.has free s) (enters_of Try.func110 (by kernel_rfl) rfl) w5 v5 (mayP S.L x) ho5 (Nat.lt_of_le_of_lt HML.out HLL.out) HO4.out.2 (fun s W hs hT => by
    have h2 := HB4.out.size
    have h3 := HB5.out.size
    have h4 := HB3.out.size
    have hlt : ∀ k, k < W3.heap.size → W.heap[k]? = W3.heap[k]? := fun k hk => by
      refine (hT.block k (by omega) (fun hm => ?_)).trans ((HB5.out.block k (by omega)).trans (HB4.out.block k hk))
      have := HN5.out k (by simpa using hm)
      omega
    refine free_fn (w.heap.size + 1) s Af capf free W ?_ ?_
    · exact cell_stay (hlt _ (lt_of_block_cell E5.out)) E5.out
    · refine sls_kept (HF.out.below HB3.out) (fun ad hA hn hk => hlt _ hk) ?_
      have := hT.size
      omega))
  clear ho5 hn5 hb5
  go_wp2_with fail
  refine HD.out.mono ?_
  rintro e w6 ⟨⟨v6, rfl, ho6, hl6⟩, ht6⟩
  rw [readyP_eq] at ho6
  have hbe : Below w4.heap.size w4 w6 := (show Newer w4 v5 from HN5.out).below HB5.out ht6
  have hb36 : Below W3.heap.size W3 w6 := HB4.out.trans (hbe.mono HB4.out.size)
  have HB6 := Lib.hid (HB3.out.trans (hb36.mono HB3.out.size))
  have HG6 := Lib.hid (HH.out.below HB6.out)
  have p3 := (Same.of_below hb36).cell E3.out
  have p5 := (Same.of_below hb36).cell E5.out
  have P3 := Lib.hid p3
  have P5 := Lib.hid p5
  have HC6 := Lib.hid ((Same.of_below hb36).cell HCP.out.c5)
  have HF6 := Lib.hid (HF.out.below HB6.out)
  have HM6 := Lib.hid (HS4.out.below hbe)
  have hrd := owns_of ho6 (fun s hs => HO4.out.2 s (List.mem_filter.1 hs).1)
  obtain ⟨A6, c6, hv6, hs6⟩ := hrd.form
  have HS6 := Lib.hid hs6
  have HRL := Lib.hid (show (readyP S.L x free).length < 1000000 from Nat.lt_of_le_of_lt (Nat.le_trans (List.length_filter_le _ _) HML.out) HLL.out)
  subst hv6
  have g0 := HG6.out.c0
  have g2 := HG6.out.c2
  have g4 := HG6.out.c4
  clear ho6 hl6 ht6 hbe hb36 hrd hs6 e3 f0 f1 f2 f3 f4 f5 f6 f7 f8 f9 f10 f11
  rw [hst] at g2
  have hw : whomP S.st S.I S.L S.last k x free = ((oneP (MemP.here S.L) ((MemP.here S.L).getD 0 ByteArray.empty) free).1, (oneP (MemP.here S.L) ((MemP.here S.L).getD 0 ByteArray.empty) free).2 && false) := by unfold whomP; rw [if_neg (by omega), if_neg (by omega), if_neg (by omega), if_pos hst, decide_eq_false HFI.out]
  rw [hw] at HPP
  clear hw
  rw [HIV.out] at g4
  obtain ⟨Ai, ci, hiv2, hSI⟩ := HG6.out.items
  have hiv3 := HIV.out.symm.trans hiv2
  injection hiv3 with e1 e2 e3
  subst e1 e3
  have HIX := Lib.hid (indexI0_any 116 (fun x => decide (x.at_ = LaneP.No)) (enters_of Try.func116 (by kernel_rfl) rfl) w6 S.I (fun x W _ _ => none_fn x W) (some ⟨gi, 0, none⟩) cp hSI)
  have hgx := gidx_other hlt HFI.out
  generalize gidx S.I (fun x => decide (x.at_ = LaneP.No)) = gx at *
  have hkx : ((k : Int) == gx) = false := beq_eq_false_iff_ne.2 hgx
  clear hSI hiv2 e2
  go_wp2_with fail
  refine HIX.out.mono ?_
  rintro e w7 ⟨rfl, hb7⟩
  have HB7 := Lib.hid (then_below HB6.out hb7)
  have HB67 := Lib.hid hb7
  have HGG := Lib.hid (HG6.out.below hb7)
  have q3 := (Same.of_below hb7).cell P3.out
  have q5 := (Same.of_below hb7).cell P5.out
  have Q5 := Lib.hid q5
  have q0 := HGG.out.c0
  clear p3 p5 g0 g2 g4 hb7
  go_upto_region 13 with (fail)
  have d3 := fun n : Wd (Gr w7) => n.cell q3
  have d5 := fun n : Wd (Gr w7) => n.cell q5
  have d0 := fun n : Wd (Gr w7) => n.cell q0
  refine wp_region_G (n := 12) (Gr w7) rfl (by kernel_rfl) (gr_drew _) (fun hS => ?_)
  refine wpAnyG_seg (fuel := 7) [0, 1, 2, 3, 5] rfl rfl (by kernel_rfl) (fun _ _ d _ _ h => by cases d <;> exact h) hS ?_
  repeat (go_big_quiet_step (fail))
  refine wpQuiet_nil ?_
  refine wpAnyG_alone (fuel := 6) 4 (by kernel_rfl) rfl hS (fun K hK => ?_)
  obtain ⟨w7', hw7'⟩ : ∃ w7', w7' = w7.drew := ⟨_, rfl⟩
  have HG7 := Lib.hid (show Gp B w7' g ms mv iv S by rw [hw7']; exact HGG.out.below (gr_drew w7))
  have HB77 := Lib.hid (show Below w7.heap.size w7 w7' by rw [hw7']; exact gr_drew w7)
  have HHR := Lib.hid (MemW.here_any w7' ms mv S.L S.gen HG7.out.mem HLL.out)
  rw [← hw7']
  clear hw7' hS d0 d3 d5 q0 q3 q5
  go_simp
  refine HHR.out.mono ?_
  rintro e w8 ⟨⟨v8, rfl, ho8⟩, hb8⟩
  obtain ⟨A8, c8, hv8, hs8⟩ := ho8.form
  have hb78 : Below w7.heap.size w7 w8 := then_below HB77.out hb8
  have HB8 := Lib.hid hb78
  have HF8 := Lib.hid (HF6.out.below ((show Below w6.heap.size w6 w8 from by first | exact then_below (show Below w6.heap.size w6 w7 from HB67.out) hb78)))
  have HGR := Lib.hid (show ∀ u, Below w8.heap.size w8 u → Gr w7 u from fun u hu => then_below hb78 hu)
  have HB00 := Lib.hid (Below.refl w8.heap.size w8)
  have HONE := Lib.hid (one0_any 117 (enters_of Try.func117 (by kernel_rfl) rfl) w8 A8 Af c8 capf (MemP.here S.L) free (by have := here_len S.L; have := HLL.out; omega) HF8.out ((MemP.here S.L).getD 0 ByteArray.empty) (fun h0 => head_fn A8 c8 (MemP.here S.L) w8 hs8 h0))
  subst hv8
  clear ho8 hb8 hs8 hb78
  generalize oneP (MemP.here S.L) ((MemP.here S.L).getD 0 ByteArray.empty) free = r at *
  obtain ⟨r1, r2⟩ := r
  dsimp only at HPP HONE
  go_wp2_with fail
  refine hK.out (Gr w8) _ _ HGR.out HB00.out (fun hS => ?_)
  clear hK K
  refine wpAnyG_alone (fuel := 5) 6 (by kernel_rfl) rfl hS (fun K hK => ?_)
  go_simp
  refine HONE.out.mono ?_
  rintro e w9 ⟨rfl, hb9⟩
  have HE := Lib.hid (fun u (hu : Below w9.heap.size w9 u) => HPP.out u (then_below HB7.out (then_below HB8.out (then_below hb9 hu))))
  have HGR2 := Lib.hid (show ∀ u, Below w9.heap.size w9 u → Gr w8 u from fun u hu => then_below hb9 hu)
  have HB01 := Lib.hid (Below.refl w9.heap.size w9)
  clear hb9
  go_wp2_with fail
  refine hK.out (Gr w9) _ _ HGR2.out HB01.out (fun hS => ?_)
  clear hK K
  refine wpAnyG_seg (fuel := 0) [7, 8, 9, 10, 11] rfl rfl (by kernel_rfl) (fun _ _ d _ _ h => by cases d <;> exact h) hS ?_
  repeat (go_big_quiet_step (fail))
  refine wpQuiet_nil ?_
  refine wpAnyG_end (by kernel_rfl) ?_
  have HE2 := Lib.hid (HE.out _ HB01.out)
  cases r2 with
  | true =>
    rw [Bool.true_and] at HE2
    go_wp2_with fail
    exact HE2.out
  | false =>
    rw [Bool.false_and] at HE2
    go_wp2_with fail
    exact HE2.out
set_option maxRecDepth 100000 in
set_option maxHeartbeats 8000000 in
theorem whom_turn (h : Gp B w g ms mv iv S) (hI : S.I.length < 1000000) (hL : S.L.length < 1000000) (hnm : ∀ m ∈ S.L, m.client.size ≤ 100) (k : Nat) (x : Tc.It) (hx : S.I[k]? = some x) (ht : x.msg.topic.size ≤ 200) (hfr : x.msg.from_.size ≤ 200) (Af : Option Addr) (capf : Nat) (free : List ByteArray) (hf : SliceIs kS w Af free) (n2 : ¬ S.st = 2) (n3 : ¬ S.st = 3) (n4 : ¬ S.st = 4) (n5 : ¬ S.st = 5) :
    Calls Try.prog 96 #[.pointer (some ⟨g, 0, none⟩), .int .i64 k, .slice Af free.length capf] w (fun e w' => e = .returned (.tuple #[.string (whomP S.st S.I S.L S.last k x free).1, .bool (whomP S.st S.I S.L S.last k x free).2]) ∧ Below w.heap.size w w') := by
  generalize hP : (fun (e : Ending) (w' : World) => e = .returned (.tuple #[.string (whomP S.st S.I S.L S.last k x free).1, .bool (whomP S.st S.I S.L S.last k x free).2]) ∧ Below w.heap.size w w') = PP
  have HPP := Lib.hid (show ∀ w', Below w.heap.size w w' → PP (.returned (.tuple #[.string (whomP S.st S.I S.L S.last k x free).1, .bool (whomP S.st S.I S.L S.last k x free).2])) w' from fun w' h1 => by
    rw [← hP]
    exact ⟨rfl, h1⟩)
  clear hP
  have HH := Lib.hid h
  have HII := Lib.hid hI
  have HLL := Lib.hid hL
  have HX := Lib.hid hx
  have HT := Lib.hid ht
  have HFR := Lib.hid hfr
  have HF := Lib.hid hf
  have HSM := Lib.hid (small_may hnm x)
  have HML := Lib.hid (mayP_len S.L x)
  have hlt := (List.getElem?_eq_some_iff.1 hx).1
  have hlen := (show S.I.length ≤ 9223372036854775807 by omega)
  obtain ⟨W1, hW1⟩ : ∃ W1, W1 = w.alloc (.cells #[.pointer (some ⟨g, 0, none⟩)] 78) := ⟨_, rfl⟩
  obtain ⟨W2, hW2⟩ : ∃ W2, W2 = W1.alloc (.cells #[.slice Af free.length capf] 26) := ⟨_, rfl⟩
  have hb1 : Below w.heap.size w W1 := by rw [hW1]; exact alloc_below _ _
  have hb2 : Below W1.heap.size W1 W2 := by rw [hW2]; exact alloc_below _ _
  have hs1 : W1.heap.size = w.heap.size + 1 := by rw [hW1]; simp
  have hs2 : W2.heap.size = w.heap.size + 2 := by rw [hW2]; simp [hs1]
  have b3 : W2.cell? ⟨w.heap.size, 0, none⟩ = some (.pointer (some ⟨g, 0, none⟩)) := (Same.of_below hb2).cell (by rw [hW1]; exact cell_of (heap_alloc_new w _) rfl)
  have b5 : W2.cell? ⟨w.heap.size + 1, 0, none⟩ = some (.slice Af free.length capf) := by rw [hW2, ← hs1]; exact cell_of (heap_alloc_new W1 _) rfl
  have HB2 := Lib.hid (then_below hb1 hb2)
  have HZ2 := Lib.hid hs2
  have hG2 := HH.out.below HB2.out
  obtain ⟨gi, cp, hiv, hit⟩ := hG2.at_ hx
  obtain ⟨d0, d1, d2, d3, d4, d5, d6, d7, d8, d9, d10, d11⟩ := hit
  have HIV := Lib.hid hiv
  have g4 := hG2.c4
  rw [hiv] at g4
  obtain ⟨W3, hW3⟩ : ∃ W3, W3 = W2.alloc (.cells x.vals.toArray 45) := ⟨_, rfl⟩
  have hb3 : Below W2.heap.size W2 W3 := by rw [hW3]; exact alloc_below _ _
  have HCP := Lib.hid (show CpAt W3 (w.heap.size + 2) x by rw [hW3, ← hs2]; exact CpAt.new W2 _)
  have HB3 := Lib.hid (then_below HB2.out hb3)
  have hG3 := HH.out.below HB3.out
  have e3 := (Same.of_below hb3).cell b3
  have E3 := Lib.hid e3
  have E5 := Lib.hid ((Same.of_below hb3).cell b5)
  have f0 := HCP.out.c0
  have f1 := HCP.out.c1
  have f2 := HCP.out.c2
  have f3 := HCP.out.c3
  have f4 := HCP.out.c4
  have f5 := HCP.out.c5
  have f6 := HCP.out.c6
  have f7 := HCP.out.c7
  have f8 := HCP.out.c8
  have f9 := HCP.out.c9
  have f10 := HCP.out.c10
  have f11 := HCP.out.c11
  have HMAY := Lib.hid (may_any hG3 HLL.out x (hG3.each x (List.mem_of_getElem? hx)).led.2.2)
  unfold It.val at HMAY
  have HW2 := Lib.hid hW2
  have HW3 := Lib.hid hW3
  unfold It.vals at HW3
  rw [hW1] at HW2
  rw [hs1] at *
  clear h hI hL hnm hx ht hfr hf hb1 hb2 hW1 hW2 hG2 hiv hb3 hG3 hW3
  go_enter Try.func96, Try.ntmps96
  go_upto_region 1 with (fail)
  rw [← HW2.out]
  go_upto_region 2 with (fail)
  rw [← HW3.out]
  clear HW2 HW3 b3 b5 g4 d0 d1 d2 d3 d4 d5 d6 d7 d8 d9 d10 d11
  go_wp2_with fail
  refine HMAY.out.mono ?_
  rintro e w4 ⟨⟨v4, rfl, ho4⟩, hb4⟩
  obtain ⟨A4, c4, hv4, hs4⟩ := ho4.form
  have HCL := Lib.hid (cloneS_any w4 A4 c4 (mayP S.L x) (rd_texts hs4) (Nat.lt_of_le_of_lt HML.out HLL.out))
  have HO4 := Lib.hid ho4
  have HB4 := Lib.hid hb4
  have HS4 := Lib.hid hs4
  subst hv4
  clear ho4 hb4 hs4
  go_wp2_with fail
  refine HCL.out.mono ?_
  rintro e w5 ⟨⟨v5, rfl, ho5, hn5⟩, hb5⟩
  have HN5 := Lib.hid hn5
  have HB5 := Lib.hid hb5
  have HD := Lib.hid (deleteS_any 110 (w.heap.size + 1) (fun s => !PickP.has free s) (enters_of Try.func110 (by kernel_rfl) rfl) w5 v5 (mayP S.L x) ho5 (Nat.lt_of_le_of_lt HML.out HLL.out) HO4.out.2 (fun s W hs hT => by
    have h2 := HB4.out.size
    have h3 := HB5.out.size
    have h4 := HB3.out.size
    have hlt : ∀ k, k < W3.heap.size → W.heap[k]? = W3.heap[k]? := fun k hk => by
      refine (hT.block k (by omega) (fun hm => ?_)).trans ((HB5.out.block k (by omega)).trans (HB4.out.block k hk))
      have := HN5.out k (by simpa using hm)
      omega
    refine free_fn (w.heap.size + 1) s Af capf free W ?_ ?_
    · exact cell_stay (hlt _ (lt_of_block_cell E5.out)) E5.out
    · refine sls_kept (HF.out.below HB3.out) (fun ad hA hn hk => hlt _ hk) ?_
      have := hT.size
      omega))
  clear ho5 hn5 hb5
  go_wp2_with fail
  refine HD.out.mono ?_
  rintro e w6 ⟨⟨v6, rfl, ho6, hl6⟩, ht6⟩
  rw [readyP_eq] at ho6
  have hbe : Below w4.heap.size w4 w6 := (show Newer w4 v5 from HN5.out).below HB5.out ht6
  have hb36 : Below W3.heap.size W3 w6 := HB4.out.trans (hbe.mono HB4.out.size)
  have HB6 := Lib.hid (HB3.out.trans (hb36.mono HB3.out.size))
  have HG6 := Lib.hid (HH.out.below HB6.out)
  have p3 := (Same.of_below hb36).cell E3.out
  have p5 := (Same.of_below hb36).cell E5.out
  have P3 := Lib.hid p3
  have P5 := Lib.hid p5
  have HC6 := Lib.hid ((Same.of_below hb36).cell HCP.out.c5)
  have HF6 := Lib.hid (HF.out.below HB6.out)
  have HM6 := Lib.hid (HS4.out.below hbe)
  have hrd := owns_of ho6 (fun s hs => HO4.out.2 s (List.mem_filter.1 hs).1)
  obtain ⟨A6, c6, hv6, hs6⟩ := hrd.form
  have HS6 := Lib.hid hs6
  have HRL := Lib.hid (show (readyP S.L x free).length < 1000000 from Nat.lt_of_le_of_lt (Nat.le_trans (List.length_filter_le _ _) HML.out) HLL.out)
  subst hv6
  have g0 := HG6.out.c0
  have g2 := HG6.out.c2
  have g4 := HG6.out.c4
  clear ho6 hl6 ht6 hbe hb36 hrd hs6 e3 f0 f1 f2 f3 f4 f5 f6 f7 f8 f9 f10 f11
  have hw : whomP S.st S.I S.L S.last k x free = oneP (readyP S.L x free) (PickP.robin (S.L.map MemP.Mem.client) (readyP S.L x free) S.last) free := by unfold whomP; rw [if_neg n2, if_neg n3, if_neg n4, if_neg n5]
  rw [hw] at HPP
  clear hw
  generalize hst : S.st = st at *
  obtain ⟨W7, hW7⟩ : ∃ W7, W7 = w6.alloc (.cells #[.slice none 0 0] 26) := ⟨_, rfl⟩
  have hb7 : Below w6.heap.size w6 W7 := by rw [hW7]; exact alloc_below _ _
  have hz7 : W7.heap[w6.heap.size]? = some (.cells #[.slice none 0 0] 26 (0, 0)) := by rw [hW7]; exact heap_alloc_new w6 _
  have HG7 := Lib.hid (HG6.out.below hb7)
  have HALL := Lib.hid (MemW.all_any W7 ms mv S.L S.gen HG7.out.mem HLL.out)
  have HZ7 := Lib.hid hz7
  have HB7 := Lib.hid hb7
  have HW7 := Lib.hid hW7
  have q0 := HG7.out.c0
  have q3 := (Same.of_below hb7).cell P3.out
  clear hW7 hb7 hz7
  go_upto_region 16 with (fail)
  rw [← HW7.out]
  clear HW7 p3 p5 g0 g2 g4
  go_wp2_with fail
  refine HALL.out.mono ?_
  rintro e w8 ⟨⟨v8, rfl, hr8⟩, hb8⟩
  obtain ⟨A8, c8, hv8, hs8⟩ := hr8.form
  subst hv8
  have HR8 := Lib.hid hr8
  have HB8 := Lib.hid hb8
  have hz8 := (hb8.block w6.heap.size (lt_of_block HZ7.out)).trans HZ7.out
  have HZ8 := Lib.hid hz8
  have HLEN := Lib.hid hs8.len
  have hlen8 := hs8.len
  unfold maxLen at hlen8
  clear hr8 hb8 hs8 q0 q3
  go_wp2_with fail
  go_loopw [90] (fun y wr => ∃ (k : Nat) (v : Value), k ≤ S.L.length ∧ y = .int .i64 k ∧ wr.heap[w6.heap.size]? = some (.cells #[v] 26 (0, 0)) ∧ OwnS wr v ((S.L.take k).map MemP.Mem.client) ∧ Newer w8 v ∧ Tch [w6.heap.size] w8 wr) (fun y _ => S.L.length - (intOf y).toNat)
  case atStart => exact ⟨0, .slice none 0 0, by omega, rfl, HZ8.out, ⟨own_nil _ 9 1, by simp⟩, Newer.nil _, Tch.refl _ _⟩
  case round =>
    obtain ⟨k, v, hk, rfl, hbx, hO, hN, hT⟩ := hrel
    have HBX := Lib.hid hbx
    have HO := Lib.hid hO
    have HN := Lib.hid hN
    have HTT := Lib.hid hT
    have hne8 := own_type_ne HR8.out.own HZ8.out (by decide)
    have hrow := HR8.out.kept hT (fun g hg hm => hne8 g hg (by simpa using hm))
    clear hbx hO hN hT hne8
    by_cases hlt : k < S.L.length
    · obtain ⟨m, hm⟩ : ∃ m, S.L[k]? = some m := ⟨_, List.getElem?_eq_getElem hlt⟩
      have hnames : (S.L.take (k + 1)).map MemP.Mem.client = (S.L.take k).map MemP.Mem.client ++ [m.client] := by
        obtain ⟨hk', rfl⟩ := List.getElem?_eq_some_iff.1 hm
        rw [List.take_succ_eq_append_getElem hk', List.map_append]
        rfl
      obtain ⟨A', c', hv', hs'⟩ := hrow.form
      injection hv' with e1 e2 e3
      subst e1 e3
      obtain ⟨b, off, rfl, hb, m0, m1, m2, m3, hw⟩ := MemW.mem_cells hs' hm
      obtain ⟨wB, hwB⟩ : ∃ wB, wB = wr.alloc (.cells #[.string m.client, .int .i64 m.since, .int .i64 m.qos, .bool m.online] 66) := ⟨_, rfl⟩
      have hbB : Below wr.heap.size wr wB := by rw [hwB]; exact alloc_below _ _
      have y0 : wB.cell? ⟨wr.heap.size, 0, none⟩ = some (.string m.client) := by rw [hwB]; exact cell_of (heap_alloc_new wr _) rfl
      have hbxB := (hbB.block w6.heap.size (lt_of_block HBX.out)).trans HBX.out
      have yb := cell_of (o := 0) hbxB rfl
      have hll : ((S.L.take k).map MemP.Mem.client).length < 1000000 := by rw [List.length_map, List.length_take]; have := HLL.out; omega
      obtain ⟨v', w9, hr, ho', ht', hl'⟩ := (HO.out.below hbB).snoc hll m.client hw.1
      have hvne : ∀ j, v.ownBlock = some j → j ≠ w6.heap.size := fun j hj => by
        have h1 := HN.out j hj
        have h2 := lt_of_block HZ8.out
        omega
      have hz9 := (ht'.block w6.heap.size (lt_of_block hbxB) (fun hm => hvne _ (by simpa using hm) rfl)).trans hbxB
      have y9 := cell_of (o := 0) hz9 rfl
      have fz := free_of hz9 0
      have hset := set_of hz9 0 v'
      have HSET := Lib.hid (show (w9.setCell ⟨w6.heap.size, 0, none⟩ v').heap[w6.heap.size]? = some (.cells #[v'] 26 (0, 0)) by simpa using hset)
      have hTs : Tch [w6.heap.size] w9 (w9.setCell ⟨w6.heap.size, 0, none⟩ v') := (Tch.refl _ _).setCell (.inl (by simp)) _
      have hnew : Newer wB v' ∨ True := .inr trivial
      have hw8s := HTT.out.size
      have hBs := hbB.size
      have HN' := Lib.hid (show Newer w8 v' from fun j hj => by
        rcases hl' j hj with h1 | h1
        · exact HN.out j h1
        · omega)
      have hvne' : ∀ j, v'.ownBlock = some j → j ≠ w6.heap.size := fun j hj => by
        have h1 := HN'.out j hj
        have h2 := lt_of_block HZ8.out
        omega
      have HO' := Lib.hid (show OwnS (w9.setCell ⟨w6.heap.size, 0, none⟩ v') v' ((S.L.take (k + 1)).map MemP.Mem.client) by
        rw [hnames]
        exact ⟨own_kept ho'.1 hTs (fun j hj hm => hvne' j hj (by simpa using hm)), ho'.2⟩)
      have HT' := Lib.hid (show Tch [w6.heap.size] w8 (w9.setCell ⟨w6.heap.size, 0, none⟩ v') from by
        have h1 : Tch [w6.heap.size] w8 w9 := ⟨ht'.os.trans (hbB.os.trans HTT.out.os), ht'.tape.trans (hbB.tape.trans HTT.out.tape), ht'.output.trans (hbB.output.trans HTT.out.output), by have := ht'.size; omega, fun j hj hm =>
          (ht'.block j (by omega) (fun hm2 => by have := HN.out j (by simpa using hm2); omega)).trans ((hbB.block j (by omega)).trans (HTT.out.block j hj hm))⟩
        exact h1.trans hTs)
      obtain ⟨A2, c2, hv2, -⟩ := HO'.out.form
      subst hv2
      generalize (List.map MemP.Mem.client (List.take (k + 1) S.L)).length = nn at *
      have HRUN := Lib.hid hr
      have HWB := Lib.hid hwB
      clear hrow hs' hb hw hwB hbB hbxB hll hr ho' ht' hl' hvne hz9 hset hTs hnew hvne' hm hnames hw8s hBs
      go_upto_region 19 with (fail)
      rw [← HWB.out]
      clear HWB m0 m1 m2 m3
      go_wp2_with (at_builtin; refine wpList_append_eq rfl _ _ _ rfl rfl rfl HRUN.out ?_)
      go_roundw
      case rel => exact ⟨k + 1, _, by omega, by go_num, HSET.out, HO'.out, HN'.out, HT'.out⟩
      case measure => simp [intOf]; omega
    · obtain rfl : k = S.L.length := by omega
      have hO := HO.out
      rw [List.take_length] at hO
      have HB7r := Lib.hid (show Below W7.heap.size W7 W7 from Below.refl _ _)
      have HBR := Lib.hid (show Below w6.heap.size w6 wr from by
        have h1 := then_below HB7.out HB8.out
        exact ⟨HTT.out.os.trans h1.os, HTT.out.tape.trans h1.tape, HTT.out.output.trans h1.output, by have := h1.size; have := HTT.out.size; omega, fun j hj =>
          (HTT.out.block j (by have := h1.size; omega) (by simp; omega)).trans (h1.block j hj)⟩)
      obtain ⟨A9, c9, hv9, hs9⟩ := hO.form
      have yb := cell_of (o := 0) HBX.out rfl
      have r3 := (Same.of_below HBR.out).cell P3.out
      have r5 := (Same.of_below HBR.out).cell P5.out
      subst hv9
      have HONE := Lib.hid (one2_any 118 (.pointer (some ⟨w6.heap.size, 0, none⟩)) (.pointer (some ⟨w.heap.size, 0, none⟩)) (enters_of Try.func118 (by kernel_rfl) rfl) wr A6 Af c6 capf (readyP S.L x free) free (by have := HRL.out; omega) (HF6.out.below HBR.out) (PickP.robin (S.L.map MemP.Mem.client) (readyP S.L x free) S.last)
        (fun _ => turn_fn (HG6.out.below HBR.out) w6.heap.size w.heap.size A6 A9 c6 c9 (readyP S.L x free) (S.L.map MemP.Mem.client) r3 yb (HS6.out.below HBR.out) hs9 (by rw [List.length_map]; have := HLL.out; omega)))
      generalize oneP (readyP S.L x free) (PickP.robin (S.L.map MemP.Mem.client) (readyP S.L x free) S.last) free = r at *
      obtain ⟨r1, r2⟩ := r
      dsimp only at HPP HONE
      clear hrow hO hs9 r3 yb
      go_wp2_with fail
      refine HONE.out.mono ?_
      rintro e w7 ⟨rfl, hb7⟩
      have HE := Lib.hid (HPP.out w7 (then_below HB6.out (then_below HBR.out hb7)))
      clear hb7
      go_wp2_with fail
      exact HE.out
theorem whom_any (h : Gp B w g ms mv iv S) (hI : S.I.length < 1000000) (hL : S.L.length < 1000000) (hnm : ∀ m ∈ S.L, m.client.size ≤ 100) (k : Nat) (x : Tc.It) (hx : S.I[k]? = some x) (ht : x.msg.topic.size ≤ 200) (hfr : x.msg.from_.size ≤ 200) (Af : Option Addr) (capf : Nat) (free : List ByteArray) (hf : SliceIs kS w Af free) :
    Calls Try.prog 96 #[.pointer (some ⟨g, 0, none⟩), .int .i64 k, .slice Af free.length capf] w (fun e w' => e = .returned (.tuple #[.string (whomP S.st S.I S.L S.last k x free).1, .bool (whomP S.st S.I S.L S.last k x free).2]) ∧ Below w.heap.size w w') := by
  by_cases n2 : S.st = 2
  · exact whom_from h hI hL hnm k x hx ht hfr Af capf free hf n2
  by_cases n3 : S.st = 3
  · exact whom_hash h hI hL hnm k x hx ht hfr Af capf free hf n3
  by_cases n4 : S.st = 4
  · exact whom_least h hI hL hnm k x hx ht hfr Af capf free hf n4
  by_cases n5 : S.st = 5
  · by_cases hk : k = firstW S.I
    · exact whom_first h hI hL hnm k x hx ht hfr Af capf free hf n5 hk
    · exact whom_other h hI hL hnm k x hx ht hfr Af capf free hf n5 hk
  exact whom_turn h hI hL hnm k x hx ht hfr Af capf free hf n2 n3 n4 n5
end
end Go.Proofs.Ytclhgnlhejohgaa.GrpW
set_option linter.unusedVariables false
set_option linter.unusedSimpArgs false
namespace Go.Proofs.Ytclhgnlhejohgaa.GrpW
open Go.RowKit Go.Proofs.Ytclhgnlhejohgaa.Tc Go.Proofs.Ytclhgnlhejohgaa.GrpP
open Go.Proofs.Ytclhgnlhejohgaa.LaneW (OwnIt OwnI Newer copy_below info3 info45)
open Go.Proofs.Ytclhgnlhejohgaa.PickW (OwnS kS kI Small str_cell rank)

theorem put9 {w : World} {b : Nat} {a0 a1 a2 a3 a4 a5 a6 a7 a8 : Value} {t : TypeId} (h : w.heap[b]? = some (.cells #[a0, a1, a2, a3, a4, a5, a6, a7, a8] t (0, 0))) (u0 u1 u2 u3 u4 u5 u6 u7 u8 : Value) :
    ((((((((((w).setCell ⟨b, 0, none⟩ u0).setCell ⟨b, 1, none⟩ u1).setCell ⟨b, 2, none⟩ u2).setCell ⟨b, 3, none⟩ u3).setCell ⟨b, 4, none⟩ u4).setCell ⟨b, 5, none⟩ u5).setCell ⟨b, 6, none⟩ u6).setCell ⟨b, 7, none⟩ u7).setCell ⟨b, 8, none⟩ u8).heap[b]? = some (.cells #[u0, u1, u2, u3, u4, u5, u6, u7, u8] t (0, 0)) := by
  have h0 : ((w).setCell ⟨b, 0, none⟩ u0).heap[b]? = some (.cells #[u0, a1, a2, a3, a4, a5, a6, a7, a8] t (0, 0)) := set_of h 0 u0
  have h1 : (((w).setCell ⟨b, 0, none⟩ u0).setCell ⟨b, 1, none⟩ u1).heap[b]? = some (.cells #[u0, u1, a2, a3, a4, a5, a6, a7, a8] t (0, 0)) := set_of h0 1 u1
  have h2 : ((((w).setCell ⟨b, 0, none⟩ u0).setCell ⟨b, 1, none⟩ u1).setCell ⟨b, 2, none⟩ u2).heap[b]? = some (.cells #[u0, u1, u2, a3, a4, a5, a6, a7, a8] t (0, 0)) := set_of h1 2 u2
  have h3 : (((((w).setCell ⟨b, 0, none⟩ u0).setCell ⟨b, 1, none⟩ u1).setCell ⟨b, 2, none⟩ u2).setCell ⟨b, 3, none⟩ u3).heap[b]? = some (.cells #[u0, u1, u2, u3, a4, a5, a6, a7, a8] t (0, 0)) := set_of h2 3 u3
  have h4 : ((((((w).setCell ⟨b, 0, none⟩ u0).setCell ⟨b, 1, none⟩ u1).setCell ⟨b, 2, none⟩ u2).setCell ⟨b, 3, none⟩ u3).setCell ⟨b, 4, none⟩ u4).heap[b]? = some (.cells #[u0, u1, u2, u3, u4, a5, a6, a7, a8] t (0, 0)) := set_of h3 4 u4
  have h5 : (((((((w).setCell ⟨b, 0, none⟩ u0).setCell ⟨b, 1, none⟩ u1).setCell ⟨b, 2, none⟩ u2).setCell ⟨b, 3, none⟩ u3).setCell ⟨b, 4, none⟩ u4).setCell ⟨b, 5, none⟩ u5).heap[b]? = some (.cells #[u0, u1, u2, u3, u4, u5, a6, a7, a8] t (0, 0)) := set_of h4 5 u5
  have h6 : ((((((((w).setCell ⟨b, 0, none⟩ u0).setCell ⟨b, 1, none⟩ u1).setCell ⟨b, 2, none⟩ u2).setCell ⟨b, 3, none⟩ u3).setCell ⟨b, 4, none⟩ u4).setCell ⟨b, 5, none⟩ u5).setCell ⟨b, 6, none⟩ u6).heap[b]? = some (.cells #[u0, u1, u2, u3, u4, u5, u6, a7, a8] t (0, 0)) := set_of h5 6 u6
  have h7 : (((((((((w).setCell ⟨b, 0, none⟩ u0).setCell ⟨b, 1, none⟩ u1).setCell ⟨b, 2, none⟩ u2).setCell ⟨b, 3, none⟩ u3).setCell ⟨b, 4, none⟩ u4).setCell ⟨b, 5, none⟩ u5).setCell ⟨b, 6, none⟩ u6).setCell ⟨b, 7, none⟩ u7).heap[b]? = some (.cells #[u0, u1, u2, u3, u4, u5, u6, u7, a8] t (0, 0)) := set_of h6 7 u7
  have h8 : ((((((((((w).setCell ⟨b, 0, none⟩ u0).setCell ⟨b, 1, none⟩ u1).setCell ⟨b, 2, none⟩ u2).setCell ⟨b, 3, none⟩ u3).setCell ⟨b, 4, none⟩ u4).setCell ⟨b, 5, none⟩ u5).setCell ⟨b, 6, none⟩ u6).setCell ⟨b, 7, none⟩ u7).setCell ⟨b, 8, none⟩ u8).heap[b]? = some (.cells #[u0, u1, u2, u3, u4, u5, u6, u7, u8] t (0, 0)) := set_of h7 8 u8
  exact h8

theorem put9_tch (w : World) (b : Nat) (u0 u1 u2 u3 u4 u5 u6 u7 u8 : Value) : Tch [b] w ((((((((((w).setCell ⟨b, 0, none⟩ u0).setCell ⟨b, 1, none⟩ u1).setCell ⟨b, 2, none⟩ u2).setCell ⟨b, 3, none⟩ u3).setCell ⟨b, 4, none⟩ u4).setCell ⟨b, 5, none⟩ u5).setCell ⟨b, 6, none⟩ u6).setCell ⟨b, 7, none⟩ u7).setCell ⟨b, 8, none⟩ u8) :=
  (((((((((Tch.refl [b] w).setCell (p := ⟨b, 0, none⟩) (.inl (by simp)) u0).setCell (p := ⟨b, 1, none⟩) (.inl (by simp)) u1).setCell (p := ⟨b, 2, none⟩) (.inl (by simp)) u2).setCell (p := ⟨b, 3, none⟩) (.inl (by simp)) u3).setCell (p := ⟨b, 4, none⟩) (.inl (by simp)) u4).setCell (p := ⟨b, 5, none⟩) (.inl (by simp)) u5).setCell (p := ⟨b, 6, none⟩) (.inl (by simp)) u6).setCell (p := ⟨b, 7, none⟩) (.inl (by simp)) u7).setCell (p := ⟨b, 8, none⟩) (.inl (by simp)) u8
def mg0 : Tc.Mg := ⟨⟨#[]⟩, ⟨#[]⟩, 0, false, none, 0, [], ⟨#[]⟩, 0, 0, ⟨#[]⟩⟩
/-- Who is told. -/
def tellP (S : GS) (free : List ByteArray) : ByteArray × Bool := match nextN S.st S.I S.L S.last free with
  | some k => (match S.I[k]? with | some x => ((whomP S.st S.I S.L S.last k x free).1, true) | none => (ByteArray.empty, false))
  | none => (ByteArray.empty, false)
theorem tell_some {S : GS} {free : List ByteArray} {k : Nat} {x : Tc.It} (h : nextN S.st S.I S.L S.last free = some k) (hx : S.I[k]? = some x) : tellP S free = ((whomP S.st S.I S.L S.last k x free).1, true) := by
  unfold tellP
  rw [h]
  simp only [hx]
theorem tell_none {S : GS} {free : List ByteArray} (h : nextN S.st S.I S.L S.last free = none) : tellP S free = (ByteArray.empty, false) := by
  unfold tellP
  rw [h]
theorem next_first {st : Int} {I : List Tc.It} {L : List MemP.Mem} {last : ByteArray} {free : List ByteArray} {k : Nat} (hk : k < I.length) (h0 : ∀ j, j < k → okAt st I L last free j = false) (h1 : okAt st I L last free k = true) : nextN st I L last free = some k := by
  unfold nextN
  rw [List.find?_eq_some_iff_getElem]
  exact ⟨h1, k, by simpa using hk, by simp, fun j hj => by simp [h0 j hj]⟩
theorem next_never {st : Int} {I : List Tc.It} {L : List MemP.Mem} {last : ByteArray} {free : List ByteArray} (h0 : ∀ j, j < I.length → okAt st I L last free j = false) : nextN st I L last free = none := by
  unfold nextN
  rw [List.find?_eq_none]
  intro j hj
  rw [h0 j (List.mem_range.1 hj)]
  decide
def NPost (S : GS) (free : List ByteArray) (w : World) (e : Ending) (w' : World) : Prop :=
  (∃ m : Tc.Mg, e = .returned (.tuple #[m.val, .string (tellP S free).1, .bool (tellP S free).2]) ∧ ∀ (k : Nat) (x : Tc.It), nextN S.st S.I S.L S.last free = some k → S.I[k]? = some x → m.seq = x.msg.seq) ∧ Below w.heap.size w w'
section
variable {B : Nat} {w : World} {g ms : Nat} {mv iv : Value} {S : GS}
set_option maxRecDepth 100000 in
set_option maxHeartbeats 16000000 in
theorem next_any (h : Gp B w g ms mv iv S) (hI : S.I.length < 1000000) (hL : S.L.length < 1000000) (hnm : ∀ m ∈ S.L, m.client.size ≤ 100) (hsz : ∀ x ∈ S.I, x.msg.topic.size ≤ 200 ∧ x.msg.from_.size ≤ 200 ∧ x.msg.props.length < 1000000) (Af : Option Addr) (capf : Nat) (free : List ByteArray) (hf : SliceIs kS w Af free) :
    Calls Try.prog 68 #[.pointer (some ⟨g, 0, none⟩), .slice Af free.length capf] w (NPost S free w) := by
  generalize hP : NPost S free w = PP
  have HPP := Lib.hid (show ∀ (m : Tc.Mg) w', (∀ (k : Nat) (x : Tc.It), nextN S.st S.I S.L S.last free = some k → S.I[k]? = some x → m.seq = x.msg.seq) → Below w.heap.size w w' → PP (.returned (.tuple #[m.val, .string (tellP S free).1, .bool (tellP S free).2])) w' from fun m w' h1 h2 => by
    rw [← hP]
    exact ⟨⟨m, rfl, h1⟩, h2⟩)
  clear hP
  obtain ⟨W1, hW1⟩ : ∃ W1, W1 = w.alloc (.cells #[.string ⟨#[]⟩, .string ⟨#[]⟩, .int .i64 0, .bool false, .slice none 0 0, .string ⟨#[]⟩, .int .i64 0, .int .i64 0, .string ⟨#[]⟩] 43) := ⟨_, rfl⟩
  have hb1 : Below w.heap.size w W1 := by rw [hW1]; exact alloc_below _ _
  have hz1 : W1.heap[w.heap.size]? = some (.cells #[.string ⟨#[]⟩, .string ⟨#[]⟩, .int .i64 0, .bool false, .slice none 0 0, .string ⟨#[]⟩, .int .i64 0, .int .i64 0, .string ⟨#[]⟩] 43 (0, 0)) := by rw [hW1]; exact heap_alloc_new w _
  have HG1 := Lib.hid (h.below hb1)
  have HIT := Lib.hid (items_any HG1.out hI)
  have HII := Lib.hid hI
  have HLL := Lib.hid hL
  have HNM := Lib.hid hnm
  have HSZ := Lib.hid hsz
  have HF1 := Lib.hid (hf.below hb1)
  have HB1 := Lib.hid hb1
  have HZ1 := Lib.hid hz1
  have HW1 := Lib.hid hW1
  clear h hL hnm hsz hf hb1 hz1 hW1
  go_enter Try.func68, Try.ntmps68
  go_upto_region 1 with (fail)
  rw [← HW1.out]
  clear HW1
  go_wp2_with fail
  refine HIT.out.mono ?_
  rintro e w2 ⟨⟨v0, rfl, hown0, hnew0⟩, hb2⟩
  have HG2 := Lib.hid (HG1.out.below hb2)
  have HF2 := Lib.hid (HF1.out.below hb2)
  have HZ2 := Lib.hid ((hb2.block _ (lt_of_block HZ1.out)).trans HZ1.out)
  have HB2 := Lib.hid (then_below HB1.out hb2)
  obtain ⟨A0, c0, rfl, hS0⟩ := (show OwnIt w2 w2 v0 S.I from ⟨hown0, fun z hz => (HG2.out.each z hz).led⟩).form (Below.refl _ _)
  have hlen := hS0.len
  unfold maxLen at hlen
  have HS := Lib.hid hS0
  clear hown0 hnew0 hb2 hS0 hI
  go_wp2_with fail
  go_loopw [14] (fun y wr => ∃ k : Nat, k ≤ S.I.length ∧ y = .int .i64 k ∧ Below w2.heap.size w2 wr ∧ ∀ j, j < k → okAt S.st S.I S.L S.last free j = false) (fun y _ => S.I.length - (intOf y).toNat)
  case atStart => exact ⟨0, by omega, rfl, Below.refl _ _, fun j hj => by omega⟩
  case round =>
    obtain ⟨k, hk, rfl, hB, hNO⟩ := hrel
    have HB := Lib.hid hB
    have HNO := Lib.hid hNO
    clear hNO
    by_cases hlt : k < S.I.length
    · obtain ⟨x, hx⟩ : ∃ x, S.I[k]? = some x := ⟨_, List.getElem?_eq_getElem hlt⟩
      obtain ⟨b, off, hA, hb, ⟨c0, c1, c2, c3, c4, c5, c6, c7, c8, c9, c10, c11⟩, -, -, -⟩ := item_cells (HS.out.below hB) hx
      have HLED := Lib.hid (HG2.out.each x (List.mem_of_getElem? hx))
      have HXZ := Lib.hid (HSZ.out x (List.mem_of_getElem? hx))
      subst hA
      obtain ⟨wB, hwB⟩ : ∃ wB, wB = wr.alloc (.cells x.vals.toArray 45) := ⟨_, rfl⟩
      have hcp : CpAt wB wr.heap.size x := by rw [hwB]; exact CpAt.new wr _
      have hzB : wB.heap[wr.heap.size]? = some (.cells x.vals.toArray 45 (0, 0)) := by rw [hwB]; exact heap_alloc_new wr _
      have hsB : wB.heap.size = wr.heap.size + 1 := by rw [hwB]; simp
      have hbB : Below wr.heap.size wr wB := by rw [hwB]; exact alloc_below _ _
      have hbBB := then_below hB hbB
      have HBB := Lib.hid hbBB
      have HSB := Lib.hid hsB
      have HZB := Lib.hid hzB
      have HWB := Lib.hid hwB
      have HCP := Lib.hid hcp
      have HX := Lib.hid hx
      have HKS := Lib.hid hlt
      unfold It.vals at HWB HZB
      by_cases ha : x.at_ = ByteArray.empty
      · have HWH := Lib.hid (whom_any (HG2.out.below hbBB) HII.out HLL.out HNM.out k x hx HXZ.out.1 HXZ.out.2.1 Af capf free (HF2.out.below hbBB))
        have HOK := Lib.hid (show okAt S.st S.I S.L S.last free k = (whomP S.st S.I S.L S.last k x free).2 by
          unfold okAt
          rw [hx]
          simp [ha])
        have HTL := Lib.hid (fun hn => tell_some (S := S) (free := free) (k := k) hn hx)
        have HA := Lib.hid ha
        generalize whomP S.st S.I S.L S.last k x free = r at *
        obtain ⟨s, ok⟩ := r
        dsimp only at HWH HOK HTL
        clear hb hB hwB hcp hzB hbB hbBB hsB hx ha
        obtain ⟨e0, e1, e2, e3, e4, e5, e6, e7, e8, e9, e10, e11⟩ := HCP.out
        rw [HA.out] at e9
        go_upto_region 4 with (fail)
        rw [← HWB.out]
        clear HWB c0 c1 c2 c3 c4 c5 c6 c7 c8 c9 c10 c11
        go_wp2_with fail
        refine HWH.out.mono ?_
        rintro e w5 ⟨rfl, hb5⟩
        cases ok with
        | false =>
          have HB5 := Lib.hid (then_below HBB.out hb5)
          clear hb5 e0 e1 e2 e3 e4 e5 e6 e7 e8 e9 e10 e11
          go_wp2_with fail
          go_roundw
          case rel => exact ⟨k + 1, by omega, by go_num, HB5.out, fun j hj => by
            by_cases hjk : j < k
            · exact HNO.out j hjk
            · obtain rfl : j = k := by omega
              exact HOK.out⟩
          case measure => simp [intOf]; omega
        | true =>
          have HNX := Lib.hid (next_first HKS.out HNO.out HOK.out)
          have HTE := Lib.hid (HTL.out HNX.out)
          have HSEQ := Lib.hid (show ∀ (k' : Nat) (x' : Tc.It), nextN S.st S.I S.L S.last free = some k' → S.I[k']? = some x' → x.msg.seq = x'.msg.seq from fun k' x' hn hx' => by
            have h1 := HNX.out.symm.trans hn
            injection h1 with h1
            rw [← h1] at hx'
            have h2 := HX.out.symm.trans hx'
            injection h2 with h2
            rw [h2])
          have hz5 := (hb5.block wr.heap.size (lt_of_block HZB.out)).trans HZB.out
          have HZ5 := Lib.hid hz5
          have HB5 := Lib.hid (then_below HBB.out hb5)
          have HB5' := Lib.hid hb5
          have HCL := Lib.hid (cloneP_any w5 x.msg.pA x.msg.pc x.msg.props (rd_props (((HLED.out.below HBB.out).led.2.1).below hb5)) HXZ.out.2.2)
          clear hb5 hz5 e0 e1 e2 e3 e4 e5 e6 e7 e8 e9 e10 e11
          have x0 : w5.cell? ⟨wr.heap.size, 0, none⟩ = some (.string x.msg.topic) := cell_of HZ5.out rfl
          have x1 : w5.cell? ⟨wr.heap.size, 1, none⟩ = some (.string x.msg.payload) := cell_of HZ5.out rfl
          have x2 : w5.cell? ⟨wr.heap.size, 2, none⟩ = some (.int .i64 x.msg.qos) := cell_of HZ5.out rfl
          have x3 : w5.cell? ⟨wr.heap.size, 3, none⟩ = some (.bool x.msg.retain) := cell_of HZ5.out rfl
          have x4 : w5.cell? ⟨wr.heap.size, 4, none⟩ = some (.slice x.msg.pA x.msg.props.length x.msg.pc) := cell_of HZ5.out rfl
          have x5 : w5.cell? ⟨wr.heap.size, 5, none⟩ = some (.string x.msg.from_) := cell_of HZ5.out rfl
          have x6 : w5.cell? ⟨wr.heap.size, 6, none⟩ = some (.int .i64 x.msg.until_) := cell_of HZ5.out rfl
          have x7 : w5.cell? ⟨wr.heap.size, 7, none⟩ = some (.int .i64 x.msg.seq) := cell_of HZ5.out rfl
          have x8 : w5.cell? ⟨wr.heap.size, 8, none⟩ = some (.string x.msg.group) := cell_of HZ5.out rfl
          have x9 : w5.cell? ⟨wr.heap.size, 9, none⟩ = some (.string x.at_) := cell_of HZ5.out rfl
          have x10 : w5.cell? ⟨wr.heap.size, 10, none⟩ = some (.slice x.bA x.behind.length x.bc) := cell_of HZ5.out rfl
          have x11 : w5.cell? ⟨wr.heap.size, 11, none⟩ = some (.bool x.again) := cell_of HZ5.out rfl
          go_wp2_with fail
          refine HCL.out.mono ?_
          rintro e w6 ⟨⟨v, rfl, hR, hN⟩, hb⟩
          obtain ⟨A1, cA, hv1⟩ := own_form hR
          subst hv1
          have hz6 := (hb.block _ (lt_of_block HZ5.out)).trans HZ5.out
          have hb6 := then_below HB5.out hb
          have x4' : w6.cell? ⟨wr.heap.size, 4, none⟩ = some (.slice x.msg.pA x.msg.props.length x.msg.pc) := cell_of hz6 rfl
          have xf := free_of hz6 4
          have hz7 : (w6.setCell ⟨wr.heap.size, 4, none⟩ (.slice A1 x.msg.props.length cA)).heap[wr.heap.size]? = some (.cells #[.string x.msg.topic, .string x.msg.payload, .int .i64 x.msg.qos, .bool x.msg.retain, .slice A1 x.msg.props.length cA, .string x.msg.from_, .int .i64 x.msg.until_, .int .i64 x.msg.seq, .string x.msg.group, .string x.at_, .slice x.bA x.behind.length x.bc, .bool x.again] 45 (0, 0)) := set_of hz6 4 _
          obtain ⟨wA, hwA⟩ : ∃ wA, wA = w6.setCell ⟨wr.heap.size, 4, none⟩ (.slice A1 x.msg.props.length cA) := ⟨_, rfl⟩
          have hbA : Below w2.heap.size w2 wA := by
            rw [hwA]
            exact (((Tch.of_below (S := []) hb6).setCell (p := ⟨wr.heap.size, 4, none⟩) (.inr (HB.out.size)) _).below (Nat.le_refl _) (by simp))
          rw [← hwA] at hz7
          have HXA := Lib.hid hz7
          have HBA := Lib.hid (then_below HB2.out hbA)
          have HZA := Lib.hid ((hbA.block _ (lt_of_block HZ2.out)).trans HZ2.out)
          have HWA' := Lib.hid hwA.symm
          clear hR hN hb hz6 hb6 hz7 hbA hwA x0 x1 x2 x3 x4 x5 x6 x7 x8 x9 x10 x11
          have y0 : wA.cell? ⟨wr.heap.size, 0, none⟩ = some (.string x.msg.topic) := cell_of HXA.out rfl
          have y1 : wA.cell? ⟨wr.heap.size, 1, none⟩ = some (.string x.msg.payload) := cell_of HXA.out rfl
          have y2 : wA.cell? ⟨wr.heap.size, 2, none⟩ = some (.int .i64 x.msg.qos) := cell_of HXA.out rfl
          have y3 : wA.cell? ⟨wr.heap.size, 3, none⟩ = some (.bool x.msg.retain) := cell_of HXA.out rfl
          have y4 : wA.cell? ⟨wr.heap.size, 4, none⟩ = some (.slice A1 x.msg.props.length cA) := cell_of HXA.out rfl
          have y5 : wA.cell? ⟨wr.heap.size, 5, none⟩ = some (.string x.msg.from_) := cell_of HXA.out rfl
          have y6 : wA.cell? ⟨wr.heap.size, 6, none⟩ = some (.int .i64 x.msg.until_) := cell_of HXA.out rfl
          have y7 : wA.cell? ⟨wr.heap.size, 7, none⟩ = some (.int .i64 x.msg.seq) := cell_of HXA.out rfl
          have y8 : wA.cell? ⟨wr.heap.size, 8, none⟩ = some (.string x.msg.group) := cell_of HXA.out rfl
          have c0 : wA.cell? ⟨w.heap.size, 0, none⟩ = some (.string ⟨#[]⟩) := cell_of HZA.out rfl
          have c1 : wA.cell? ⟨w.heap.size, 1, none⟩ = some (.string ⟨#[]⟩) := cell_of HZA.out rfl
          have c2 : wA.cell? ⟨w.heap.size, 2, none⟩ = some (.int .i64 0) := cell_of HZA.out rfl
          have c3 : wA.cell? ⟨w.heap.size, 3, none⟩ = some (.bool false) := cell_of HZA.out rfl
          have c4 : wA.cell? ⟨w.heap.size, 4, none⟩ = some (.slice none 0 0) := cell_of HZA.out rfl
          have c5 : wA.cell? ⟨w.heap.size, 5, none⟩ = some (.string ⟨#[]⟩) := cell_of HZA.out rfl
          have c6 : wA.cell? ⟨w.heap.size, 6, none⟩ = some (.int .i64 0) := cell_of HZA.out rfl
          have c7 : wA.cell? ⟨w.heap.size, 7, none⟩ = some (.int .i64 0) := cell_of HZA.out rfl
          have c8 : wA.cell? ⟨w.heap.size, 8, none⟩ = some (.string ⟨#[]⟩) := cell_of HZA.out rfl
          have f0 := free_of HZA.out 0
          have f1 := free_of HZA.out 1
          have f2 := free_of HZA.out 2
          have f3 := free_of HZA.out 3
          have f4 := free_of HZA.out 4
          have f5 := free_of HZA.out 5
          have f6 := free_of HZA.out 6
          have f7 := free_of HZA.out 7
          have f8 := free_of HZA.out 8
          have hp := put9 HZA.out (.string x.msg.topic) (.string x.msg.payload) (.int .i64 x.msg.qos) (.bool x.msg.retain) (.slice A1 x.msg.props.length cA) (.string x.msg.from_) (.int .i64 x.msg.until_) (.int .i64 x.msg.seq) (.string x.msg.group)
          have p0 := cell_of hp (o := 0) (v := .string x.msg.topic) rfl
          have p1 := cell_of hp (o := 1) (v := .string x.msg.payload) rfl
          have p2 := cell_of hp (o := 2) (v := .int .i64 x.msg.qos) rfl
          have p3 := cell_of hp (o := 3) (v := .bool x.msg.retain) rfl
          have p4 := cell_of hp (o := 4) (v := .slice A1 x.msg.props.length cA) rfl
          have p5 := cell_of hp (o := 5) (v := .string x.msg.from_) rfl
          have p6 := cell_of hp (o := 6) (v := .int .i64 x.msg.until_) rfl
          have p7 := cell_of hp (o := 7) (v := .int .i64 x.msg.seq) rfl
          have p8 := cell_of hp (o := 8) (v := .string x.msg.group) rfl
          have HTC := Lib.hid (put9_tch wA (w.heap.size) (.string x.msg.topic) (.string x.msg.payload) (.int .i64 x.msg.qos) (.bool x.msg.retain) (.slice A1 x.msg.props.length cA) (.string x.msg.from_) (.int .i64 x.msg.until_) (.int .i64 x.msg.seq) (.string x.msg.group))
          have hbe := HBA.out.trans (HTC.out.below HBA.out.size (by intro i hi; simp at hi; omega))
          obtain ⟨mm, hmm⟩ : ∃ mm : Tc.Mg, mm = { x.msg with pA := A1, pc := cA } := ⟨_, rfl⟩
          have hseq : mm.seq = x.msg.seq := by rw [hmm]
          have hval : mm.val = .agg #[.string x.msg.topic, .string x.msg.payload, .int .i64 x.msg.qos, .bool x.msg.retain, .slice A1 x.msg.props.length cA, .string x.msg.from_, .int .i64 x.msg.until_, .int .i64 x.msg.seq, .string x.msg.group] := by rw [hmm]; rfl
          have HE := Lib.hid (HPP.out mm _ (fun k' x' hn hx' => hseq.trans (HSEQ.out k' x' hn hx')) hbe)
          rw [hval] at HE
          clear hbe hmm hseq hval
          rw [HTE.out] at HE
          clear hp
          go_upto_region 8 with (fail)
          rw [HWA'.out]
          clear x4' xf HWA'
          go_wp2_with fail
          exact bodyPost_ret (v := .tuple #[.agg #[.string x.msg.topic, .string x.msg.payload, .int .i64 x.msg.qos, .bool x.msg.retain, .slice A1 x.msg.props.length cA, .string x.msg.from_, .int .i64 x.msg.until_, .int .i64 x.msg.seq, .string x.msg.group], .string s, .bool true]) (by simp [results, Try.results68, go_sem, *]) rfl HE.out
      · have HOK := Lib.hid (show okAt S.st S.I S.L S.last free k = false by
          unfold okAt
          rw [hx]
          simp [ha])
        obtain ⟨a1, a2⟩ := ne_empty ha
        obtain ⟨e0, e1, e2, e3, e4, e5, e6, e7, e8, e9, e10, e11⟩ := HCP.out
        clear hb hB hwB hcp hzB hbB hbBB hsB hx ha
        go_upto_region 4 with (fail)
        rw [← HWB.out]
        clear HWB c0 c1 c2 c3 c4 c5 c6 c7 c8 c9 c10 c11
        go_wp2_with fail
        go_roundw
        case rel => exact ⟨k + 1, by omega, by go_num, HBB.out, fun j hj => by
          by_cases hjk : j < k
          · exact HNO.out j hjk
          · obtain rfl : j = k := by omega
            exact HOK.out⟩
        case measure => simp [intOf]; omega
    · obtain rfl : k = S.I.length := by omega
      have HNX := Lib.hid (next_never HNO.out)
      have HTE := Lib.hid (tell_none HNX.out)
      have HBA := Lib.hid (then_below HB2.out hB)
      have HZA := Lib.hid ((hB.block _ (lt_of_block HZ2.out)).trans HZ2.out)
      have c0 : wr.cell? ⟨w.heap.size, 0, none⟩ = some (.string ⟨#[]⟩) := cell_of HZA.out rfl
      have c1 : wr.cell? ⟨w.heap.size, 1, none⟩ = some (.string ⟨#[]⟩) := cell_of HZA.out rfl
      have c2 : wr.cell? ⟨w.heap.size, 2, none⟩ = some (.int .i64 0) := cell_of HZA.out rfl
      have c3 : wr.cell? ⟨w.heap.size, 3, none⟩ = some (.bool false) := cell_of HZA.out rfl
      have c4 : wr.cell? ⟨w.heap.size, 4, none⟩ = some (.slice none 0 0) := cell_of HZA.out rfl
      have c5 : wr.cell? ⟨w.heap.size, 5, none⟩ = some (.string ⟨#[]⟩) := cell_of HZA.out rfl
      have c6 : wr.cell? ⟨w.heap.size, 6, none⟩ = some (.int .i64 0) := cell_of HZA.out rfl
      have c7 : wr.cell? ⟨w.heap.size, 7, none⟩ = some (.int .i64 0) := cell_of HZA.out rfl
      have c8 : wr.cell? ⟨w.heap.size, 8, none⟩ = some (.string ⟨#[]⟩) := cell_of HZA.out rfl
      have f0 := free_of HZA.out 0
      have f1 := free_of HZA.out 1
      have f2 := free_of HZA.out 2
      have f3 := free_of HZA.out 3
      have f4 := free_of HZA.out 4
      have f5 := free_of HZA.out 5
      have f6 := free_of HZA.out 6
      have f7 := free_of HZA.out 7
      have f8 := free_of HZA.out 8
      have hp := put9 HZA.out (.string ⟨#[]⟩) (.string ⟨#[]⟩) (.int .i64 0) (.bool false) (.slice none 0 0) (.string ⟨#[]⟩) (.int .i64 0) (.int .i64 0) (.string ⟨#[]⟩)
      have p0 := cell_of hp (o := 0) (v := .string ⟨#[]⟩) rfl
      have p1 := cell_of hp (o := 1) (v := .string ⟨#[]⟩) rfl
      have p2 := cell_of hp (o := 2) (v := .int .i64 0) rfl
      have p3 := cell_of hp (o := 3) (v := .bool false) rfl
      have p4 := cell_of hp (o := 4) (v := .slice none 0 0) rfl
      have p5 := cell_of hp (o := 5) (v := .string ⟨#[]⟩) rfl
      have p6 := cell_of hp (o := 6) (v := .int .i64 0) rfl
      have p7 := cell_of hp (o := 7) (v := .int .i64 0) rfl
      have p8 := cell_of hp (o := 8) (v := .string ⟨#[]⟩) rfl
      have HTC := Lib.hid (put9_tch wr (w.heap.size) (.string ⟨#[]⟩) (.string ⟨#[]⟩) (.int .i64 0) (.bool false) (.slice none 0 0) (.string ⟨#[]⟩) (.int .i64 0) (.int .i64 0) (.string ⟨#[]⟩))
      have HE := Lib.hid (HPP.out mg0 _ (fun k' x' hn hx' => by
        rw [HNX.out] at hn
        cases hn) (HBA.out.trans (HTC.out.below HBA.out.size (by intro i hi; simp at hi; omega))))
      rw [HTE.out] at HE
      unfold mg0 Mg.val at HE
      clear hp hB
      go_wp2_with fail
      exact bodyPost_ret (v := .tuple #[.agg #[.string ⟨#[]⟩, .string ⟨#[]⟩, .int .i64 0, .bool false, .slice none 0 0, .string ⟨#[]⟩, .int .i64 0, .int .i64 0, .string ⟨#[]⟩], .string ⟨#[]⟩, .bool false]) (by simp [results, Try.results68, go_sem, *]) rfl HE.out
end
end Go.Proofs.Ytclhgnlhejohgaa.GrpW
