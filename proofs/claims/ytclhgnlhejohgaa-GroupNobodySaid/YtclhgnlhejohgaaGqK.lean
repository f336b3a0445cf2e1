/- A group's queue: what expires, and who may get a message. -/
import Derived.Test.YtclhgnlhejohgaaGqG
set_option linter.unusedVariables false
set_option linter.unusedSimpArgs false
namespace Go.Proofs.Ytclhgnlhejohgaa.GrpW
open Go.RowKit Go.Proofs.Ytclhgnlhejohgaa.Tc Go.Proofs.Ytclhgnlhejohgaa.GrpP
open Go.Proofs.Ytclhgnlhejohgaa.LaneW (OwnIt Newer copy_below info3 info45)

def OwnZ (w : World) (v : Value) (l : List Int) : Prop := w.ownsRow 0 3 1 v l.length (l.map (Value.int .i64))
theorem OwnZ.nil (w : World) : OwnZ w (.slice none 0 0) [] := own_nil w 3 1
theorem OwnZ.below {w w' : World} {v : Value} {l : List Int} (h : OwnZ w v l) (hb : Below w.heap.size w w') : OwnZ w' v l := own_kept h (Tch.of_below (S := []) hb) (by simp)
theorem OwnZ.snoc {w : World} {v : Value} {l : List Int} (h : OwnZ w v l) (hl : l.length < 1000000) (n : Int) :
    ∃ v' w', (Builtin.append_ #[27, 27] 27 #[v, .slice (some ⟨w.heap.size, 0, none⟩) 1 1]).run Try.prog (w.alloc (.cells #[.int .i64 n] 3)) = .ok v' w' ∧ OwnZ w' v' (l ++ [n]) ∧ Tch v.ownBlock.toList w w' ∧
      (∀ g, v'.ownBlock = some g → v.ownBlock = some g ∨ w.heap.size ≤ g) := by
  obtain ⟨i0, hi, hz0, hz1, hz2⟩ := info_parts info3
  obtain ⟨v', w', hr, hown, ht, hloc, _⟩ := append_one (P := Try.prog) (ty := 27) Try.underlying27 hi hz0 hz1 hz2 rfl (by decide) h [.int .i64 n] rfl (by simp [Value.oneCell']) (by unfold maxLen; omega) (by omega)
  exact ⟨v', w', hr, by unfold OwnZ; simpa using hown, ht, hloc⟩
/-- Is a message over, and with nobody? -/
def over (now : Int) (x : Tc.It) : Bool := decide (x.at_ = ByteArray.empty) && (decide (0 < x.msg.until_) && decide (x.msg.until_ ≤ now))
def expP (S : GS) (now : Int) : GS := { S with I := S.I.filter fun x => !over now x }
theorem filt_take {α : Type} {l : List α} {k : Nat} {x : α} (hx : l[k]? = some x) (p : α → Bool) : (l.take (k + 1)).filter p = (l.take k).filter p ++ if p x then [x] else [] := by
  obtain ⟨hk, rfl⟩ := List.getElem?_eq_some_iff.1 hx
  rw [List.take_succ_eq_append_getElem hk, List.filter_append]
  congr 1
  cases h : p l[k] <;> simp [h]
theorem filt_len {α : Type} (l : List α) (k : Nat) (p : α → Bool) : ((l.take k).filter p).length ≤ l.length := Nat.le_trans (List.length_filter_le _ _) (by rw [List.length_take]; omega)
section
variable {B : Nat} {w : World} {g ms : Nat} {mv iv : Value} {S : GS}
def XPost (B : Nat) (w : World) (g ms : Nat) (n : Nat) (S' : GS) (e : Ending) (w' : World) : Prop := ∃ A c mv' iv', e = .returned (.slice A n c) ∧ Gp B w' g ms mv' iv' S' ∧ Gf B w w'
set_option maxRecDepth 100000 in
set_option maxHeartbeats 8000000 in
theorem expire_any (h : Gp B w g ms mv iv S) (hI : S.I.length < 1000000) (now : Int) :
    Calls Try.prog 67 #[.pointer (some ⟨g, 0, none⟩), .int .i64 now] w (XPost B w g ms ((S.I.filter (over now)).map fun x => x.msg.seq).length (expP S now)) := by
  have HIT := Lib.hid (items_any h hI)
  have HH := Lib.hid h
  have HI := Lib.hid hI
  generalize hP : XPost B w g ms ((S.I.filter (over now)).map fun x => x.msg.seq).length (expP S now) = PP
  have HPP := Lib.hid (show ∀ A c iv' w', Gp B w' g ms mv iv' (expP S now) → Gf B w w' → PP (.returned (.slice A ((S.I.filter (over now)).map fun x => x.msg.seq).length c)) w' from fun A c iv' w' h1 h2 => by
    rw [← hP]
    exact ⟨A, c, mv, iv', rfl, h1, h2⟩)
  clear h hI hP
  go_enter Try.func67, Try.ntmps67
  go_wp2_with fail
  refine HIT.out.mono ?_
  rintro e w2 ⟨⟨v0, rfl, hown0, hnew0⟩, hb2⟩
  have HB2 := Lib.hid hb2
  have HG2 := Lib.hid (HH.out.below hb2)
  obtain ⟨A0, c0, rfl, hS0⟩ := (show OwnIt w2 w2 v0 S.I from ⟨hown0, fun z hz => (HG2.out.each z hz).led⟩).form (Below.refl _ _)
  have hlen := hS0.len
  unfold maxLen at hlen
  have HS := Lib.hid hS0
  clear hown0 hnew0 hb2 hS0
  go_wp2_with fail
  go_loopw [5, 7, 13] (fun gv kv x wr => ∃ k : Nat, k ≤ S.I.length ∧ x = .int .i64 k ∧ Below w2.heap.size w2 wr ∧ OwnIt w2 wr kv ((S.I.take k).filter fun x => !over now x) ∧ Newer w2 kv ∧ OwnZ wr gv (((S.I.take k).filter (over now)).map fun x => x.msg.seq) ∧ Newer w2 gv) (fun _ _ x _ => S.I.length - (intOf x).toNat)
  case atStart => exact ⟨0, by omega, rfl, Below.refl _ _, OwnIt.nil _ _, Newer.nil _, OwnZ.nil _, Newer.nil _⟩
  case round =>
    obtain ⟨k, hk, rfl, hB, hO, hN, hZ, hM⟩ := hrel
    have HB := Lib.hid hB
    have HO := Lib.hid hO
    have HN := Lib.hid hN
    have HZ := Lib.hid hZ
    have HM := Lib.hid hM
    clear hO hN hZ hM
    by_cases hlt : k < S.I.length
    · obtain ⟨x, hx⟩ : ∃ x, S.I[k]? = some x := ⟨_, List.getElem?_eq_getElem hlt⟩
      have HF1 := Lib.hid (filt_take hx (over now))
      have HF2 := Lib.hid (filt_take hx (fun x => !over now x))
      obtain ⟨b, off, hA, hb, ⟨c0, c1, c2, c3, c4, c5, c6, c7, c8, c9, c10, c11⟩, -, -, -⟩ := item_cells (HS.out.below hB) hx
      have HLED := Lib.hid (HG2.out.each x (List.mem_of_getElem? hx)).led
      have HL1 := Lib.hid (filt_len S.I k (over now))
      have HL2 := Lib.hid (filt_len S.I k (fun x => !over now x))
      subst hA
      obtain ⟨wB, hwB⟩ : ∃ wB, wB = wr.alloc (.cells x.vals.toArray 45) := ⟨_, rfl⟩
      have hcp : CpAt wB wr.heap.size x := by rw [hwB]; exact CpAt.new wr _
      have hbB : Below wr.heap.size wr wB := by rw [hwB]; exact alloc_below _ _
      have HOB := Lib.hid (HO.out.below hbB)
      have HZB := Lib.hid (HZ.out.below hbB)
      have HBB := Lib.hid (then_below hB hbB)
      have HWB := Lib.hid hwB
      have HCP := Lib.hid hcp
      unfold It.vals at HWB
      have hn0 : ∀ (i j : Nat), u7.ownBlock = some i → u5.ownBlock = some j → i ≠ j := fun i j hi hj => by
        obtain ⟨c1, h1⟩ := own_type HOB.out.1 hi
        obtain ⟨c2, h2⟩ := own_type HZB.out hj
        exact type_ne h1 h2 (by decide)
      have HN0 := Lib.hid hn0
      clear hx hb hB hwB hcp hbB hn0
      by_cases ha : x.at_ = ByteArray.empty
      · by_cases hu : 0 < x.msg.until_
        · by_cases ht : x.msg.until_ ≤ now
          · have hov : over now x = true := by unfold over; rw [decide_eq_true ha, decide_eq_true hu, decide_eq_true ht]; rfl
            rw [hov] at HF1 HF2
            obtain ⟨v', w3, hr, ho', ht', hl'⟩ := HZB.out.snoc (by rw [List.length_map]; exact Nat.lt_of_le_of_lt HL1.out HI.out) x.msg.seq
            have HN' := Lib.hid (HM.out.step HBB.out hl')
            have HB' := Lib.hid (HM.out.below HBB.out ht')
            have HO' := Lib.hid (show OwnZ w3 v' (((S.I.take (k + 1)).filter (over now)).map fun x => x.msg.seq) by rw [HF1.out]; simpa using ho')
            have HK' := Lib.hid (show OwnIt w2 w3 u7 ((S.I.take (k + 1)).filter fun x => !over now x) by
              rw [HF2.out]
              simpa using (show OwnIt w2 w3 u7 _ from ⟨own_kept HOB.out.1 ht' (by intro i hi hm; exact HN0.out i i hi (by simpa using hm) rfl), HOB.out.2⟩))
            have HRUN := Lib.hid hr
            have HA := Lib.hid ha
            clear ha
            clear hov hr ho' ht' hl'
            go_upto_region 6 with (fail)
            rw [← HWB.out]
            obtain ⟨f0, f1, f2, f3, f4, f5, f6, f7, f8, f9, f10, f11⟩ := HCP.out
            clear c0 c1 c2 c3 c4 c5 c6 c7 c8 c9 c10 c11 HWB HCP
            rw [HA.out] at f9
            go_wp2_with (at_builtin; refine wpList_append_eq rfl _ _ _ rfl rfl rfl HRUN.out ?_)
            go_roundw
            case rel => exact ⟨k + 1, by omega, by go_num, HB'.out, HK'.out, HN.out, HO'.out, HN'.out⟩
            case measure => simp [intOf]; omega
          · have hov : over now x = false := by unfold over; rw [decide_eq_true ha, decide_eq_true hu, decide_eq_false ht]; rfl
            rw [hov] at HF1 HF2
            obtain ⟨v', w3, hr, ho', ht', hl'⟩ := HOB.out.snoc (Nat.lt_of_le_of_lt HL2.out HI.out) x HLED.out
            have HN' := Lib.hid (HN.out.step HBB.out hl')
            have HB' := Lib.hid (HN.out.below HBB.out ht')
            have HO' := Lib.hid (show OwnIt w2 w3 v' ((S.I.take (k + 1)).filter fun x => !over now x) by rw [HF2.out]; simpa using ho')
            have HK' := Lib.hid (show OwnZ w3 u5 (((S.I.take (k + 1)).filter (over now)).map fun x => x.msg.seq) by
              rw [HF1.out]
              simpa using (show OwnZ w3 u5 _ from own_kept HZB.out ht' (by intro i hi hm; exact HN0.out i i (by simpa using hm) hi rfl)))
            have HRUN := Lib.hid hr
            unfold It.vals at HRUN
            have HA := Lib.hid ha
            clear ha
            clear hov hr ho' ht' hl'
            go_upto_region 6 with (fail)
            rw [← HWB.out]
            obtain ⟨f0, f1, f2, f3, f4, f5, f6, f7, f8, f9, f10, f11⟩ := HCP.out
            clear c0 c1 c2 c3 c4 c5 c6 c7 c8 c9 c10 c11 HWB HCP
            rw [HA.out] at f9 HRUN
            go_wp2_with (at_builtin; refine wpList_append_eq rfl _ _ _ rfl rfl rfl HRUN.out ?_)
            go_roundw
            case rel => exact ⟨k + 1, by omega, by go_num, HB'.out, HO'.out, HN'.out, HK'.out, HM.out⟩
            case measure => simp [intOf]; omega
        · have hov : over now x = false := by unfold over; rw [decide_eq_true ha, decide_eq_false hu]; rfl
          rw [hov] at HF1 HF2
          obtain ⟨v', w3, hr, ho', ht', hl'⟩ := HOB.out.snoc (Nat.lt_of_le_of_lt HL2.out HI.out) x HLED.out
          have HN' := Lib.hid (HN.out.step HBB.out hl')
          have HB' := Lib.hid (HN.out.below HBB.out ht')
          have HO' := Lib.hid (show OwnIt w2 w3 v' ((S.I.take (k + 1)).filter fun x => !over now x) by rw [HF2.out]; simpa using ho')
          have HK' := Lib.hid (show OwnZ w3 u5 (((S.I.take (k + 1)).filter (over now)).map fun x => x.msg.seq) by
            rw [HF1.out]
            simpa using (show OwnZ w3 u5 _ from own_kept HZB.out ht' (by intro i hi hm; exact HN0.out i i (by simpa using hm) hi rfl)))
          have HRUN := Lib.hid hr
          unfold It.vals at HRUN
          have HA := Lib.hid ha
          clear ha
          clear hov hr ho' ht' hl'
          go_upto_region 6 with (fail)
          rw [← HWB.out]
          obtain ⟨f0, f1, f2, f3, f4, f5, f6, f7, f8, f9, f10, f11⟩ := HCP.out
          clear c0 c1 c2 c3 c4 c5 c6 c7 c8 c9 c10 c11 HWB HCP
          rw [HA.out] at f9 HRUN
          go_wp2_with (at_builtin; refine wpList_append_eq rfl _ _ _ rfl rfl rfl HRUN.out ?_)
          go_roundw
          case rel => exact ⟨k + 1, by omega, by go_num, HB'.out, HO'.out, HN'.out, HK'.out, HM.out⟩
          case measure => simp [intOf]; omega
      · have hov : over now x = false := by unfold over; rw [decide_eq_false ha]; rfl
        rw [hov] at HF1 HF2
        obtain ⟨a1, a2⟩ := ne_empty ha
        clear ha
        obtain ⟨v', w3, hr, ho', ht', hl'⟩ := HOB.out.snoc (Nat.lt_of_le_of_lt HL2.out HI.out) x HLED.out
        have HN' := Lib.hid (HN.out.step HBB.out hl')
        have HB' := Lib.hid (HN.out.below HBB.out ht')
        have HO' := Lib.hid (show OwnIt w2 w3 v' ((S.I.take (k + 1)).filter fun x => !over now x) by rw [HF2.out]; simpa using ho')
        have HK' := Lib.hid (show OwnZ w3 u5 (((S.I.take (k + 1)).filter (over now)).map fun x => x.msg.seq) by
          rw [HF1.out]
          simpa using (show OwnZ w3 u5 _ from own_kept HZB.out ht' (by intro i hi hm; exact HN0.out i i (by simpa using hm) hi rfl)))
        have HRUN := Lib.hid hr
        unfold It.vals at HRUN
        clear hov hr ho' ht' hl'
        go_upto_region 6 with (fail)
        rw [← HWB.out]
        obtain ⟨f0, f1, f2, f3, f4, f5, f6, f7, f8, f9, f10, f11⟩ := HCP.out
        clear c0 c1 c2 c3 c4 c5 c6 c7 c8 c9 c10 c11 HWB HCP
        go_wp2_with (at_builtin; refine wpList_append_eq rfl _ _ _ rfl rfl rfl HRUN.out ?_)
        go_roundw
        case rel => exact ⟨k + 1, by omega, by go_num, HB'.out, HO'.out, HN'.out, HK'.out, HM.out⟩
        case measure => simp [intOf]; omega
    · obtain rfl : k = S.I.length := by omega
      have HOE := Lib.hid HO.out
      have HZE := Lib.hid HZ.out
      rw [List.take_length] at HOE HZE
      by_cases h0 : (S.I.filter (over now)) = []
      · have hke : S.I.filter (fun x => !over now x) = S.I := by
          rw [List.filter_eq_self]
          intro z hz
          rw [List.filter_eq_nil_iff] at h0
          simpa using h0 z hz
        have HE := Lib.hid (HPP.out none 0 iv wr (by unfold expP; rw [hke]; exact HG2.out.below hB) (Gf.of_below (then_below HB2.out hB)))
        have hnz : ((S.I.filter (over now)).map fun x => x.msg.seq).length = 0 := by rw [h0]; rfl
        rw [hnz] at HE
        rw [h0] at HZE
        obtain ⟨A', c', hgv⟩ := own_form HZE.out
        subst hgv
        clear h0 hke hB hnz
        simp only [List.map_nil, List.length_nil]
        go_wp2
        exact HE.out
      · have hln : 0 < ((S.I.filter (over now)).map fun x => x.msg.seq).length := by
          rw [List.length_map]
          exact List.length_pos_iff.2 h0
        have hle : ((S.I.filter (over now)).map fun x => x.msg.seq).length < 1000000 := by
          rw [List.length_map]
          exact Nat.lt_of_le_of_lt (List.length_filter_le _ _) HI.out
        obtain ⟨A', c', hgv⟩ := own_form HZE.out
        subst hgv
        generalize ((S.I.filter (over now)).map fun x => x.msg.seq).length = nn at *
        have hn0 : ¬ ((nn : Int) = 0) := by omega
        have hGr := HG2.out.below hB
        have c4 := hGr.c4
        have f4 := free_of hGr.st 4
        have hset := set_of hGr.st 4 u7
        have hne : ∀ j, u7.ownBlock = some j → j ≠ g := own_type_ne HOE.out.1 hGr.st (by decide)
        have hTg : Tch [g] wr (wr.setCell ⟨g, 4, none⟩ u7) := (Tch.refl _ _).setCell (.inl (by simp)) _
        have hnk := HN.out
        have hT := HG2.out.turn (w' := wr.setCell ⟨g, 4, none⟩ u7) (iv' := u7) (S' := expP S now) rfl rfl
          (((Tch.of_below (S := []) hB).mono (by simp)).setCell (p := ⟨g, 4, none⟩) (.inl List.mem_cons_self) _) (by simpa [expP] using hset)
          (own_kept HOE.out.1 hTg (by intro j hj hm; exact hne j hj (by simpa using hm)))
          (fun j hj => .inr (hnk j hj))
          (fun hg z hz => (HG2.out.each z ((List.mem_filter.1 hz).1)).gf hg)
        have HE := Lib.hid (HPP.out A' c' u7 _ hT.1 ((Gf.of_below HB2.out).trans hT.2))
        obtain ⟨A2, c2, hkv⟩ := own_form HOE.out.1
        clear h0 hln hle hGr hset hne hTg hnk hT hB
        subst hkv
        go_wp2
        exact HE.out
end
end Go.Proofs.Ytclhgnlhejohgaa.GrpW
set_option linter.unusedVariables false
set_option linter.unusedSimpArgs false
namespace Go.Proofs.Ytclhgnlhejohgaa.GrpW
open Go.RowKit Go.Proofs.Ytclhgnlhejohgaa.Tc Go.Proofs.Ytclhgnlhejohgaa.GrpP
open Go.Proofs.Ytclhgnlhejohgaa.LaneW (OwnIt Newer copy_below info3 info45)
open Go.Proofs.Ytclhgnlhejohgaa.PickW (OwnS)

theorem may_fn (x : Tc.It) (b : Nat) (s : ByteArray) (W : World) (hc : W.cell? ⟨b, 10, none⟩ = some (.slice x.bA x.behind.length x.bc)) (hS : SliceIs aS W x.bA x.behind) :
    Calls Try.prog 120 #[.string s, .pointer (some ⟨b, 0, none⟩)] W fun e w' => e = .returned (.bool (PickP.has x.behind s)) ∧ Below W.heap.size W w' := by
  have HC := Lib.hid (show Calls Try.prog 76 #[.slice x.bA x.behind.length x.bc, .string s] W fun e w' => e = .returned (.bool (PickP.has x.behind s)) ∧ W = w' from PickW.contains_any W x.bA x.bc x.behind hS s)
  clear hS
  go_enter Try.func120, Try.ntmps120
  go_wp2_with fail
  refine HC.out.mono ?_
  rintro e w2 ⟨rfl, rfl⟩
  go_wp2_with fail
  go_ret
  exact ⟨rfl, Below.refl _ _⟩
/-- Texts that a call made. -/
def SPost (w : World) (l : List ByteArray) (e : Ending) (w' : World) : Prop := (∃ v, e = .returned v ∧ OwnS w' v l ∧ Newer w v) ∧ Below w.heap.size w w'
theorem sval_eq (l : List ByteArray) : l.flatMap sval = l.map Value.string := sval_map l
theorem owns_of {w : World} {v : Value} {l : List ByteArray} (h : w.ownsRow 0 9 1 v l.length (l.flatMap sval)) (hs : ∀ s ∈ l, s.size ≤ maxLen) : OwnS w v l := ⟨by rw [← sval_eq]; exact h, hs⟩
section
variable {B : Nat} {w : World} {g ms : Nat} {mv iv : Value} {S : GS}
set_option maxRecDepth 100000 in
set_option maxHeartbeats 4000000 in
theorem may_any (h : Gp B w g ms mv iv S) (hl : S.L.length < 1000000) (x : Tc.It) (hS : SliceIs aS w x.bA x.behind) :
    Calls Try.prog 107 #[.pointer (some ⟨g, 0, none⟩), x.val] w (fun e w' => (∃ v, e = .returned v ∧ OwnS w' v (mayP S.L x)) ∧ Below w.heap.size w w') := by
  generalize hP : (fun (e : Ending) (w' : World) => (∃ v, e = .returned v ∧ OwnS w' v (mayP S.L x)) ∧ Below w.heap.size w w') = PP
  have HPP := Lib.hid (show ∀ (v : Value) (w' : World), OwnS w' v (mayP S.L x) → Below w.heap.size w w' → PP (.returned v) w' from fun v w' h1 h2 => by
    rw [← hP]
    exact ⟨⟨v, rfl, h1⟩, h2⟩)
  clear hP
  obtain ⟨wB, hwB⟩ : ∃ wB, wB = w.alloc (.cells x.vals.toArray 45) := ⟨_, rfl⟩
  have hcp : CpAt wB w.heap.size x := by rw [hwB]; exact CpAt.new w _
  have hbB : Below w.heap.size w wB := by rw [hwB]; exact alloc_below _ _
  have hzB : wB.heap.size = w.heap.size + 1 := by rw [hwB]; simp
  have HZB := Lib.hid hzB
  have HWB := Lib.hid hwB
  have HB := Lib.hid hbB
  have HG := Lib.hid (h.below hbB)
  have HS := Lib.hid (hS.below hbB)
  have HCP := Lib.hid hcp
  have HH := Lib.hid (MemW.here_any wB ms mv S.L S.gen HG.out.mem hl)
  have HL := Lib.hid hl
  have hhl : (MemP.here S.L).length ≤ S.L.length := by unfold MemP.here; first | exact Nat.le_trans (by simp [List.length_map]; exact List.length_filter_le _ _) (Nat.le_refl _) | simp
  have HHL := Lib.hid hhl
  have c0 := HG.out.c0
  unfold It.vals at HWB
  unfold It.val
  clear hwB hcp hbB hzB h hS hl hhl
  go_enter Try.func107, Try.ntmps107
  go_upto_region 1 with (fail)
  rw [← HWB.out]
  clear HWB
  go_wp2_with fail
  refine HH.out.mono ?_
  rintro e w2 ⟨⟨v, rfl, hv⟩, hb2⟩
  have HV := Lib.hid hv
  obtain ⟨A1, c1, hv1, hs1⟩ := hv.form
  have HB2 := Lib.hid hb2
  have HCL := Lib.hid (cloneS_any w2 A1 c1 (MemP.here S.L) (rd_texts hs1) (Nat.lt_of_le_of_lt HHL.out HL.out))
  subst hv1
  clear hv hb2 hs1
  go_wp2_with fail
  refine HCL.out.mono ?_
  rintro e w3 ⟨⟨v3, rfl, ho3, hn3⟩, hb3⟩
  have HO3 := Lib.hid ho3
  have HN3 := Lib.hid hn3
  have HB3 := Lib.hid hb3
  have HD := Lib.hid (deleteS_any 120 w.heap.size (PickP.has x.behind) (enters_of Try.func120 (by kernel_rfl) rfl) w3 v3 (MemP.here S.L) ho3 (Nat.lt_of_le_of_lt HHL.out HL.out) HV.out.2 (fun s W hs hT => by
    have h2 := HB2.out.size
    have h3 := HB3.out.size
    have hz := HZB.out
    have hlt : ∀ k, k < wB.heap.size → W.heap[k]? = wB.heap[k]? := fun k hk => by
      refine (hT.block k (by omega) (fun hm => ?_)).trans ((HB3.out.block k (by omega)).trans (HB2.out.block k hk))
      have := HN3.out k (by simpa using hm)
      omega
    refine may_fn x w.heap.size s W ?_ ?_
    · exact cell_stay (hlt _ (by omega)) HCP.out.c10
    · refine sls_kept HS.out (fun ad hA hn hk => hlt _ hk) ?_
      have := hT.size
      omega))
  clear ho3 hn3 hb3
  go_wp2_with fail
  refine HD.out.mono ?_
  rintro e w4 ⟨⟨v4, rfl, ho4, hl4⟩, ht4⟩
  have hbe : Below w2.heap.size w2 w4 := (show Newer w2 v3 from HN3.out).below HB3.out ht4
  have HBE := Lib.hid (HB.out.trans ((HB2.out.trans (hbe.mono HB2.out.size)).mono HB.out.size))
  by_cases hz : (MemP.here S.L).filter (fun s => !PickP.has x.behind s) = []
  · have hm : mayP S.L x = MemP.here S.L := by unfold mayP; rw [if_pos hz]
    have HE := Lib.hid (HPP.out _ w4 (by rw [hm]; exact HV.out.below hbe) HBE.out)
    rw [hz] at ho4
    obtain ⟨A4, c4, hv4⟩ := own_form ho4
    subst hv4
    clear ho4 hl4 ht4 hbe hz hm
    simp only [List.length_nil]
    go_wp2_with fail
    exact HE.out
  · have hm : mayP S.L x = (MemP.here S.L).filter (fun s => !PickP.has x.behind s) := by unfold mayP; rw [if_neg hz]
    have HE := Lib.hid (HPP.out _ w4 (by rw [hm]; exact owns_of ho4 (fun s hs => HV.out.2 s (List.mem_filter.1 hs).1)) HBE.out)
    have hln : 0 < ((MemP.here S.L).filter (fun s => !PickP.has x.behind s)).length := List.length_pos_iff.2 hz
    obtain ⟨A4, c4, hv4⟩ := own_form ho4
    subst hv4
    generalize ((MemP.here S.L).filter (fun s => !PickP.has x.behind s)).length = nn at *
    have hn0 : ¬ ((nn : Int) = 0) := by omega
    clear ho4 hl4 ht4 hbe hz hm
    go_wp2_with fail
    exact HE.out
end
end Go.Proofs.Ytclhgnlhejohgaa.GrpW
set_option linter.unusedVariables false
set_option linter.unusedSimpArgs false
namespace Go.Proofs.Ytclhgnlhejohgaa.GrpW
open Go.RowKit Go.Proofs.Ytclhgnlhejohgaa.Tc Go.Proofs.Ytclhgnlhejohgaa.GrpP Go.Proofs.Ytclhgnlhejohgaa.PickP
open Go.Proofs.Ytclhgnlhejohgaa.PickW (Small JH nums kS kI str_cell int_cell first_any rank rank_any rank_bd hash_pick)

theorem hash_fn2 (b2 b3 : Nat) (A : Option Addr) (cap : Nat) (key : ByteArray) (l : List ByteArray) (hk : key.size ≤ 200) (hs : Small l) (w : World) (k : Nat) (h : JH b2 b3 A cap key l w) (hlt : k < l.length) :
    Calls Try.prog 78 #[.int .i64 k, .pointer (some ⟨b3, 0, none⟩), .pointer (some ⟨b2, 0, none⟩)] w fun e w' => e = .returned (.int .i64 (nums key l k)) ∧ Below w.heap.size w w' := by
  obtain ⟨b, off, rfl, c0, -⟩ := str_cell h.s hlt
  have hz1 := hs k hlt
  have d1 := fun n : Wd (Gr w) => n.cell h.k
  have d2 := fun n : Wd (Gr w) => n.cell h.h
  have d3 := fun n : Wd (Gr w) => n.cell c0
  have hlen := h.s.len
  unfold maxLen at hlen
  clear h hs c0
  unfold nums
  generalize l.getD k ByteArray.empty = z at d3 hz1 ⊢
  have hr := rank_bd key z
  have HR := Lib.hid (fun w' => rank_any key z w' (by omega))
  generalize rank key z = r at hr HR ⊢
  go_enter Try.func78, Try.ntmps78
  go_wp2
  refine wp_region_cls (Gr w) (gr_drew w) (by kernel_rfl) (by kernel_rfl) ?_
  repeat (go_big_quiet_step ((go_at_call 20; exact cls_call (HR.out _))))
  refine wpQuiet_nil ?_
  rintro _ ⟨⟨wq, hq⟩, rfl⟩
  go_wp2
  go_ret
  exact ⟨rfl, hq⟩
theorem hash_pick (key : ByteArray) (l : List ByteArray) : pickBy l (nums key l) = hash (rank key) l := rfl
set_option maxHeartbeats 1000000 in
theorem hash_any2 (w : World) (A : Option Addr) (cap : Nat) (l : List ByteArray) (key : ByteArray) (hS : SliceIs kS w A l) (hk : key.size ≤ 200) (hs : Small l) :
    Calls Try.prog 25 #[.slice A l.length cap, .string key] w fun e w' => e = .returned (.string (hash (rank key) l)) ∧ Below w.heap.size w w' := by
  have b1 := alloc_below w (.cells #[.slice A l.length cap] 26)
  have b2 := alloc_below (w.alloc (.cells #[.slice A l.length cap] 26)) (.cells #[.string key] 9)
  have hJ : JH w.heap.size (w.heap.size + 1) A cap key l ((w.alloc (.cells #[.slice A l.length cap] 26)).alloc (.cells #[.string key] 9)) := by
    refine ⟨?_, ?_, (hS.below b1).below b2⟩
    · have h1 := heap_alloc_new (w.alloc (.cells #[.slice A l.length cap] 26)) (.cells #[.string key] 9)
      rw [show (w.alloc (.cells #[.slice A l.length cap] 26)).heap.size = w.heap.size + 1 by simp] at h1
      exact cell_of h1 rfl
    · exact cell_of ((b2.block w.heap.size (by simp)).trans (heap_alloc_new w _)) rfl
  have hc := hJ.h
  have HF := Lib.hid (first_any 78 (.pointer (some ⟨w.heap.size + 1, 0, none⟩)) (.pointer (some ⟨w.heap.size, 0, none⟩)) _ A cap l (nums key l) _ (enters_of Try.func78 (by kernel_rfl) rfl) hJ.s hJ
    (fun w1 w2 h hb => h.grown hb) (fun w' k h hlt => hash_fn2 _ _ A cap key l hk hs w' k h hlt))
  have HB := Lib.hid (then_below b1 b2)
  clear hJ hS b1 b2 hs
  go_enter Try.func25, Try.ntmps25
  go_wp2_with fail
  refine HF.out.mono ?_
  rintro e w' ⟨rfl, hb⟩
  have HB2 := Lib.hid (HB.out.trans (hb.mono HB.out.size))
  clear hb
  go_wp2_with fail
  go_ret
  exact ⟨rfl, HB2.out⟩
set_option maxHeartbeats 1000000 in
theorem one0_any (F : FuncId) (hE : ∀ args w, (callFunc F args).run Try.prog w = .ok (.enter F args) w) (w : World) (A Af : Option Addr) (cap capf : Nat) (l free : List ByteArray) (hlen : l.length ≤ 9223372036854775807) (hf : SliceIs kS w Af free) (s : ByteArray)
    (hF : l ≠ [] → Calls Try.prog F #[.slice A l.length cap] w fun e w' => e = .returned (.string s) ∧ Below w.heap.size w w') :
    Calls Try.prog 111 #[.slice A l.length cap, .func (.func F) #[] #[], .slice Af free.length capf] w fun e w' => e = .returned (.tuple #[.string (oneP l s free).1, .bool (oneP l s free).2]) ∧ Below w.heap.size w w' := by
  generalize hP : (fun (e : Ending) (w' : World) => e = .returned (.tuple #[.string (oneP l s free).1, .bool (oneP l s free).2]) ∧ Below w.heap.size w w') = PP
  have HPP := Lib.hid (show ∀ w', Below w.heap.size w w' → PP (.returned (.tuple #[.string (oneP l s free).1, .bool (oneP l s free).2])) w' from fun w' h1 => by
    rw [← hP]
    exact ⟨rfl, h1⟩)
  clear hP
  unfold oneP at HPP
  by_cases h0 : l = []
  · subst h0
    rw [if_pos rfl] at HPP
    have HE := Lib.hid (HPP.out w (Below.refl _ _))
    clear hF hf
    simp only [List.length_nil]
    go_enter Try.func111, Try.ntmps111
    go_wp2
    exact HE.out
  · rw [if_neg h0] at HPP
    have HF := Lib.hid (hF h0)
    have HFR := Lib.hid hf
    have hn0 : ¬ ((l.length : Int) = 0) := by
      have := List.length_pos_iff.2 h0
      omega
    clear hF h0 hf
    go_enter Try.func111, Try.ntmps111
    go_wp2_with fail
    refine HF.out.mono ?_
    rintro e w2 ⟨rfl, hb⟩
    have HC := Lib.hid (PickW.contains_any w2 Af capf free (HFR.out.below hb) s)
    have HE := Lib.hid (HPP.out w2 hb)
    clear hb
    go_wp2_with fail
    refine HC.out.mono ?_
    rintro e w3 ⟨rfl, rfl⟩
    go_wp2_with fail
    exact HE.out
set_option maxHeartbeats 1000000 in
theorem one1_any (F : FuncId) (p : Value) (hE : ∀ args w, (callFunc F args).run Try.prog w = .ok (.enter F args) w) (w : World) (A Af : Option Addr) (cap capf : Nat) (l free : List ByteArray) (hlen : l.length ≤ 9223372036854775807) (hf : SliceIs kS w Af free) (s : ByteArray)
    (hF : l ≠ [] → Calls Try.prog F #[.slice A l.length cap, p] w fun e w' => e = .returned (.string s) ∧ Below w.heap.size w w') :
    Calls Try.prog 111 #[.slice A l.length cap, .func (.func F) #[] #[p], .slice Af free.length capf] w fun e w' => e = .returned (.tuple #[.string (oneP l s free).1, .bool (oneP l s free).2]) ∧ Below w.heap.size w w' := by
  generalize hP : (fun (e : Ending) (w' : World) => e = .returned (.tuple #[.string (oneP l s free).1, .bool (oneP l s free).2]) ∧ Below w.heap.size w w') = PP
  have HPP := Lib.hid (show ∀ w', Below w.heap.size w w' → PP (.returned (.tuple #[.string (oneP l s free).1, .bool (oneP l s free).2])) w' from fun w' h1 => by
    rw [← hP]
    exact ⟨rfl, h1⟩)
  clear hP
  unfold oneP at HPP
  by_cases h0 : l = []
  · subst h0
    rw [if_pos rfl] at HPP
    have HE := Lib.hid (HPP.out w (Below.refl _ _))
    clear hF hf
    simp only [List.length_nil]
    go_enter Try.func111, Try.ntmps111
    go_wp2
    exact HE.out
  · rw [if_neg h0] at HPP
    have HF := Lib.hid (hF h0)
    have HFR := Lib.hid hf
    have hn0 : ¬ ((l.length : Int) = 0) := by
      have := List.length_pos_iff.2 h0
      omega
    clear hF h0 hf
    go_enter Try.func111, Try.ntmps111
    go_wp2_with fail
    refine HF.out.mono ?_
    rintro e w2 ⟨rfl, hb⟩
    have HC := Lib.hid (PickW.contains_any w2 Af capf free (HFR.out.below hb) s)
    have HE := Lib.hid (HPP.out w2 hb)
    clear hb
    go_wp2_with fail
    refine HC.out.mono ?_
    rintro e w3 ⟨rfl, rfl⟩
    go_wp2_with fail
    exact HE.out
set_option maxHeartbeats 1000000 in
theorem one2_any (F : FuncId) (p q : Value) (hE : ∀ args w, (callFunc F args).run Try.prog w = .ok (.enter F args) w) (w : World) (A Af : Option Addr) (cap capf : Nat) (l free : List ByteArray) (hlen : l.length ≤ 9223372036854775807) (hf : SliceIs kS w Af free) (s : ByteArray)
    (hF : l ≠ [] → Calls Try.prog F #[.slice A l.length cap, p, q] w fun e w' => e = .returned (.string s) ∧ Below w.heap.size w w') :
    Calls Try.prog 111 #[.slice A l.length cap, .func (.func F) #[] #[p, q], .slice Af free.length capf] w fun e w' => e = .returned (.tuple #[.string (oneP l s free).1, .bool (oneP l s free).2]) ∧ Below w.heap.size w w' := by
  generalize hP : (fun (e : Ending) (w' : World) => e = .returned (.tuple #[.string (oneP l s free).1, .bool (oneP l s free).2]) ∧ Below w.heap.size w w') = PP
  have HPP := Lib.hid (show ∀ w', Below w.heap.size w w' → PP (.returned (.tuple #[.string (oneP l s free).1, .bool (oneP l s free).2])) w' from fun w' h1 => by
    rw [← hP]
    exact ⟨rfl, h1⟩)
  clear hP
  unfold oneP at HPP
  by_cases h0 : l = []
  · subst h0
    rw [if_pos rfl] at HPP
    have HE := Lib.hid (HPP.out w (Below.refl _ _))
    clear hF hf
    simp only [List.length_nil]
    go_enter Try.func111, Try.ntmps111
    go_wp2
    exact HE.out
  · rw [if_neg h0] at HPP
    have HF := Lib.hid (hF h0)
    have HFR := Lib.hid hf
    have hn0 : ¬ ((l.length : Int) = 0) := by
      have := List.length_pos_iff.2 h0
      omega
    clear hF h0 hf
    go_enter Try.func111, Try.ntmps111
    go_wp2_with fail
    refine HF.out.mono ?_
    rintro e w2 ⟨rfl, hb⟩
    have HC := Lib.hid (PickW.contains_any w2 Af capf free (HFR.out.below hb) s)
    have HE := Lib.hid (HPP.out w2 hb)
    clear hb
    go_wp2_with fail
    refine HC.out.mono ?_
    rintro e w3 ⟨rfl, rfl⟩
    go_wp2_with fail
    exact HE.out
end Go.Proofs.Ytclhgnlhejohgaa.GrpW
set_option linter.unusedVariables false
set_option linter.unusedSimpArgs false
namespace Go.Proofs.Ytclhgnlhejohgaa.GrpW
open Go.RowKit Go.Proofs.Ytclhgnlhejohgaa.Tc Go.Proofs.Ytclhgnlhejohgaa.GrpP
open Go.Proofs.Ytclhgnlhejohgaa.LaneW (OwnIt OwnI Newer copy_below info3 info45)
open Go.Proofs.Ytclhgnlhejohgaa.PickW (OwnS kS str_cell)

def isAt (s : ByteArray) (x : Tc.It) : Bool := decide (s ≠ LaneP.No) && decide (x.at_ = s)
theorem underN_all (I : List Tc.It) (s : ByteArray) : underN I s = ((I.take I.length).filter (isAt s)).length := by rw [List.take_length]; rfl
theorem under_step {I : List Tc.It} {s : ByteArray} {k : Nat} {x : Tc.It} (hx : I[k]? = some x) : ((I.take (k + 1)).filter (isAt s)).length = ((I.take k).filter (isAt s)).length + if isAt s x then 1 else 0 := by
  rw [filt_take hx, List.length_append]
  cases isAt s x <;> rfl
section
variable {B : Nat} {w : World} {g ms : Nat} {mv iv : Value} {S : GS}
set_option maxRecDepth 100000 in
set_option maxHeartbeats 8000000 in
theorem under_any (h : Gp B w g ms mv iv S) (hI : S.I.length < 1000000) (A : Option Addr) (cap : Nat) (l : List ByteArray) (hS : SliceIs kS w A l) (hl : l.length < 1000000) :
    Calls Try.prog 115 #[.pointer (some ⟨g, 0, none⟩), .slice A l.length cap] w (fun e w' => (∃ v, e = .returned v ∧ OwnI w' v (l.map (underN S.I))) ∧ Below w.heap.size w w') := by
  have HH := Lib.hid h
  have HI := Lib.hid hI
  have HL := Lib.hid hl
  have HS := Lib.hid hS
  have hlen := hS.len
  unfold maxLen at hlen
  have hlenI : S.I.length ≤ 9223372036854775807 := by omega
  generalize hP : (fun (e : Ending) (w' : World) => (∃ v, e = .returned v ∧ OwnI w' v (l.map (underN S.I))) ∧ Below w.heap.size w w') = PP
  have HPP := Lib.hid (show ∀ v w', OwnI w' v (l.map (underN S.I)) → Below w.heap.size w w' → PP (.returned v) w' from fun v w' h1 h2 => by
    rw [← hP]
    exact ⟨⟨v, rfl, h1⟩, h2⟩)
  obtain ⟨A0, c0, hiv, hS0⟩ := h.items
  have HSI := Lib.hid hS0
  have HIV := Lib.hid hiv
  clear h hI hl hS hP hS0 hiv
  go_enter Try.func115, Try.ntmps115
  go_wp2_with fail
  go_loopw [5, 13] (fun v x wr => ∃ k : Nat, k ≤ l.length ∧ x = .int .i64 k ∧ Below w.heap.size w wr ∧ OwnI wr v ((l.take k).map (underN S.I)) ∧ Newer w v) (fun _ x _ => l.length - (intOf x).toNat)
  case atStart => exact ⟨0, by omega, rfl, Below.refl _ _, OwnI.nil _, Newer.nil _⟩
  case round =>
    obtain ⟨wo, rfl⟩ : ∃ wo, wo = wr := ⟨_, rfl⟩
    obtain ⟨k, hk, rfl, hB, hO, hN⟩ := hrel
    have HB := Lib.hid hB
    have HO := Lib.hid hO
    have HN := Lib.hid hN
    clear hO hN
    by_cases hlt : k < l.length
    · obtain ⟨b, off, hA, cs, -⟩ := str_cell (HS.out.below hB) hlt
      have hks : l[k]? = some (l.getD k ByteArray.empty) := by rw [List.getD_eq_getElem?_getD, List.getElem?_eq_getElem hlt]; rfl
      generalize l.getD k ByteArray.empty = s at cs hks
      have HKS := Lib.hid hks
      have c4 := (HH.out.below hB).c4
      rw [HIV.out] at c4
      subst hA
      clear hB hks
      go_wp2_with fail
      go_loopw [8, 22] (fun cv x wr => ∃ j : Nat, j ≤ S.I.length ∧ x = .int .i64 j ∧ cv = .int .i64 (((S.I.take j).filter (isAt s)).length : Nat) ∧ Below wo.heap.size wo wr) (fun _ x _ => S.I.length - (intOf x).toNat)
      case atStart => exact ⟨0, by omega, rfl, rfl, Below.refl _ _⟩
      case round =>
        obtain ⟨j, hj, rfl, rfl, hBq⟩ := hrel
        have HBQ := Lib.hid hBq
        have hcl : ((S.I.take j).filter (isAt s)).length ≤ j := Nat.le_trans (List.length_filter_le _ _) (by rw [List.length_take]; omega)
        by_cases hlt2 : j < S.I.length
        · obtain ⟨x, hx⟩ : ∃ x, S.I[j]? = some x := ⟨_, List.getElem?_eq_getElem hlt2⟩
          have HST := Lib.hid (under_step (s := s) hx)
          obtain ⟨b2, off2, hA2, -, ⟨d0, d1, d2, d3, d4, d5, d6, d7, d8, d9, d10, d11⟩, -, -, -⟩ := item_cells ((HSI.out.below HB.out).below hBq) hx
          obtain ⟨wB, hwB⟩ : ∃ wB, wB = wr.alloc (.cells x.vals.toArray 45) := ⟨_, rfl⟩
          have hcp : CpAt wB wr.heap.size x := by rw [hwB]; exact CpAt.new wr _
          have HBB := Lib.hid (show Below wo.heap.size wo wB by rw [hwB]; exact copy_below hBq _)
          have HWB := Lib.hid hwB
          have HCP := Lib.hid hcp
          unfold It.vals at HWB
          subst hA2
          clear hx hBq hwB hcp
          generalize hcn : ((S.I.take j).filter (isAt s)).length = cn at *
          by_cases hs : s = ByteArray.empty
          · have hat : isAt s x = false := by unfold isAt; rw [decide_eq_false (by simpa using hs)]; rfl
            have HAT := Lib.hid hat
            rw [hat] at HST
            clear hat
            subst hs
            go_upto_region 9 with (fail)
            rw [← HWB.out]
            obtain ⟨f0, f1, f2, f3, f4, f5, f6, f7, f8, f9, f10, f11⟩ := HCP.out
            clear d0 d1 d2 d3 d4 d5 d6 d7 d8 d9 d10 d11 HWB HCP
            go_wp2_with fail
            go_roundw
            case rel => exact ⟨j + 1, by omega, by go_num, by rw [HST.out]; simp, HBB.out⟩
            case measure => simp [intOf]; omega
          · by_cases ha : x.at_ = s
            · have hat : isAt s x = true := by unfold isAt; rw [decide_eq_true (by simpa using hs), decide_eq_true ha]; rfl
              obtain ⟨a1, a2⟩ := ne_empty hs
              have HAT := Lib.hid hat
              rw [hat] at HST
              clear hat
              have HA := Lib.hid ha
              clear ha
              go_upto_region 9 with (fail)
              rw [← HWB.out]
              obtain ⟨f0, f1, f2, f3, f4, f5, f6, f7, f8, f9, f10, f11⟩ := HCP.out
              clear d0 d1 d2 d3 d4 d5 d6 d7 d8 d9 d10 d11 HWB HCP
              rw [HA.out] at f9
              go_wp2_with fail
              go_roundw
              case rel => exact ⟨j + 1, by omega, by go_num, by rw [HST.out]; first | rfl | (simp; go_num) | go_num, HBB.out⟩
              case measure => simp [intOf]; omega
            · have hat : isAt s x = false := by unfold isAt; rw [decide_eq_false ha, Bool.and_false]
              obtain ⟨a1, a2⟩ := ne_empty hs
              have hsb := str_ne ha
              have HAT := Lib.hid hat
              rw [hat] at HST
              clear hat
              go_upto_region 9 with (fail)
              rw [← HWB.out]
              obtain ⟨f0, f1, f2, f3, f4, f5, f6, f7, f8, f9, f10, f11⟩ := HCP.out
              clear d0 d1 d2 d3 d4 d5 d6 d7 d8 d9 d10 d11 HWB HCP
              go_wp2_with fail
              go_roundw
              case rel => exact ⟨j + 1, by omega, by go_num, by rw [HST.out]; simp, HBB.out⟩
              case measure => simp [intOf]; omega
        · obtain rfl : j = S.I.length := by omega
          have hB2 := HB.out.trans (HBQ.out.mono HB.out.size)
          have HO2 := Lib.hid (HO.out.below HBQ.out)
          have hun : ((S.I.take S.I.length).filter (isAt s)).length = underN S.I s := (underN_all S.I s).symm
          have hsm : underN S.I s ≤ 1000000 := by rw [← hun]; have := HI.out; omega
          obtain ⟨v', w3, hr, ho', ht', hl'⟩ := HO2.out.snoc (by rw [List.length_map, List.length_take]; have := HL.out; omega) (underN S.I s) hsm
          have HN' := Lib.hid (HN.out.step hB2 hl')
          have HB' := Lib.hid (HN.out.below hB2 ht')
          have HO' := Lib.hid (show OwnI w3 v' ((l.take (k + 1)).map (underN S.I)) by
            obtain ⟨hk1, he1⟩ := List.getElem?_eq_some_iff.1 HKS.out
            rw [List.take_succ_eq_append_getElem hk1, List.map_append, he1]
            exact ho')
          have HRUN := Lib.hid hr
          rw [← hun] at HRUN
          generalize ((S.I.take S.I.length).filter (isAt s)).length = cn at *
          clear hBq hB2 hun hsm hr ho' ht' hl' hcl
          go_wp2_with (at_builtin; refine wpList_append_eq rfl _ _ _ rfl rfl rfl HRUN.out ?_)
          go_roundw
          case rel => exact ⟨k + 1, by omega, by go_num, HB'.out, HO'.out, HN'.out⟩
          case measure => simp [intOf]; omega
    · obtain rfl : k = l.length := by omega
      have hO := HO.out
      rw [List.take_length] at hO
      have HE := Lib.hid (HPP.out _ _ hO HB.out)
      clear hB hO
      go_wp2_with fail
      exact HE.out
end
end Go.Proofs.Ytclhgnlhejohgaa.GrpW
set_option linter.unusedVariables false
set_option linter.unusedSimpArgs false
namespace Go.Proofs.Ytclhgnlhejohgaa.GrpW
open Go.RowKit Go.Proofs.Ytclhgnlhejohgaa.Tc Go.Proofs.Ytclhgnlhejohgaa.GrpP
open Go.Proofs.Ytclhgnlhejohgaa.LaneW (OwnIt OwnI Newer copy_below info3 info45)
open Go.Proofs.Ytclhgnlhejohgaa.PickW (OwnS kS kI Small str_cell rank)

theorem free_fn (b : Nat) (s : ByteArray) (A : Option Addr) (cap : Nat) (free : List ByteArray) (W : World) (hc : W.cell? ⟨b, 0, none⟩ = some (.slice A free.length cap)) (hS : SliceIs kS W A free) :
    Calls Try.prog 110 #[.string s, .pointer (some ⟨b, 0, none⟩)] W fun e w' => e = .returned (.bool (!PickP.has free s)) ∧ Below W.heap.size W w' := by
  have HC := Lib.hid (PickW.contains_any W A cap free hS s)
  clear hS
  go_enter Try.func110, Try.ntmps110
  go_wp2_with fail
  refine HC.out.mono ?_
  rintro e w2 ⟨rfl, rfl⟩
  go_wp2_with fail
  go_ret
  exact ⟨rfl, Below.refl _ _⟩
theorem from_fn (b : Nat) (f : ByteArray) (A : Option Addr) (cap : Nat) (l : List ByteArray) (W : World) (hc : W.cell? ⟨b, 5, none⟩ = some (.string f)) (hS : SliceIs kS W A l) (hk : f.size ≤ 200) (hs : Small l) :
    Calls Try.prog 112 #[.slice A l.length cap, .pointer (some ⟨b, 0, none⟩)] W fun e w' => e = .returned (.string (PickP.hash (rank f) l)) ∧ Below W.heap.size W w' := by
  have HC := Lib.hid (hash_any2 W A cap l f hS hk hs)
  clear hS hk hs
  go_enter Try.func112, Try.ntmps112
  go_wp2_with fail
  refine HC.out.mono ?_
  rintro e w2 ⟨rfl, hb⟩
  have HB := Lib.hid hb
  clear hb
  go_wp2_with fail
  go_ret
  exact ⟨rfl, HB.out⟩
theorem key_fn (b : Nat) (f : ByteArray) (A : Option Addr) (cap : Nat) (l : List ByteArray) (W : World) (hc : W.cell? ⟨b, 0, none⟩ = some (.string f)) (hS : SliceIs kS W A l) (hk : f.size ≤ 200) (hs : Small l) :
    Calls Try.prog 122 #[.slice A l.length cap, .pointer (some ⟨b, 0, none⟩)] W fun e w' => e = .returned (.string (PickP.hash (rank f) l)) ∧ Below W.heap.size W w' := by
  have HC := Lib.hid (hash_any2 W A cap l f hS hk hs)
  clear hS hk hs
  go_enter Try.func122, Try.ntmps122
  go_wp2_with fail
  refine HC.out.mono ?_
  rintro e w2 ⟨rfl, hb⟩
  have HB := Lib.hid hb
  clear hb
  go_wp2_with fail
  go_ret
  exact ⟨rfl, HB.out⟩
theorem head_fn (A : Option Addr) (cap : Nat) (l : List ByteArray) (W : World) (hS : SliceIs kS W A l) (h0 : l ≠ []) :
    Calls Try.prog 117 #[.slice A l.length cap] W fun e w' => e = .returned (.string (l.getD 0 ByteArray.empty)) ∧ Below W.heap.size W w' := by
  have hlt := List.length_pos_iff.2 h0
  obtain ⟨b, off, rfl, c0, -⟩ := str_cell hS hlt
  have hlen := hS.len
  unfold maxLen at hlen
  rw [Nat.add_zero] at c0
  generalize l.getD 0 ByteArray.empty = s at c0 ⊢
  generalize l.length = n at *
  have hn : (0 : Int) < n := by omega
  clear hS h0
  go_enter Try.func117, Try.ntmps117
  go_wp2_with fail
  go_ret
  exact ⟨rfl, Below.refl _ _⟩
theorem none_fn (x : Tc.It) (W : World) : Calls Try.prog 116 #[x.val] W fun e w' => e = .returned (.bool (decide (x.at_ = LaneP.No))) ∧ Below W.heap.size W w' := by
  have HB := Lib.hid (alloc_below W (.cells x.vals.toArray 45))
  obtain ⟨W2, hW2⟩ : ∃ W2, W2 = W.alloc (.cells x.vals.toArray 45) := ⟨_, rfl⟩
  have hcp : CpAt W2 W.heap.size x := by rw [hW2]; exact CpAt.new W _
  have c9 := hcp.c9
  rw [← hW2] at HB
  have HW := Lib.hid hW2
  unfold It.vals at HW
  unfold It.val
  clear hW2 hcp
  by_cases ha : x.at_ = LaneP.No
  · rw [decide_eq_true ha]
    rw [ha] at c9
    unfold LaneP.No at c9
    clear ha
    go_enter Try.func116, Try.ntmps116
    go_upto_region 1 with (fail)
    rw [← HW.out]
    clear HW
    go_wp2_with fail
    go_ret
    exact ⟨rfl, HB.out⟩
  · rw [decide_eq_false ha]
    obtain ⟨a1, a2⟩ := ne_empty ha
    clear ha
    go_enter Try.func116, Try.ntmps116
    go_upto_region 1 with (fail)
    rw [← HW.out]
    clear HW
    go_wp2_with fail
    go_ret
    exact ⟨rfl, HB.out⟩
section
variable {B : Nat} {w : World} {g ms : Nat} {mv iv : Value} {S : GS}
set_option maxRecDepth 100000 in
set_option maxHeartbeats 2000000 in
theorem least_fn (h : Gp B w g ms mv iv S) (hI : S.I.length < 1000000) (b : Nat) (A : Option Addr) (cap : Nat) (l : List ByteArray) (hc : w.cell? ⟨b, 0, none⟩ = some (.pointer (some ⟨g, 0, none⟩))) (hS : SliceIs kS w A l) (hl : l.length < 1000000) :
    Calls Try.prog 114 #[.slice A l.length cap, .pointer (some ⟨b, 0, none⟩)] w fun e w' => e = .returned (.string (PickP.least l (underP S.I l))) ∧ Below w.heap.size w w' := by
  generalize hr : PickP.least l (underP S.I l) = r
  have HR := Lib.hid hr
  have HU := Lib.hid (under_any h hI A cap l hS hl)
  have HS := Lib.hid hS
  have HL := Lib.hid hl
  clear h hS hl hr
  go_enter Try.func114, Try.ntmps114
  go_wp2_with fail
  refine HU.out.mono ?_
  rintro e w2 ⟨⟨v, rfl, ho⟩, hb⟩
  obtain ⟨A2, c2, rfl, hs2⟩ := ho.form
  have hil : (l.map (underN S.I)).length = (LaneW.ints (l.map (underN S.I))).length := by simp [LaneW.ints]
  have hun : LaneW.ints (l.map (underN S.I)) = underP S.I l := by unfold LaneW.ints underP; rw [List.map_map]; rfl
  have HC := Lib.hid (PickW.least_any w2 A A2 cap c2 l (underP S.I l) (HS.out.below hb) (by rw [← hun]; exact hs2) (by have := HL.out; omega))
  have HB := Lib.hid hb
  rw [HR.out, ← hun, ← hil, List.length_map] at HC
  clear hb ho hs2 hil hun
  go_wp2_with fail
  refine HC.out.mono ?_
  rintro e w3 ⟨rfl, hb⟩
  have HB3 := Lib.hid (then_below HB.out hb)
  clear hb
  go_wp2_with fail
  go_ret
  exact ⟨rfl, HB3.out⟩
set_option maxRecDepth 100000 in
set_option maxHeartbeats 4000000 in
theorem turn_fn (h : Gp B w g ms mv iv S) (b14 b3 : Nat) (A An : Option Addr) (cap cn : Nat) (l names : List ByteArray) (hg : w.cell? ⟨b3, 0, none⟩ = some (.pointer (some ⟨g, 0, none⟩))) (hn : w.cell? ⟨b14, 0, none⟩ = some (.slice An names.length cn)) (hS : SliceIs kS w A l) (hN : SliceIs kS w An names) (hl : names.length ≤ 1000000) :
    Calls Try.prog 118 #[.slice A l.length cap, .pointer (some ⟨b14, 0, none⟩), .pointer (some ⟨b3, 0, none⟩)] w fun e w' => e = .returned (.string (PickP.robin names l S.last)) ∧ Below w.heap.size w w' := by
  have HC := Lib.hid (fun W (hb : Below w.heap.size w W) => PickW.robin_any W An A cn cap names l S.last (hN.below hb) (hS.below hb) hl)
  have d1 := fun n : Wd (Gr w) => n.cell hg
  have d2 := fun n : Wd (Gr w) => n.cell hn
  have d3 := fun n : Wd (Gr w) => n.cell h.c5
  clear h hg hn hS hN hl
  generalize PickP.robin names l S.last = r at *
  go_enter Try.func118, Try.ntmps118
  go_upto_region 1 with (fail)
  refine wp_region_cls (Gr w) (gr_drew w) (by kernel_rfl) (by kernel_rfl) ?_
  repeat (go_big_quiet_step ((go_at_call 23; exact cls_same (HC.out _ (Wd.ok _)))))
  refine wpQuiet_nil ?_
  rintro _ ⟨⟨wq, hq⟩, rfl⟩
  go_wp2_with fail
  go_ret
  exact ⟨rfl, hq⟩
end
end Go.Proofs.Ytclhgnlhejohgaa.GrpW
set_option linter.unusedVariables false
set_option linter.unusedSimpArgs false
namespace Go.Proofs.Ytclhgnlhejohgaa.GrpW
open Go.RowKit Go.Proofs.Ytclhgnlhejohgaa.Tc Go.Proofs.Ytclhgnlhejohgaa.GrpP
open Go.Proofs.Ytclhgnlhejohgaa.LaneW (OwnIt OwnI Newer copy_below info3 info45 ownP)
open Go.Proofs.Ytclhgnlhejohgaa.PickW (OwnS kS kI Small str_cell rank)

/-- The lane's choice, among those that may. -/
def hashP (I : List Tc.It) (k : Nat) (x : Tc.It) (free ml : List ByteArray) : ByteArray × Bool :=
  if (ownP (LaneW.pr I) x.msg.topic).2 = true then ((ownP (LaneW.pr I) x.msg.topic).1, PickP.has free (ownP (LaneW.pr I) x.msg.topic).1 && LaneP.may (LaneW.pr I) k (ownP (LaneW.pr I) x.msg.topic).1)
  else ((oneP ml (PickP.hash (rank x.msg.topic) ml) free).1, (oneP ml (PickP.hash (rank x.msg.topic) ml) free).2 && LaneP.may (LaneW.pr I) k (oneP ml (PickP.hash (rank x.msg.topic) ml) free).1)
section
variable {B : Nat} {w : World} {g ms : Nat} {mv iv : Value} {S : GS}
set_option maxRecDepth 100000 in
set_option maxHeartbeats 8000000 in
theorem hashed_any (h : Gp B w g ms mv iv S) (hI : S.I.length < 1000000) (k : Nat) (x : Tc.It) (hx : S.I[k]? = some x) (A Af : Option Addr) (cap capf : Nat) (ml free : List ByteArray) (hS : SliceIs kS w A ml) (hf : SliceIs kS w Af free) (hk : x.msg.topic.size ≤ 200) (hs : Small ml) :
    Calls Try.prog 113 #[.pointer (some ⟨g, 0, none⟩), .int .i64 k, .slice A ml.length cap, .slice Af free.length capf] w (fun e w' => e = .returned (.tuple #[.string (hashP S.I k x free ml).1, .bool (hashP S.I k x free ml).2]) ∧ Below w.heap.size w w') := by
  generalize hP : (fun (e : Ending) (w' : World) => e = .returned (.tuple #[.string (hashP S.I k x free ml).1, .bool (hashP S.I k x free ml).2]) ∧ Below w.heap.size w w') = PP
  have HPP := Lib.hid (show ∀ w', Below w.heap.size w w' → PP (.returned (.tuple #[.string (hashP S.I k x free ml).1, .bool (hashP S.I k x free ml).2])) w' from fun w' h1 => by
    rw [← hP]
    exact ⟨rfl, h1⟩)
  clear hP
  have HG := Lib.hid h
  obtain ⟨A0, c0, hiv, hSI⟩ := h.items
  have hlt := (List.getElem?_eq_some_iff.1 hx).1
  obtain ⟨b, off, hA, -, ⟨c0', c1, c2, c3, c4, c5, c6, c7, c8, c9, c10, c11⟩, -, -, -⟩ := item_cells hSI hx
  have g4 := h.c4
  have HSI := Lib.hid hSI
  have HIV := Lib.hid hiv
  rw [hiv] at g4
  subst hA
  have HK := Lib.hid (LaneW.key_any x.msg w)
  unfold Mg.val at HK
  have HS := Lib.hid hS
  have HF := Lib.hid hf
  have HKS := Lib.hid hk
  have HSM := Lib.hid hs
  have hlen := hSI.len
  unfold maxLen at hlen
  have hk0 : (0 : Int) ≤ k := by omega
  clear h hiv hSI hx hS hf hk hs hI
  unfold hashP at HPP
  go_enter Try.func113, Try.ntmps113
  go_wp2_with fail
  refine HK.out.mono ?_
  rintro e w2 ⟨rfl, hb2⟩
  obtain ⟨w3, hw3⟩ : ∃ w3, w3 = w2.alloc (.cells #[.string x.msg.topic] 9) := ⟨_, rfl⟩
  have hb3 : Below w2.heap.size w2 w3 := by rw [hw3]; exact alloc_below _ _
  have z3 : w3.cell? ⟨w2.heap.size, 0, none⟩ = some (.string x.msg.topic) := by rw [hw3]; exact cell_of (heap_alloc_new w2 _) rfl
  have HB3 := Lib.hid (then_below hb2 hb3)
  have HZ3 := Lib.hid z3
  have HW3 := Lib.hid hw3
  have HO := Lib.hid (fun W (hb : Below w3.heap.size w3 W) => LaneW.owner_any W (some ⟨b, off, none⟩) c0 S.I x.msg.topic ((HSI.out.below HB3.out).below hb))
  have d1 := fun n : Wd (Gr w3) => n.cell (show w3.cell? ⟨g, 4, none⟩ = some (.slice (some ⟨b, off, none⟩) S.I.length c0) by rw [← HIV.out]; exact (HG.out.below HB3.out).c4)
  have d2 := fun n : Wd (Gr w3) => n.cell z3
  clear hb2 hb3 z3 hw3 c0' c1 c2 c3 c4 c5 c6 c7 c8 c9 c10 c11 g4
  generalize ownP (LaneW.pr S.I) x.msg.topic = r at *
  obtain ⟨s, found⟩ := r
  dsimp only at HPP HO
  go_upto_region 2 with (fail)
  rw [← HW3.out]
  clear HW3
  refine wp_region_cls (Gr w3) (gr_drew w3) (by kernel_rfl) (by kernel_rfl) ?_
  repeat (go_big_quiet_step ((go_at_call 32; exact cls_call (HO.out _ (Wd.ok _)))))
  refine wpQuiet_nil ?_
  rintro wq ⟨nq, hnq⟩
  have hq := nq.ok
  rw [← hnq] at hq
  clear hnq nq
  have HBQ := Lib.hid (then_below HB3.out hq)
  have HZQ := Lib.hid ((Same.of_below hq).cell HZ3.out)
  have e4 : wq.cell? ⟨g, 4, none⟩ = some (.slice (some ⟨b, off, none⟩) S.I.length c0) := by rw [← HIV.out]; exact (HG.out.below HBQ.out).c4
  clear hq d1 d2
  cases found with
  | true =>
    rw [if_pos rfl] at HPP
    have HC := Lib.hid (PickW.contains_any wq Af capf free (HF.out.below HBQ.out) s)
    have HM := Lib.hid (LaneW.may_any wq (some ⟨b, off, none⟩) c0 S.I (k : Int) s (HSI.out.below HBQ.out))
    cases hc : PickP.has free s with
    | true =>
      rw [hc] at HC HPP
      clear hc
      go_wp2_with fail
      refine HC.out.mono ?_
      rintro e w4 ⟨rfl, rfl⟩
      go_wp2_with fail
      refine HM.out.mono ?_
      rintro e w5 ⟨rfl, hb5⟩
      have HE := Lib.hid (HPP.out w5 (then_below HBQ.out hb5))
      clear hb5
      rw [Bool.true_and] at HE
      go_wp2_with fail
      exact HE.out
    | false =>
      rw [hc] at HC HPP
      have HE := Lib.hid (HPP.out wq HBQ.out)
      rw [Bool.false_and] at HE
      clear hc
      go_wp2_with fail
      refine HC.out.mono ?_
      rintro e w4 ⟨rfl, rfl⟩
      go_wp2_with fail
      exact HE.out
  | false =>
    rw [if_neg (by decide)] at HPP
    have HC := Lib.hid (one1_any 122 (.pointer (some ⟨w2.heap.size, 0, none⟩)) (enters_of Try.func122 (by kernel_rfl) rfl) wq A Af cap capf ml free (by have := HS.out.len; unfold maxLen at this; omega) (HF.out.below HBQ.out) (PickP.hash (rank x.msg.topic) ml)
      (fun _ => key_fn w2.heap.size x.msg.topic A cap ml wq HZQ.out (HS.out.below HBQ.out) HKS.out HSM.out))
    generalize oneP ml (PickP.hash (rank x.msg.topic) ml) free = r at *
    obtain ⟨s2, ok⟩ := r
    dsimp only at HPP HC
    go_wp2_with fail
    refine HC.out.mono ?_
    rintro e w4 ⟨rfl, hb4⟩
    have HB4 := Lib.hid (then_below HBQ.out hb4)
    have f4 := (Same.of_below hb4).cell e4
    clear hb4
    have HM := Lib.hid (LaneW.may_any w4 (some ⟨b, off, none⟩) c0 S.I (k : Int) s2 (HSI.out.below HB4.out))
    cases ok with
    | true =>
      go_wp2_with fail
      refine HM.out.mono ?_
      rintro e w5 ⟨rfl, hb5⟩
      have HE := Lib.hid (HPP.out w5 (then_below HB4.out hb5))
      clear hb5
      rw [Bool.true_and] at HE
      go_wp2_with fail
      exact HE.out
    | false =>
      have HE := Lib.hid (HPP.out w4 HB4.out)
      rw [Bool.false_and] at HE
      go_wp2_with fail
      exact HE.out
end
end Go.Proofs.Ytclhgnlhejohgaa.GrpW
