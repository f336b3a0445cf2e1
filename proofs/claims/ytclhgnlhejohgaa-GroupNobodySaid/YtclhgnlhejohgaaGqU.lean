/- A group's queue: what must come, and what a loop keeps. -/
import Derived.Test.YtclhgnlhejohgaaGqS
import Derived.Test.YtclhgnlhejohgaaPickA
set_option linter.unusedVariables false
set_option linter.unusedSimpArgs false
namespace Go.Proofs.Ytclhgnlhejohgaa.GrpW
open Go.RowKit Go.Proofs.Ytclhgnlhejohgaa.Tc Go.Proofs.Ytclhgnlhejohgaa.GrpP
open Go.Proofs.Ytclhgnlhejohgaa.PickW (kS kI strs_new)
open Go.Proofs.Ytclhgnlhejohgaa.PickP (has robin)
open Go.Proofs.Ytclhgnlhejohgaa.MemP (Mem)

def cX : ByteArray := ⟨#[120]⟩
def cY : ByteArray := ⟨#[121]⟩
def gA : ByteArray := ⟨#[103, 47, 97]⟩
def L1 : List Mem := [⟨cX, 1, 1, true⟩]
def L2 : List Mem := [⟨cX, 1, 1, true⟩, ⟨cY, 2, 1, true⟩]
def FF : List ByteArray := [cX, cY]
theorem cXY : cX ≠ cY := by decide
theorem jn1 : MemP.act [] 0 1 cX 1 = (true, L1, 1) := rfl
theorem jn2 : MemP.act L1 1 1 cY 1 = (true, L2, 2) := by simp [MemP.act, MemP.find, L1, L2, cXY, List.findIdx?_cons]
def mN (n : Int) : Tc.Mg := ⟨⟨#[]⟩, ⟨#[]⟩, 0, false, none, 0, [], ⟨#[]⟩, 0, n, ⟨#[]⟩⟩
theorem mN_wf (n : Int) (h0 : -100 ≤ n) (h1 : n ≤ 100) : (mN n).wf := by
  refine ⟨Nat.zero_le _, Nat.zero_le _, rfl, Nat.zero_le _, rfl, ?_, Nat.zero_le _⟩
  have h3 : IntKind.i64.min = -9223372036854775808 := rfl
  have h4 : IntKind.i64.max = 9223372036854775807 := rfl
  simp [Lit.wf, h3, h4, mN]
  omega
theorem here2 : MemP.here L2 = [cX, cY] := by simp [MemP.here, L2]
theorem rd0 {x : Tc.It} (hb : x.behind = []) : readyP L2 x FF = [cX, cY] := by
  unfold readyP mayP
  rw [hb, here2]
  decide
theorem rd1 {x : Tc.It} (hb : x.behind = [cX]) : readyP L2 x FF = [cY] := by
  unfold readyP mayP
  rw [hb, here2]
  decide
theorem wh1 (I : List Tc.It) (last : ByteArray) (k : Nat) (x : Tc.It) : whomP 1 I L2 last k x FF = oneP (readyP L2 x FF) (robin [cX, cY] (readyP L2 x FF) last) FF := by
  unfold whomP
  rw [if_neg (by decide), if_neg (by decide), if_neg (by decide), if_neg (by decide)]
  rfl
theorem wz0 (I : List Tc.It) (k : Nat) {x : Tc.It} (hb : x.behind = []) : whomP 1 I L2 ByteArray.empty k x FF = (cX, true) := by
  rw [wh1, rd0 hb]
  decide
theorem wz1 (I : List Tc.It) (k : Nat) {x : Tc.It} (hb : x.behind = []) : whomP 1 I L2 cX k x FF = (cY, true) := by
  rw [wh1, rd0 hb]
  decide
theorem wz2 (I : List Tc.It) (k : Nat) {x : Tc.It} (hb : x.behind = [cX]) : whomP 1 I L2 cX k x FF = (cY, true) := by
  rw [wh1, rd1 hb]
  decide
theorem n0 {x1 x2 : Tc.It} {last : ByteArray} {c : ByteArray} (ha : x1.at_ = ByteArray.empty) (hw : whomP 1 [x1, x2] L2 last 0 x1 FF = (c, true)) : nextN 1 [x1, x2] L2 last FF = some 0 := by
  refine next_first (show (0 : Nat) < 2 by decide) (fun j hj => by omega) ?_
  show (decide (x1.at_ = LaneP.No) && (whomP 1 [x1, x2] L2 last 0 x1 FF).2) = true
  rw [hw, ha]
  rfl
theorem n1 {x1 x2 : Tc.It} {last : ByteArray} {c : ByteArray} (h1 : x1.at_ = cX) (ha : x2.at_ = ByteArray.empty) (hw : whomP 1 [x1, x2] L2 last 1 x2 FF = (c, true)) : nextN 1 [x1, x2] L2 last FF = some 1 := by
  refine next_first (show (1 : Nat) < 2 by decide) (fun j hj => ?_) ?_
  · obtain rfl : j = 0 := by omega
    show (decide (x1.at_ = LaneP.No) && (whomP 1 [x1, x2] L2 last 0 x1 FF).2) = false
    rw [h1, decide_eq_false (show ¬ cX = LaneP.No by decide)]
    rfl
  · show (decide (x2.at_ = LaneP.No) && (whomP 1 [x1, x2] L2 last 1 x2 FF).2) = true
    rw [hw, ha]
    rfl
theorem gx0 {x1 x2 : Tc.It} (h1 : x1.msg.seq = 1) : gidx [x1, x2] (isSeq 1) = ((0 : Nat) : Int) := gidx_at (x := x1) rfl (by unfold isSeq; rw [h1]; rfl) (fun j y hj => by omega)
theorem gw0 {x1 x2 : Tc.It} {c : ByteArray} (hc : c ≠ ByteArray.empty) (h1 : x1.msg.seq = 1) (h2 : x1.at_ = c) : gidx [x1, x2] (isWith 1 c) = ((0 : Nat) : Int) := gidx_at (x := x1) rfl (by unfold isWith; rw [h1, h2]; simp [hc]) (fun j y hj => by omega)
def SS (I : List Tc.It) (last : ByteArray) : GS := ⟨gA, 1, 2, I, L2, 2, last⟩
theorem getX : (MemP.get L2 cX).map Mem.online = some true := by simp [MemP.get, MemP.find, L2, List.findIdx?_cons]
theorem getY : (MemP.get L2 cY).map Mem.online = some true := by simp [MemP.get, MemP.find, L2, cXY, List.findIdx?_cons]
theorem sent0 {x1 x2 : Tc.It} {last c : ByteArray} (h1 : x1.msg.seq = 1) (ha : x1.at_ = ByteArray.empty) (hg : (MemP.get L2 c).map Mem.online = some true) : sentAt (SS [x1, x2] last) 1 c = some 0 ∧ sentP (SS [x1, x2] last) 1 c = SS [snt c x1, x2] c := by
  have h : sentAt (SS [x1, x2] last) 1 c = some 0 := by
    unfold sentAt
    show (match [x1, x2][(gidx [x1, x2] (isSeq 1)).toNat]? with
      | some x => if 0 ≤ gidx [x1, x2] (isSeq 1) ∧ x.at_ = ByteArray.empty ∧ ((MemP.get L2 c).map MemP.Mem.online) = some true ∧ ((1 : Int) = 3 → LaneP.may (LaneW.pr [x1, x2]) (gidx [x1, x2] (isSeq 1)) c = true) then some (gidx [x1, x2] (isSeq 1)).toNat else none
      | none => none) = some 0
    rw [gx0 h1]
    show (if (0 : Int) ≤ ((0 : Nat) : Int) ∧ x1.at_ = ByteArray.empty ∧ _ ∧ _ then some 0 else none) = some 0
    rw [if_pos ⟨by omega, ha, hg, fun h => by omega⟩]
  exact ⟨h, sentP_some h rfl⟩
theorem done0 {x1 x2 : Tc.It} {last c : ByteArray} (hc : c ≠ ByteArray.empty) (h1 : x1.msg.seq = 1) (h2 : x1.at_ = c) : doneP (SS [x1, x2] last) 1 c = SS [x2] last ∧ decide (0 ≤ gidx (SS [x1, x2] last).I (isWith 1 c)) = true := by
  have h := gw0 (x2 := x2) hc h1 h2
  refine ⟨?_, ?_⟩
  · unfold doneP
    show ({ SS [x1, x2] last with I := if 0 ≤ gidx [x1, x2] (isWith 1 c) then [x1, x2].eraseIdx (gidx [x1, x2] (isWith 1 c)).toNat else [x1, x2] } : GS) = _
    rw [h]
    rfl
  · show decide (0 ≤ gidx [x1, x2] (isWith 1 c)) = true
    rw [h]
    rfl
def QQ (m : Tc.Mg) : Prop := m.topic.size ≤ 200 ∧ m.from_.size ≤ 200 ∧ m.props.length < 1000000
theorem fresh_q {n : Int} {x : Tc.It} (h : IsFresh (mN n) x) : QQ x.msg := by
  obtain ⟨A, c, e⟩ := h.msg
  rw [e]
  exact ⟨Nat.zero_le _, Nat.zero_le _, (show (0 : Nat) < 1000000 by decide)⟩
theorem two_q {x1 x2 : Tc.It} (h1 : QQ x1.msg) (h2 : QQ x2.msg) : ∀ x ∈ [x1, x2], x.msg.topic.size ≤ 200 ∧ x.msg.from_.size ≤ 200 ∧ x.msg.props.length < 1000000 := by
  intro x hx
  rcases List.mem_cons.1 hx with rfl | hx
  · exact h1
  · rw [List.mem_singleton] at hx
    rw [hx]
    exact h2
set_option maxRecDepth 100000 in
set_option maxHeartbeats 16000000 in
theorem awake_any (w : World) : Calls Try.prog 59 #[] w fun e w' => e = .returned (.bool true) ∧ Below w.heap.size w w' := by
  have hlX : cX.toList = [120] := by kernel_rfl
  have hlY : cY.toList = [121] := by kernel_rfl
  have hlG : gA.toList = [103, 47, 97] := by kernel_rfl
  have hlE : ByteArray.empty.toList = [] := by kernel_rfl
  have hsX : cX.size ≤ maxLen := by decide
  have hsY : cY.size ≤ maxLen := by decide
  have HP0 := Lib.hid (fun (W : World) => SliceIs.nil (d := kProp) W none)
  go_enter Try.func59, Try.ntmps59
  have HX := Lib.hid (new_any w gA 1 2 w.heap.size (Nat.le_refl _))
  go_wp2_with fail
  refine HX.out.mono ?_
  rintro e w0 ⟨rfl, hg, hb⟩
  have G0 := Lib.hid hg
  have B0 := Lib.hid hb
  obtain ⟨g, hgg⟩ : ∃ g, g = w.heap.size + 1 := ⟨_, rfl⟩
  rw [← hgg] at G0 ⊢
  obtain ⟨ms, hms⟩ : ∃ ms, ms = w.heap.size := ⟨_, rfl⟩
  have HMS := Lib.hid hms
  have HGG := Lib.hid hgg
  clear hg hb HX hgg hms
  have HX := Lib.hid (join_any (S := ⟨gA, 1, 2, [], [], 0, ByteArray.empty⟩) G0.out (by decide) (by decide) (by decide) cX hsX 1 (by decide))
  rw [jn1] at HX
  go_wp2_with fail
  refine HX.out.mono ?_
  rintro e w1 ⟨mv1, iv1, rfl, hg, hf⟩
  have G1 := Lib.hid (show Gp w.heap.size w1 g w.heap.size mv1 iv1 (⟨gA, 1, 2, [], L1, 1, ByteArray.empty⟩) from hg)
  have B1 := Lib.hid (B0.out.trans (hf.below B0.out.size))
  clear hg hf HX G0 B0
  have HX := Lib.hid (join_any (S := ⟨gA, 1, 2, [], L1, 1, ByteArray.empty⟩) G1.out (by decide) (by decide) (by decide) cY hsY 1 (by decide))
  rw [jn2] at HX
  go_wp2_with fail
  refine HX.out.mono ?_
  rintro e w2 ⟨mv2, iv2, rfl, hg, hf⟩
  have G2 := Lib.hid (show Gp w.heap.size w2 g w.heap.size mv2 iv2 (SS [] ByteArray.empty) from hg)
  have B2 := Lib.hid (B1.out.trans (hf.below B1.out.size))
  clear hg hf HX G1 B1
  have HX := Lib.hid (add_yes (S := SS [] ByteArray.empty) G2.out (show (0 : Nat) < 1000000 by decide) (show (-9223372036854775808 : Int) ≤ 2 by decide) (show (2 : Int) ≤ 9223372036854775807 by decide) (show ((0 : Nat) : Int) ≤ max 2 0 by decide) (mN 1) (show ¬ max (0 : Int) (2 - ((0 : Nat) : Int)) = 0 by decide) (mN_wf 1 (by decide) (by decide)) (HP0.out _) (by decide))
  unfold Mg.val mN at HX
  go_wp2_with fail
  refine HX.out.mono ?_
  rintro e w3 ⟨x1, hx, mv3, iv3, rfl, hg, hf⟩
  have Hx1 := Lib.hid hx
  have G3 := Lib.hid (show Gp w.heap.size w3 g w.heap.size mv3 iv3 (SS [x1] ByteArray.empty) from hg)
  have B3 := Lib.hid (B2.out.trans (hf.below B2.out.size))
  clear hg hf HX hx G2 B2
  have HX := Lib.hid (add_yes (S := SS [x1] ByteArray.empty) G3.out (show (1 : Nat) < 1000000 by decide) (show (-9223372036854775808 : Int) ≤ 2 by decide) (show (2 : Int) ≤ 9223372036854775807 by decide) (show ((1 : Nat) : Int) ≤ max 2 0 by decide) (mN 2) (show ¬ max (0 : Int) (2 - ((1 : Nat) : Int)) = 0 by decide) (mN_wf 2 (by decide) (by decide)) (HP0.out _) (by decide))
  unfold Mg.val mN at HX
  go_wp2_with fail
  refine HX.out.mono ?_
  rintro e w4 ⟨x2, hx, mv4, iv4, rfl, hg, hf⟩
  have Hx2 := Lib.hid hx
  have G4 := Lib.hid (show Gp w.heap.size w4 g w.heap.size mv4 iv4 (SS [x1, x2] ByteArray.empty) from hg)
  have B4 := Lib.hid (B3.out.trans (hf.below B3.out.size))
  clear hg hf HX hx G3 B3
  have HX := Lib.hid (add_no (S := SS [x1, x2] ByteArray.empty) G4.out (show (2 : Nat) < 1000000 by decide) (show (-9223372036854775808 : Int) ≤ 2 by decide) (show (2 : Int) ≤ 9223372036854775807 by decide) (show ((2 : Nat) : Int) ≤ max 2 0 by decide) (mN 3) (show max (0 : Int) (2 - ((2 : Nat) : Int)) = 0 by decide))
  unfold Mg.val mN at HX
  go_wp2_with fail
  refine HX.out.mono ?_
  rintro e w5 ⟨mv5, iv5, rfl, hg, hf⟩
  have G5 := Lib.hid (show Gp w.heap.size w5 g w.heap.size mv5 iv5 (SS [x1, x2] ByteArray.empty) from hg)
  have B5 := Lib.hid (B4.out.trans (hf.below B4.out.size))
  clear hg hf HX G4 B4
  have S1 := Lib.hid (show x1.msg.seq = 1 by obtain ⟨A, c, h⟩ := Hx1.out.msg; rw [h])
  have S2 := Lib.hid (show x2.msg.seq = 2 by obtain ⟨A, c, h⟩ := Hx2.out.msg; rw [h])
  have HQ1 := Lib.hid (show QQ x1.msg from fresh_q (n := 1) Hx1.out)
  have HQ2 := Lib.hid (show QQ x2.msg from fresh_q (n := 2) Hx2.out)
  have N1 := Lib.hid (n0 (x2 := x2) Hx1.out.at_ (wz0 [x1, x2] 0 Hx1.out.behind))
  have N2 := Lib.hid (n1 (x1 := snt cX x1) rfl Hx2.out.at_ (wz1 [snt cX x1, x2] 1 Hx2.out.behind))
  have HT := Lib.hid (show tellP (SS [x1, x2] ByteArray.empty) FF = (cX, true) from (tell_some (S := SS [x1, x2] ByteArray.empty) (free := FF) N1.out rfl).trans (by show ((whomP 1 [x1, x2] L2 ByteArray.empty _ _ FF).1, true) = (cX, true); rw [wz0 [x1, x2] 0 Hx1.out.behind]))
  have hba := alloc_below w5 (.cells #[.string cX, .string cY] 9)
  have HX := Lib.hid (next_any (S := SS [x1, x2] ByteArray.empty) (G5.out.below hba) (show [x1, x2].length < 1000000 by simp) (show L2.length < 1000000 by decide) (show ∀ m ∈ L2, m.client.size ≤ 100 by decide) (two_q HQ1.out HQ2.out) (some ⟨w5.heap.size, 0, none⟩) 2 FF (strs_new w5 _ rfl FF (by decide) (by decide) rfl))
  unfold NPost at HX
  rw [HT.out, show FF.length = 2 from rfl] at HX
  have HBA := Lib.hid hba
  clear hba
  go_wp2_with fail
  refine HX.out.mono ?_
  rintro e w6 ⟨⟨m, rfl, hm⟩, hb1⟩
  have hq : m.seq = 1 := (hm _ _ N1.out rfl).trans S1.out
  have hb := then_below HBA.out hb1
  have G6 := Lib.hid (G5.out.below hb)
  have B6 := Lib.hid (then_below B5.out hb)
  clear hb hb1 hm HX HT HBA G5 B5
  obtain ⟨ta, pa, qa, ra, Aa, ca, la, fa, ua, sa, ga⟩ := m
  dsimp only at hq
  subst hq
  unfold Mg.val
  dsimp only
  have hb := alloc_below w6 (.cells #[.string ta, .string pa, .int .i64 qa, .bool ra, .slice Aa la.length ca, .string fa, .int .i64 ua, .int .i64 1, .string ga] 43)
  have HMa' := Lib.hid (heap_alloc_new w6 (.cells #[.string ta, .string pa, .int .i64 qa, .bool ra, .slice Aa la.length ca, .string fa, .int .i64 ua, .int .i64 1, .string ga] 43))
  have HMa := Lib.hid HMa'.out
  clear HMa'
  have G7 := Lib.hid (G6.out.below hb)
  have B7 := Lib.hid (then_below B6.out hb)
  clear hb G6 B6
  have HX := Lib.hid (sent_any (S := SS [x1, x2] ByteArray.empty) G7.out 1 cX hsX)
  rw [(sent0 S1.out Hx1.out.at_ getX).1, (sent0 S1.out Hx1.out.at_ getX).2, Option.isSome_some] at HX
  go_wp2_with fail
  refine HX.out.mono ?_
  rintro e w8 ⟨mv8, iv8, rfl, hg, hf⟩
  have HMan := (hf.block _ (lt_of_block HMa.out) (.inr (not_mut HMa.out (by decide) (by decide) (by decide) (by decide)))).trans HMa.out
  clear HMa
  have HMa := Lib.hid HMan
  clear HMan
  have G8 := Lib.hid (show Gp w.heap.size w8 g w.heap.size mv8 iv8 (SS [snt cX x1, x2] cX) from hg)
  have B8 := Lib.hid (B7.out.trans (hf.below B7.out.size))
  clear hg hf HX G7 B7
  have HT := Lib.hid (show tellP (SS [snt cX x1, x2] cX) FF = (cY, true) from (tell_some (S := SS [snt cX x1, x2] cX) (free := FF) N2.out rfl).trans (by show ((whomP 1 [snt cX x1, x2] L2 cX _ _ FF).1, true) = (cY, true); rw [wz1 [snt cX x1, x2] 1 Hx2.out.behind]))
  have hba := alloc_below w8 (.cells #[.string cX, .string cY] 9)
  have HX := Lib.hid (next_any (S := SS [snt cX x1, x2] cX) (G8.out.below hba) (show [snt cX x1, x2].length < 1000000 by simp) (show L2.length < 1000000 by decide) (show ∀ m ∈ L2, m.client.size ≤ 100 by decide) (two_q (show QQ (snt cX x1).msg from HQ1.out) HQ2.out) (some ⟨w8.heap.size, 0, none⟩) 2 FF (strs_new w8 _ rfl FF (by decide) (by decide) rfl))
  unfold NPost at HX
  rw [HT.out, show FF.length = 2 from rfl] at HX
  have HBA := Lib.hid hba
  clear hba
  go_wp2_with fail
  refine HX.out.mono ?_
  rintro e w9 ⟨⟨m, rfl, hm⟩, hb1⟩
  have hq : m.seq = 2 := (hm _ _ N2.out rfl).trans S2.out
  have hb := then_below HBA.out hb1
  have HMan := (hb.block _ (lt_of_block HMa.out)).trans HMa.out
  clear HMa
  have HMa := Lib.hid HMan
  clear HMan
  have G9 := Lib.hid (G8.out.below hb)
  have B9 := Lib.hid (then_below B8.out hb)
  clear hb hb1 hm HX HT HBA G8 B8
  obtain ⟨tb, pb, qb, rb, Ab, cb, lb, fb, ub, sb, gb⟩ := m
  dsimp only at hq
  subst hq
  unfold Mg.val
  dsimp only
  have hb := alloc_below w9 (.cells #[.string tb, .string pb, .int .i64 qb, .bool rb, .slice Ab lb.length cb, .string fb, .int .i64 ub, .int .i64 2, .string gb] 43)
  have HMb' := Lib.hid (heap_alloc_new w9 (.cells #[.string tb, .string pb, .int .i64 qb, .bool rb, .slice Ab lb.length cb, .string fb, .int .i64 ub, .int .i64 2, .string gb] 43))
  have HMan := (hb.block _ (lt_of_block HMa.out)).trans HMa.out
  clear HMa
  have HMa := Lib.hid HMan
  clear HMan
  have HMb := Lib.hid HMb'.out
  clear HMb'
  have G10 := Lib.hid (G9.out.below hb)
  have B10 := Lib.hid (then_below B9.out hb)
  clear hb G9 B9
  have HX := Lib.hid (back_yes (S := SS [snt cX x1, x2] cX) G10.out 1 cX hsX 0 (snt cX x1) (gw0 (x2 := x2) (by decide) S1.out rfl) rfl (show x1.behind.length < 1000000 by rw [Hx1.out.behind]; decide))
  go_wp2_with fail
  refine HX.out.mono ?_
  rintro e w11 ⟨y, hy, mv11, iv11, rfl, hg, hf⟩
  have HMan := (hf.block _ (lt_of_block HMa.out) (.inr (not_mut HMa.out (by decide) (by decide) (by decide) (by decide)))).trans HMa.out
  clear HMa
  have HMa := Lib.hid HMan
  clear HMan
  have HMbn := (hf.block _ (lt_of_block HMb.out) (.inr (not_mut HMb.out (by decide) (by decide) (by decide) (by decide)))).trans HMb.out
  clear HMb
  have HMb := Lib.hid HMbn
  clear HMbn
  have G11 := Lib.hid (show Gp w.heap.size w11 g w.heap.size mv11 iv11 (SS [y, x2] cX) from hg)
  have B11 := Lib.hid (B10.out.trans (hf.below B10.out.size))
  have Hy := Lib.hid hy
  have HYB := Lib.hid (show y.behind = [cX] by
    have h := hy.behind
    rw [show (snt cX x1).behind = [] from Hx1.out.behind] at h
    exact h)
  have HYS := Lib.hid (show y.msg.seq = 1 by rw [hy.msg]; exact S1.out)
  have HYQ := Lib.hid (show QQ y.msg by rw [hy.msg]; exact HQ1.out)
  have N3 := Lib.hid (n0 (x2 := x2) hy.at_ (wz2 [y, x2] 0 HYB.out))
  clear hg hf HX G10 B10 hy
  have HT := Lib.hid (show tellP (SS [y, x2] cX) FF = (cY, true) from (tell_some (S := SS [y, x2] cX) (free := FF) N3.out rfl).trans (by show ((whomP 1 [y, x2] L2 cX _ _ FF).1, true) = (cY, true); rw [wz2 [y, x2] 0 HYB.out]))
  have hba := alloc_below w11 (.cells #[.string cX, .string cY] 9)
  have HX := Lib.hid (next_any (S := SS [y, x2] cX) (G11.out.below hba) (show [y, x2].length < 1000000 by simp) (show L2.length < 1000000 by decide) (show ∀ m ∈ L2, m.client.size ≤ 100 by decide) (two_q HYQ.out HQ2.out) (some ⟨w11.heap.size, 0, none⟩) 2 FF (strs_new w11 _ rfl FF (by decide) (by decide) rfl))
  unfold NPost at HX
  rw [HT.out, show FF.length = 2 from rfl] at HX
  have HBA := Lib.hid hba
  clear hba
  go_wp2_with fail
  refine HX.out.mono ?_
  rintro e w12 ⟨⟨m, rfl, hm⟩, hb1⟩
  have hq : m.seq = 1 := (hm _ _ N3.out rfl).trans HYS.out
  have hb := then_below HBA.out hb1
  have HMan := (hb.block _ (lt_of_block HMa.out)).trans HMa.out
  clear HMa
  have HMa := Lib.hid HMan
  clear HMan
  have HMbn := (hb.block _ (lt_of_block HMb.out)).trans HMb.out
  clear HMb
  have HMb := Lib.hid HMbn
  clear HMbn
  have G12 := Lib.hid (G11.out.below hb)
  have B12 := Lib.hid (then_below B11.out hb)
  clear hb hb1 hm HX HT HBA G11 B11
  obtain ⟨td, pd, qd, rd, Ad, cd, ld, fd, ud, sd, gd⟩ := m
  dsimp only at hq
  subst hq
  unfold Mg.val
  dsimp only
  have hb := alloc_below w12 (.cells #[.string td, .string pd, .int .i64 qd, .bool rd, .slice Ad ld.length cd, .string fd, .int .i64 ud, .int .i64 1, .string gd] 43)
  have HMd' := Lib.hid (heap_alloc_new w12 (.cells #[.string td, .string pd, .int .i64 qd, .bool rd, .slice Ad ld.length cd, .string fd, .int .i64 ud, .int .i64 1, .string gd] 43))
  have HMan := (hb.block _ (lt_of_block HMa.out)).trans HMa.out
  clear HMa
  have HMa := Lib.hid HMan
  clear HMan
  have HMbn := (hb.block _ (lt_of_block HMb.out)).trans HMb.out
  clear HMb
  have HMb := Lib.hid HMbn
  clear HMbn
  have HMd := Lib.hid HMd'.out
  clear HMd'
  have G13 := Lib.hid (G12.out.below hb)
  have B13 := Lib.hid (then_below B12.out hb)
  clear hb G12 B12
  have HX := Lib.hid (sent_any (S := SS [y, x2] cX) G13.out 1 cY hsY)
  rw [(sent0 HYS.out Hy.out.at_ getY).1, (sent0 HYS.out Hy.out.at_ getY).2, Option.isSome_some] at HX
  go_wp2_with fail
  refine HX.out.mono ?_
  rintro e w14 ⟨mv14, iv14, rfl, hg, hf⟩
  have HMan := (hf.block _ (lt_of_block HMa.out) (.inr (not_mut HMa.out (by decide) (by decide) (by decide) (by decide)))).trans HMa.out
  clear HMa
  have HMa := Lib.hid HMan
  clear HMan
  have HMbn := (hf.block _ (lt_of_block HMb.out) (.inr (not_mut HMb.out (by decide) (by decide) (by decide) (by decide)))).trans HMb.out
  clear HMb
  have HMb := Lib.hid HMbn
  clear HMbn
  have HMdn := (hf.block _ (lt_of_block HMd.out) (.inr (not_mut HMd.out (by decide) (by decide) (by decide) (by decide)))).trans HMd.out
  clear HMd
  have HMd := Lib.hid HMdn
  clear HMdn
  have G14 := Lib.hid (show Gp w.heap.size w14 g w.heap.size mv14 iv14 (SS [snt cY y, x2] cY) from hg)
  have B14 := Lib.hid (B13.out.trans (hf.below B13.out.size))
  clear hg hf HX G13 B13
  have HX := Lib.hid (done_any (S := SS [snt cY y, x2] cY) G14.out (show (2 : Nat) < 1000000 by decide) 1 cY)
  rw [(done0 (x1 := snt cY y) (x2 := x2) (last := cY) (c := cY) (by decide) HYS.out rfl).1, (done0 (x1 := snt cY y) (x2 := x2) (last := cY) (c := cY) (by decide) HYS.out rfl).2] at HX
  go_wp2_with fail
  refine HX.out.mono ?_
  rintro e w15 ⟨mv15, iv15, rfl, hg, hf⟩
  have HMan := (hf.block _ (lt_of_block HMa.out) (.inr (not_mut HMa.out (by decide) (by decide) (by decide) (by decide)))).trans HMa.out
  clear HMa
  have HMa := Lib.hid HMan
  clear HMan
  have HMbn := (hf.block _ (lt_of_block HMb.out) (.inr (not_mut HMb.out (by decide) (by decide) (by decide) (by decide)))).trans HMb.out
  clear HMb
  have HMb := Lib.hid HMbn
  clear HMbn
  have HMdn := (hf.block _ (lt_of_block HMd.out) (.inr (not_mut HMd.out (by decide) (by decide) (by decide) (by decide)))).trans HMd.out
  clear HMd
  have HMd := Lib.hid HMdn
  clear HMdn
  have G15 := Lib.hid (show Gp w.heap.size w15 g w.heap.size mv15 iv15 (SS [x2] cY) from hg)
  have B15 := Lib.hid (B14.out.trans (hf.below B14.out.size))
  clear hg hf HX G14 B14
  have za := cell_of (o := 7) (v := .int .i64 1) HMa.out rfl
  have zb := cell_of (o := 7) (v := .int .i64 2) HMb.out rfl
  have zd := cell_of (o := 7) (v := .int .i64 1) HMd.out rfl
  have HI := Lib.hid (items_any (S := SS [x2] cY) G15.out (show (1 : Nat) < 1000000 by decide))
  go_wp2_with fail
  refine HI.out.mono ?_
  rintro e v1 ⟨⟨v, rfl, ho, -⟩, hb⟩
  obtain ⟨A2, c2, hv⟩ := own_form ho
  subst hv
  rw [show (SS [x2] cY).I.length = 1 from rfl]
  have HID := Lib.hid (idle_any (S := SS [x2] cY) (G15.out.below hb) (show (1 : Nat) < 1000000 by decide) (show (2 : Nat) < 1000000 by decide))
  have HBB := Lib.hid (then_below B15.out hb)
  have HGG := Lib.hid (G15.out.below hb)
  rw [show (decide ((SS [x2] cY).L.length = 0) && decide ((SS [x2] cY).I.length = 0)) = false from rfl] at HID
  have zb' := hb
  clear ho zb'
  have HB1 := Lib.hid hb
  clear hb
  go_wp2_with fail
  refine HID.out.mono ?_
  rintro e v2 ⟨rfl, hb⟩
  have HK := Lib.hid (key_any (S := SS [x2] cY) (HGG.out.below hb))
  have HB2 := Lib.hid (then_below HBB.out hb)
  clear hb
  rw [show (SS [x2] cY).key = gA from rfl] at HK
  go_wp2_with fail
  refine HK.out.mono ?_
  rintro e v3 ⟨rfl, rfl⟩
  go_wp2_with fail
  go_ret
  exact ⟨rfl, HB2.out⟩
end Go.Proofs.Ytclhgnlhejohgaa.GrpW
set_option linter.unusedVariables false
set_option linter.unusedSimpArgs false
namespace Go.Proofs.Ytclhgnlhejohgaa.GrpW
open Go.RowKit Go.Proofs.Ytclhgnlhejohgaa.Tc Go.Proofs.Ytclhgnlhejohgaa.GrpP
open Go.Proofs.Ytclhgnlhejohgaa.PickP (has)
open Go.Proofs.Ytclhgnlhejohgaa.MemP (Mem)

structure Lw (W0 : World) (g ms : Nat) (st most : Int) (k : Nat) (w : World) (mv iv : Value) (S : GS) : Prop where
  gp : Gp W0.heap.size w g ms mv iv S
  bel : Below W0.heap.size W0 w
  iv_ : Iv k S
  st_ : S.st = st
  most_ : S.most = most
  snd : st = 3 → Snd S.I
section
variable {W0 w w' : World} {g ms k : Nat} {st most : Int} {mv iv mv' iv' : Value} {S S' : GS}
theorem Lw.below (h : Lw W0 g ms st most k w mv iv S) (hb : Below w.heap.size w w') : Lw W0 g ms st most k w' mv iv S :=
  ⟨h.gp.below hb, then_below h.bel hb, h.iv_, h.st_, h.most_, h.snd⟩
theorem Lw.step (h : Lw W0 g ms st most k w mv iv S) (hg : Gp W0.heap.size w' g ms mv' iv' S') (hf : Gf W0.heap.size w w') (hs : Step k S S') : Lw W0 g ms st most (k + 1) w' mv' iv' S' :=
  ⟨hg, h.bel.trans (hf.below h.bel.size), hs.1, hs.2.1.trans h.st_, hs.2.2.1.trans h.most_, fun h3 => hs.2.2.2.2 (h.st_.trans h3) (h.snd h3)⟩
theorem Lw.sent (h : Lw W0 g ms st most k w mv iv S) {n : Int} {c : ByteArray} (hg : Gp W0.heap.size w' g ms mv' iv' (sentP S n c)) (hf : Gf W0.heap.size w w') : Lw W0 g ms st most k w' mv' iv' (sentP S n c) :=
  ⟨hg, h.bel.trans (hf.below h.bel.size), h.iv_.sent n c, (sentP_st S n c).1.trans h.st_, (sentP_st S n c).2.1.trans h.most_, fun h3 => (h.snd h3).sent (h.st_.trans h3) n c⟩
theorem Lw.new (W0 : World) {w : World} {key : ByteArray} (hg : Gp W0.heap.size w g ms mv iv ⟨key, st, most, [], [], 0, ByteArray.empty⟩) (hb : Below W0.heap.size W0 w) : Lw W0 g ms st most 0 w mv iv ⟨key, st, most, [], [], 0, ByteArray.empty⟩ :=
  ⟨hg, hb, Iv.new key st most, rfl, rfl, fun _ => by intro x hx; cases hx⟩
/-- Is a member of the first n connected, by whom it is under way? -/
def onl (L : List Mem) (a : ByteArray) (n : Nat) : Bool := decide (a = ByteArray.empty) || (L.take n).any fun m => decide (m.client = a) && m.online
theorem onl_zero (L : List Mem) (a : ByteArray) : onl L a 0 = decide (a = ByteArray.empty) := by simp [onl]
theorem onl_succ {L : List Mem} {n : Nat} {m : Mem} (a : ByteArray) (hm : L[n]? = some m) : onl L a (n + 1) = (onl L a n || (decide (m.client = a) && m.online)) := by
  obtain ⟨hn, rfl⟩ := List.getElem?_eq_some_iff.1 hm
  unfold onl
  rw [List.take_succ_eq_append_getElem hn, List.any_append]
  simp [Bool.or_assoc]
theorem onl_all {I : List Tc.It} {L : List Mem} (h : Conn I L) {x : Tc.It} (hx : x ∈ I) : onl L x.at_ L.length = true := by
  unfold onl
  rw [List.take_length]
  rcases h x hx with e | ⟨m, hm, h1, h2⟩
  · simp [e]
  · rw [Bool.or_eq_true]
    right
    rw [List.any_eq_true]
    exact ⟨m, hm, by simp [h1, h2]⟩
theorem name_small {k : Nat} {S : GS} (h : Iv k S) {s : ByteArray} (hs : s ∈ MemP.here S.L) : s.size ≤ maxLen := by
  obtain ⟨m, hm, rfl, -⟩ := here_iff.1 hs
  have := h.names m hm
  unfold maxLen
  omega
theorem bounds_i64 {x : Int} (h : (Lit.int .i64 x).wf = true) : -9223372036854775808 ≤ x ∧ x ≤ 9223372036854775807 := by
  have h3 : IntKind.i64.min = -9223372036854775808 := rfl
  have h4 : IntKind.i64.max = 9223372036854775807 := rfl
  simpa [Lit.wf, h3, h4] using h
/-- The act with a number of its own. -/
def num (a : GA) (k : Nat) : GA := { a with msg := { a.msg with seq := (k : Int) + 1 } }
theorem num_ra {w : World} {a : GA} {k : Nat} (hk : k ≤ 1000) (hw : a.wf) (hp : SliceIs kProp w a.msg.pA a.msg.props) (hf : SliceIs aS w a.fA a.free) (hs : SmallG a) : Ra w (num a k) := by
  obtain ⟨h1, h2, h3, h4⟩ := hw
  obtain ⟨m1, m2, m3, m4, m5, m6, m7⟩ := h2
  refine ⟨⟨h1, ⟨m1, m2, m3, m4, m5, ?_, m7⟩, h3, h4⟩, hp, hf, hs.1, hs.2.1, ?_, ?_⟩
  · have h3 : IntKind.i64.min = -9223372036854775808 := rfl
    have h4 : IntKind.i64.max = 9223372036854775807 := rfl
    simp [Lit.wf, h3, h4, num]
    omega
  · have := hs.2.2.2.1
    show a.msg.from_.size ≤ 200
    omega
  · have := hs.2.2.2.2.2.1
    show a.msg.props.length < 1000000
    omega
theorem num_seq (a : GA) (k : Nat) : (num a k).msg.seq = ((k + 1 : Nat) : Int) := by show (k : Int) + 1 = _; omega
end
end Go.Proofs.Ytclhgnlhejohgaa.GrpW
