/- Lanes: the reference's May; whether lanes are sound. -/
import Derived.Test.YtclhgnlhejohgaaLaneB
import Derived.Test.YtclhgnlhejohgaaClsTail
import Derived.Test.YtclhgnlhejohgaaMap
import Derived.Carry
set_option linter.unusedVariables false
set_option linter.unusedSimpArgs false
namespace Go.Proofs.Ytclhgnlhejohgaa.LaneW
open Go.RowKit Go.Proofs.Ytclhgnlhejohgaa.Tc Go.Proofs.Ytclhgnlhejohgaa.LaneP

set_option maxRecDepth 100000 in
set_option maxHeartbeats 8000000 in
theorem rmay_any (w : World) (A : Option Addr) (cap : Nat) (l : List Tc.It) (at_ : Int) (client : ByteArray) (hS : SliceIs kItem w A l) :
    Calls Try.prog 39 #[.slice A l.length cap, .int .i64 at_, .string client] w fun e w' => e = .returned (.bool (may (pr l) at_ client)) ∧ Dr w w' := by
  have hlen := hS.len
  unfold maxLen at hlen
  by_cases hr : 0 ≤ at_ ∧ at_.toNat < l.length
  · obtain ⟨a, rfl⟩ : ∃ a : Nat, at_ = a := ⟨at_.toNat, by omega⟩
    have hal : a < l.length := by simpa using hr.2
    clear hr
    obtain ⟨y, hy⟩ : ∃ y, l[a]? = some y := ⟨_, List.getElem?_eq_getElem hal⟩
    have hpy : (pr l)[a]? = some (y.msg.topic, y.at_) := by rw [pr_get, hy]; rfl
    obtain ⟨b, off, rfl, hb, hcy, -, -, -⟩ := item_cells hS hy
    have y0 := hcy.c0
    have y9 := hcy.c9
    have HS := Lib.hid hS
    have hd0 : decide ((a : Int) < 0) = false := decide_eq_false (by omega)
    have hd1 : decide (l.length ≤ a) = false := decide_eq_false (by omega)
    clear hS hb hy hcy
    by_cases hw : y.at_ = ByteArray.empty
    · have t0 : y.at_.toList.isEmpty = true := by rw [wts_emp]; simp [hw]
      have HGO := Lib.hid (may_go (c := client) hpy hw)
      have HSTOP := Lib.hid (fun k x => @may_stop (pr l) a k client _ x hpy)
      clear hw hpy
      go_enter Try.func39, Try.ntmps39
      go_wp2
      go_loopw [7] (fun x wr => ∃ k : Nat, k ≤ l.length ∧ x = .int .i64 k ∧ Dr w wr ∧ ∀ (j : Nat) (z : LaneP.It), j < k → (pr l)[j]? = some z → lets (pr l) a y.msg.topic client j z = true) (fun x _ => l.length - (intOf x).toNat)
      case atStart => exact ⟨0, by omega, rfl, dr_refl w, by intro j z h; omega⟩
      case round =>
        obtain ⟨k, hk, rfl, hD, h0⟩ := hrel
        have H0 := Lib.hid h0
        have HD := Lib.hid hD
        have z0 := (Same.of_below hD.below).cell y0
        clear h0
        by_cases hlt : k < l.length
        · obtain ⟨x, hx⟩ : ∃ x, l[k]? = some x := ⟨_, List.getElem?_eq_getElem hlt⟩
          obtain ⟨b', off', hAA, hb, hcx, -, -, -⟩ := item_cells (HS.out.below hD.below) hx
          injection hAA with hAA
          injection hAA with hA1 hA2
          subst hA1
          subst hA2
          have hp : (pr l)[k]? = some (x.msg.topic, x.at_) := by rw [pr_get, hx]; rfl
          have HP := Lib.hid hp
          have hnext : lets (pr l) a y.msg.topic client k (x.msg.topic, x.at_) = true → ∀ (j : Nat) (z : LaneP.It), j < k + 1 → (pr l)[j]? = some z → lets (pr l) a y.msg.topic client j z = true := by
            intro hi j z hj hz
            by_cases e : j = k
            · subst e
              rw [HP.out] at hz
              injection hz with hz
              subst hz; exact hi
            · exact H0.out j z (by omega) hz
          have HN := Lib.hid hnext
          have HST := Lib.hid (HSTOP.out k _ HP.out)
          have d0 := fun n : Wd (Dr wr) => n.cellD hcx.c0
          have d1 := fun n : Wd (Dr wr) => n.cellD z0
          have h9 := hcx.c9
          have H9 := Lib.hid h9
          have hka : (k : Int) < l.length := by omega
          clear hx hp hnext hD hb hcx h9 y0 y9 z0
          by_cases ht : x.msg.topic = y.msg.topic
          · have t1 := str_eq ht
            have HT := Lib.hid ht
            clear ht
            go_wp2
            refine wp_region_cls (Dr wr) (dr_drew wr) (by kernel_rfl) (by kernel_rfl) ?_
            repeat (go_big_quiet_step (fail))
            refine wpQuiet_nil ?_
            rintro _ ⟨⟨wq, hq⟩, rfl⟩
            have HDQ := Lib.hid (Dr.trans HD.out hq)
            have e9 := (Same.of_below (Dr.below hq)).cell H9.out
            clear hq d0 d1
            by_cases hxw : x.at_ = ByteArray.empty
            · have HLW := Lib.hid (lets_wait (l := pr l) (a := a) (k := k) (c := client) (x := (x.msg.topic, x.at_)) HT.out hxw)
              have t2 : x.at_.toList.isEmpty = true := by rw [wts_emp]; simp [hxw]
              clear hxw
              by_cases hka' : k < a
              · have HE := Lib.hid (HST.out (by rw [HLW.out]; simp [hka']))
                go_wp2
                go_ret
                exact ⟨by rw [HE.out]; rfl, HDQ.out⟩
              · have HN1 := Lib.hid (HN.out (by rw [HLW.out]; simp [hka']))
                go_wp2
                go_roundw
                case rel => exact ⟨k + 1, by omega, by go_num, HDQ.out, HN1.out⟩
                case measure => simp [intOf]; omega
            · have HLB := Lib.hid (lets_busy (l := pr l) (a := a) (k := k) (c := client) (x := (x.msg.topic, x.at_)) HT.out hxw)
              have t2 := (ne_empty hxw).1
              clear hxw
              by_cases hc : x.at_ = client
              · have HN1 := Lib.hid (HN.out (by rw [HLB.out]; simp [hc]))
                have t3 := str_eq hc
                clear hc
                by_cases hka' : k < a
                · go_wp2
                  go_roundw
                  case rel => exact ⟨k + 1, by omega, by go_num, HDQ.out, HN1.out⟩
                  case measure => simp [intOf]; omega
                · go_wp2
                  go_roundw
                  case rel => exact ⟨k + 1, by omega, by go_num, HDQ.out, HN1.out⟩
                  case measure => simp [intOf]; omega
              · have HE := Lib.hid (HST.out (by rw [HLB.out]; simp [hc]))
                have t3 := str_ne hc
                clear hc
                by_cases hka' : k < a
                · go_wp2
                  go_ret
                  exact ⟨by rw [HE.out]; rfl, HDQ.out⟩
                · go_wp2
                  go_ret
                  exact ⟨by rw [HE.out]; rfl, HDQ.out⟩
          · have t1 := str_ne ht
            have HN1 := Lib.hid (HN.out (lets_other ht))
            clear ht
            go_wp2
            refine wp_region_cls (Dr wr) (dr_drew wr) (by kernel_rfl) (by kernel_rfl) ?_
            repeat (go_big_quiet_step (fail))
            refine wpQuiet_nil ?_
            rintro _ ⟨⟨wq, hq⟩, rfl⟩
            have HDQ := Lib.hid (Dr.trans HD.out hq)
            clear hq d0 d1
            go_wp2
            go_roundw
            case rel => exact ⟨k + 1, by omega, by go_num, HDQ.out, HN1.out⟩
            case measure => simp [intOf]; omega
        · obtain rfl : k = l.length := by omega
          have HE := Lib.hid (HGO.out (fun j z hz => H0.out j z (by have := (List.getElem?_eq_some_iff.1 hz).1; rw [pr_len] at this; exact this) hz))
          clear hD z0
          go_wp2
          go_ret
          exact ⟨by rw [HE.out]; rfl, HD.out⟩
    · have HE := Lib.hid (may_busy (c := client) hpy hw)
      have t0 := (ne_empty hw).1
      have t1 := (ne_empty hw).2
      clear hw hpy
      go_enter Try.func39, Try.ntmps39
      go_wp2
      go_ret
      exact ⟨by rw [HE.out]; rfl, dr_refl w⟩
  · have HE := Lib.hid (may_out (l := pr l) (a := at_) (c := client) (by rw [pr_len]; exact hr))
    have hcs : at_ < 0 ∨ (¬ at_ < 0 ∧ (l.length : Int) ≤ at_) := by omega
    clear hS hr
    rcases hcs with h1 | ⟨h1, h2⟩
    · go_enter Try.func39, Try.ntmps39
      go_wp2
      go_ret
      exact ⟨by rw [HE.out]; rfl, dr_refl w⟩
    · go_enter Try.func39, Try.ntmps39
      go_wp2
      go_ret
      exact ⟨by rw [HE.out]; rfl, dr_refl w⟩

/-! ### Sound -/
def Clash (x y : LaneP.It) : Prop := x.1 = y.1 ∧ x.2 ≠ No ∧ y.2 ≠ No ∧ x.2 ≠ y.2
theorem sound_not {l : List LaneP.It} {i j : Nat} {x y : LaneP.It} (hx : l[i]? = some x) (hy : l[j]? = some y) (h : Clash x y) : sound l = false := by
  rw [Bool.eq_false_iff]
  intro hs
  exact h.2.2.2 ((sound_iff l).1 hs i j x y hx hy h.1 h.2.1 h.2.2.1)
/-- The first k of them are sound. -/
def Snd (l : List LaneP.It) (k : Nat) : Prop := ∀ (i j : Nat) (x y : LaneP.It), i < k → j < i → l[i]? = some x → l[j]? = some y → ¬ Clash x y
theorem Snd.zero (l : List LaneP.It) : Snd l 0 := by intro i j x y h; omega
theorem Snd.succ {l : List LaneP.It} {k : Nat} {x : LaneP.It} (h : Snd l k) (hx : l[k]? = some x) (hn : ∀ (j : Nat) (y : LaneP.It), j < k → l[j]? = some y → ¬ Clash x y) : Snd l (k + 1) := by
  intro i j x' y hi hj hx' hy
  by_cases e : i = k
  · subst e
    rw [hx] at hx'
    injection hx' with hx'
    subst hx'
    exact hn j y hj hy
  · exact h i j x' y (by omega) hj hx' hy
theorem Clash.symm {x y : LaneP.It} (h : Clash x y) : Clash y x := ⟨h.1.symm, h.2.2.1, h.2.1, fun e => h.2.2.2 e.symm⟩
theorem Snd.all {l : List LaneP.It} (h : Snd l l.length) : sound l = true := by
  rw [sound_iff]
  intro i j x y hx hy h1 h2 h3
  by_cases e : x.2 = y.2
  · exact e
  · exfalso
    have hc : Clash x y := ⟨h1, h2, h3, e⟩
    have hi := (List.getElem?_eq_some_iff.1 hx).1
    have hj := (List.getElem?_eq_some_iff.1 hy).1
    rcases Nat.lt_trichotomy i j with hlt | rfl | hlt
    · exact h j i y x hj hlt hy hx hc.symm
    · rw [hx] at hy; injection hy with hy; subst hy; exact e rfl
    · exact h i j x y hi hlt hx hy hc
end Go.Proofs.Ytclhgnlhejohgaa.LaneW
