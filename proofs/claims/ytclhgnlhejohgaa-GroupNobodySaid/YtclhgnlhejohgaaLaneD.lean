/- Whether lanes are sound: lane's and the reference's. -/
import Derived.Test.YtclhgnlhejohgaaLaneC
set_option linter.unusedVariables false
set_option linter.unusedSimpArgs false
namespace Go.Proofs.Ytclhgnlhejohgaa.LaneW
open Go.RowKit Go.Proofs.Ytclhgnlhejohgaa.Tc Go.Proofs.Ytclhgnlhejohgaa.LaneP

set_option maxRecDepth 100000 in
set_option maxHeartbeats 8000000 in
theorem rsound_any (w : World) (A : Option Addr) (cap : Nat) (l : List Tc.It) (hS : SliceIs kItem w A l) :
    Calls Try.prog 41 #[.slice A l.length cap] w fun e w' => e = .returned (.bool (sound (pr l))) ∧ Dr w w' := by
  have hlen := hS.len
  unfold maxLen at hlen
  have HS := Lib.hid hS
  clear hS
  have HALL := Lib.hid (fun h => @Snd.all (pr l) h)
  have HNOT := Lib.hid (fun i j x y => @sound_not (pr l) i j x y)
  go_enter Try.func41, Try.ntmps41
  go_wp2
  go_loopw [3] (fun x wr => ∃ k : Nat, k ≤ l.length ∧ x = .int .i64 k ∧ Dr w wr ∧ Snd (pr l) k) (fun x _ => l.length - (intOf x).toNat)
  case atStart => exact ⟨0, by omega, rfl, dr_refl w, Snd.zero _⟩
  case round =>
    obtain ⟨k, hk, rfl, hD, hsn⟩ := hrel
    have HSN := Lib.hid hsn
    have HD := Lib.hid hD
    clear hsn
    by_cases hlt : k < l.length
    · obtain ⟨x, hx⟩ : ∃ x, l[k]? = some x := ⟨_, List.getElem?_eq_getElem hlt⟩
      have HX := Lib.hid hx
      have hp : (pr l)[k]? = some (x.msg.topic, x.at_) := by rw [pr_get, hx]; rfl
      have HP := Lib.hid hp
      clear hx hp hD
      obtain ⟨wo, hwo⟩ : ∃ wo : World, wo = wr := ⟨_, rfl⟩
      subst hwo
      go_wp2
      go_loopw [4] (fun z wr => ∃ j : Nat, j ≤ k ∧ z = .int .i64 j ∧ Dr w wr ∧ ∀ (i : Nat) (y : LaneP.It), i < j → (pr l)[i]? = some y → ¬ Clash (x.msg.topic, x.at_) y) (fun z _ => k - (intOf z).toNat)
      case atStart => exact ⟨0, by omega, rfl, HD.out, by intro i y h; omega⟩
      case round =>
        obtain ⟨j, hj, rfl, hD2, hn⟩ := hrel
        have HD2 := Lib.hid hD2
        have HNC := Lib.hid hn
        clear hn
        by_cases hlt2 : j < k
        · obtain ⟨y, hy⟩ : ∃ y, l[j]? = some y := ⟨_, List.getElem?_eq_getElem (by omega)⟩
          obtain ⟨b, off, rfl, hb, hcx, -, -, -⟩ := item_cells (HS.out.below hD2.below) HX.out
          obtain ⟨b', off', hAA, hb', hcy, -, -, -⟩ := item_cells (HS.out.below hD2.below) hy
          injection hAA with hAA
          injection hAA with hA1 hA2
          subst hA1
          subst hA2
          have hpy : (pr l)[j]? = some (y.msg.topic, y.at_) := by rw [pr_get, hy]; rfl
          have HPY := Lib.hid hpy
          have hnext : ¬ Clash (x.msg.topic, x.at_) (y.msg.topic, y.at_) → ∀ (i : Nat) (z : LaneP.It), i < j + 1 → (pr l)[i]? = some z → ¬ Clash (x.msg.topic, x.at_) z := by
            intro hi i z hii hz
            by_cases e : i = j
            · subst e
              rw [HPY.out] at hz
              injection hz with hz
              subst hz; exact hi
            · exact HNC.out i z (by omega) hz
          have HN := Lib.hid hnext
          have d0 := fun n : Wd (Dr wr) => n.cellD hcx.c0
          have d1 := fun n : Wd (Dr wr) => n.cellD hcx.c9
          have d2 := fun n : Wd (Dr wr) => n.cellD hcy.c0
          have d3 := fun n : Wd (Dr wr) => n.cellD hcy.c9
          have hj1 : (j : Int) < l.length := by omega
          have hk1 : (k : Int) < l.length := by omega
          clear hy hpy hnext hb hb' hcx hcy hD2
          have hcs : (x.msg.topic ≠ y.msg.topic) ∨ (x.msg.topic = y.msg.topic ∧ x.at_ = ByteArray.empty) ∨ (x.msg.topic = y.msg.topic ∧ x.at_ ≠ ByteArray.empty ∧ y.at_ = ByteArray.empty) ∨
            (x.msg.topic = y.msg.topic ∧ x.at_ ≠ ByteArray.empty ∧ y.at_ ≠ ByteArray.empty ∧ x.at_ = y.at_) ∨ (x.msg.topic = y.msg.topic ∧ x.at_ ≠ ByteArray.empty ∧ y.at_ ≠ ByteArray.empty ∧ x.at_ ≠ y.at_) := by
            by_cases h1 : x.msg.topic = y.msg.topic <;> by_cases h2 : x.at_ = ByteArray.empty <;> by_cases h3 : y.at_ = ByteArray.empty <;> by_cases h4 : x.at_ = y.at_ <;> simp [h1, h2, h3, h4]
          rcases hcs with h1 | ⟨h1, h2⟩ | ⟨h1, h2, h3⟩ | ⟨h1, h2, h3, h4⟩ | ⟨h1, h2, h3, h4⟩
          · have t1 := str_ne h1
            have HN1 := Lib.hid (HN.out (fun h => h1 h.1))
            clear h1
            go_wp2
            refine wp_region_cls (Dr wr) (dr_drew wr) (by kernel_rfl) (by kernel_rfl) ?_
            repeat (go_big_quiet_step (fail))
            refine wpQuiet_nil ?_
            rintro _ ⟨⟨wq, hq⟩, rfl⟩
            have HDQ := Lib.hid (Dr.trans HD2.out hq)
            clear hq d0 d1 d2 d3
            go_wp2
            go_roundw
            case rel => exact ⟨j + 1, by omega, by go_num, HDQ.out, HN1.out⟩
            case measure => simp [intOf]; omega
          · have t1 := str_eq h1
            have t2 : x.at_.toList.isEmpty = true := by rw [wts_emp]; simp [h2]
            have HN1 := Lib.hid (HN.out (fun h => h.2.1 h2))
            clear h1 h2
            go_wp2
            refine wp_region_cls (Dr wr) (dr_drew wr) (by kernel_rfl) (by kernel_rfl) ?_
            repeat (go_big_quiet_step (fail))
            refine wpQuiet_nil ?_
            rintro _ ⟨⟨wq, hq⟩, rfl⟩
            have HDQ := Lib.hid (Dr.trans HD2.out hq)
            clear hq d0 d1 d2 d3
            go_wp2
            go_roundw
            case rel => exact ⟨j + 1, by omega, by go_num, HDQ.out, HN1.out⟩
            case measure => simp [intOf]; omega
          · have t1 := str_eq h1
            have t2 := (ne_empty h2).1
            have t3 : y.at_.toList.isEmpty = true := by rw [wts_emp]; simp [h3]
            have HN1 := Lib.hid (HN.out (fun h => h.2.2.1 h3))
            clear h1 h2 h3
            go_wp2
            refine wp_region_cls (Dr wr) (dr_drew wr) (by kernel_rfl) (by kernel_rfl) ?_
            repeat (go_big_quiet_step (fail))
            refine wpQuiet_nil ?_
            rintro _ ⟨⟨wq, hq⟩, rfl⟩
            have HDQ := Lib.hid (Dr.trans HD2.out hq)
            clear hq d0 d1 d2 d3
            go_wp2
            go_roundw
            case rel => exact ⟨j + 1, by omega, by go_num, HDQ.out, HN1.out⟩
            case measure => simp [intOf]; omega
          · have t1 := str_eq h1
            have t2 := (ne_empty h2).1
            have t3 := (ne_empty h3).1
            have t4 := str_eq h4
            have HN1 := Lib.hid (HN.out (fun h => h.2.2.2 h4))
            clear h1 h2 h3 h4
            go_wp2
            refine wp_region_cls (Dr wr) (dr_drew wr) (by kernel_rfl) (by kernel_rfl) ?_
            repeat (go_big_quiet_step (fail))
            refine wpQuiet_nil ?_
            rintro _ ⟨⟨wq, hq⟩, rfl⟩
            have HDQ := Lib.hid (Dr.trans HD2.out hq)
            clear hq d0 d1 d2 d3
            go_wp2
            go_roundw
            case rel => exact ⟨j + 1, by omega, by go_num, HDQ.out, HN1.out⟩
            case measure => simp [intOf]; omega
          · have t1 := str_eq h1
            have t2 := (ne_empty h2).1
            have t3 := (ne_empty h3).1
            have t4 := str_ne h4
            have HE := Lib.hid (HNOT.out k j _ _ HP.out HPY.out ⟨h1, h2, h3, h4⟩)
            clear h1 h2 h3 h4
            go_wp2
            refine wp_region_cls (Dr wr) (dr_drew wr) (by kernel_rfl) (by kernel_rfl) ?_
            repeat (go_big_quiet_step (fail))
            refine wpQuiet_nil ?_
            rintro _ ⟨⟨wq, hq⟩, rfl⟩
            have HDQ := Lib.hid (Dr.trans HD2.out hq)
            clear hq d0 d1 d2 d3
            go_wp2
            go_ret
            exact ⟨by rw [HE.out]; rfl, HDQ.out⟩
        · obtain rfl : j = k := by omega
          have HS1 := Lib.hid (HSN.out.succ HP.out HNC.out)
          clear hD2
          go_wp2
          go_roundw
          case rel => exact ⟨j + 1, by omega, by go_num, HD2.out, HS1.out⟩
          case measure => simp [intOf]; omega
    · obtain rfl : k = l.length := by omega
      have HE := Lib.hid (HALL.out (by rw [pr_len]; exact HSN.out))
      clear hD
      go_wp2
      go_ret
      exact ⟨by rw [HE.out]; rfl, HD.out⟩

noncomputable abbrev TS : KeyT Try.prog 9 ByteArray := strKey Try.underlying9
theorem zero9 (w : World) : (zeroValue 9).run Try.prog w = .ok (.string ByteArray.empty) w := by kernel_rfl
/-- The map holds with whom each topic is. -/
structure Wth (l : List LaneP.It) (L : List (ByteArray × Value)) (k : Nat) : Prop where
  has_ : ∀ (j : Nat) (y : LaneP.It), j < k → l[j]? = some y → y.2 ≠ No → getL L y.1 = some (.string y.2)
  of : ∀ t v, getL L t = some v → ∃ (j : Nat) (y : LaneP.It), j < k ∧ l[j]? = some y ∧ y.1 = t ∧ y.2 ≠ No ∧ v = .string y.2
theorem Wth.zero (l : List LaneP.It) : Wth l [] 0 := ⟨by intro j y h; omega, by intro t v h; cases h⟩
theorem Wth.skip {l : List LaneP.It} {L : List (ByteArray × Value)} {k : Nat} {x : LaneP.It} (h : Wth l L k) (hx : l[k]? = some x) (hw : x.2 = No) : Wth l L (k + 1) := by
  refine ⟨fun j y hj hy hn => ?_, fun t v hv => ?_⟩
  · by_cases e : j = k
    · subst e; rw [hx] at hy; injection hy with hy; subst hy; exact absurd hw hn
    · exact h.has_ j y (by omega) hy hn
  · obtain ⟨j, y, hj, r⟩ := h.of t v hv
    exact ⟨j, y, by omega, r⟩
theorem Wth.put {l : List LaneP.It} {L : List (ByteArray × Value)} {k : Nat} {x : LaneP.It} (h : Wth l L k) (hx : l[k]? = some x) (hw : x.2 ≠ No) (hsame : ∀ v, getL L x.1 = some v → v = .string x.2) : Wth l (putL L x.1 (.string x.2)) (k + 1) := by
  refine ⟨fun j y hj hy hn => ?_, fun t v hv => ?_⟩
  · rw [getL_put]
    by_cases e : j = k
    · subst e; rw [hx] at hy; injection hy with hy; subst hy; rw [if_pos rfl]
    · have := h.has_ j y (by omega) hy hn
      by_cases e1 : y.1 = x.1
      · rw [if_pos e1]
        rw [e1] at this
        rw [hsame _ this]
      · rw [if_neg e1]; exact this
  · rw [getL_put] at hv
    by_cases e1 : t = x.1
    · rw [if_pos e1] at hv
      injection hv with hv
      exact ⟨k, x, by omega, hx, e1.symm, hw, hv.symm⟩
    · rw [if_neg e1] at hv
      obtain ⟨j, y, hj, r⟩ := h.of t v hv
      exact ⟨j, y, by omega, r⟩
theorem Wth.clear {l : List LaneP.It} {L : List (ByteArray × Value)} {k : Nat} {x : LaneP.It} (h : Wth l L k) (hsame : ∀ v, getL L x.1 = some v → v = .string x.2) : ∀ (j : Nat) (y : LaneP.It), j < k → l[j]? = some y → ¬ Clash x y := by
  intro j y hj hy hc
  have := h.has_ j y hj hy hc.2.2.1
  rw [← hc.1] at this
  have := hsame _ this
  injection this with this
  exact hc.2.2.2 this.symm
end Go.Proofs.Ytclhgnlhejohgaa.LaneW
