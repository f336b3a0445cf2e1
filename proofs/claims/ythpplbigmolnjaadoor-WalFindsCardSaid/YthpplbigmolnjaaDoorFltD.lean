/- Faults: how far. -/
import Derived.Test.YthpplbigmolnjaaDoorFltC
set_option linter.unusedVariables false
set_option linter.unusedSimpArgs false
namespace Go.Proofs.YthpplbigmolnjaaDoor.FltW
open Go.RowKit Go.Proofs.YthpplbigmolnjaaDoor.Tc

def hold (x : Int) : Int := max (-18014398509481984) (min x 18014398509481984)
def far (a b : Int) : Int := max 0 (min (hold a + hold b) 9007199254740992)
theorem hold_cases (x : Int) : (18014398509481984 < x ∧ hold x = 18014398509481984) ∨ (x ≤ -18014398509481984 ∧ hold x = -18014398509481984) ∨ (¬ 18014398509481984 < x ∧ -18014398509481984 < x ∧ hold x = x) := by
  unfold hold
  omega
theorem hold_any (x : Int) (w : World) : Calls Tryd.prog 65 #[.int .i64 x, .int .i64 18014398509481984] w fun e w' => e = .returned (.int .i64 (hold x)) ∧ w = w' := by
  rcases hold_cases x with ⟨h1, h2⟩ | ⟨h1, h2⟩ | ⟨h1, h3, h2⟩
  · rw [h2]
    clear h2
    go_enter Tryd.func65, Tryd.ntmps65
    go_wp2
    all_goals (go_ret; exact ⟨rfl, rfl⟩)
  · rw [h2]
    clear h2
    go_enter Tryd.func65, Tryd.ntmps65
    go_wp2
    all_goals (go_ret; first | exact ⟨rfl, rfl⟩ | (exfalso; omega))
  · rw [h2]
    clear h2
    go_enter Tryd.func65, Tryd.ntmps65
    go_wp2
    all_goals (go_ret; first | exact ⟨rfl, rfl⟩ | (exfalso; omega))
theorem hold_le (x : Int) : -18014398509481984 ≤ hold x ∧ hold x ≤ 18014398509481984 := by
  unfold hold
  omega
theorem far_cases (a b : Int) : (9007199254740992 < hold a + hold b ∧ far a b = 9007199254740992) ∨ (hold a + hold b ≤ 0 ∧ far a b = 0) ∨ (¬ 9007199254740992 < hold a + hold b ∧ 0 < hold a + hold b ∧ far a b = hold a + hold b) := by
  unfold far
  omega
theorem further_any (a b : Int) (w : World) : Calls Tryd.prog 40 #[.int .i64 a, .int .i64 b] w fun e w' => e = .returned (.int .i64 (far a b)) ∧ w = w' := by
  have H1 := Lib.hid (hold_any a w)
  have H2 := Lib.hid (hold_any b w)
  obtain ⟨p1, p2⟩ := hold_le a
  obtain ⟨p3, p4⟩ := hold_le b
  have hf := far_cases a b
  generalize far a b = f at *
  generalize hold a = x at *
  generalize hold b = y at *
  rcases hf with ⟨h1, rfl⟩ | ⟨h1, rfl⟩ | ⟨h1, h3, h2⟩
  · go_enter Tryd.func40, Tryd.ntmps40
    go_wp2_with fail
    refine H1.out.mono ?_
    rintro e w1 ⟨rfl, rfl⟩
    go_wp2_with fail
    refine H2.out.mono ?_
    rintro e w1 ⟨rfl, rfl⟩
    go_wp2_with fail
    go_ret
    exact ⟨rfl, rfl⟩
  · go_enter Tryd.func40, Tryd.ntmps40
    go_wp2_with fail
    refine H1.out.mono ?_
    rintro e w1 ⟨rfl, rfl⟩
    go_wp2_with fail
    refine H2.out.mono ?_
    rintro e w1 ⟨rfl, rfl⟩
    go_wp2_with fail
    all_goals (go_ret; exact ⟨rfl, rfl⟩)
  · subst h2
    go_enter Tryd.func40, Tryd.ntmps40
    go_wp2_with fail
    refine H1.out.mono ?_
    rintro e w1 ⟨rfl, rfl⟩
    go_wp2_with fail
    refine H2.out.mono ?_
    rintro e w1 ⟨rfl, rfl⟩
    go_wp2_with fail
    all_goals (go_ret; exact ⟨rfl, rfl⟩)
set_option maxHeartbeats 1000000 in
theorem rfurther_any (a b : Int) (w : World) : Calls Tryd.prog 13 #[.int .i64 a, .int .i64 b] w fun e w' => e = .returned (.int .i64 (far a b)) ∧ w = w' := by
  have hf := far_cases a b
  have ha := hold_cases a
  have hb := hold_cases b
  generalize far a b = f at *
  generalize hold a = x at *
  generalize hold b = y at *
  rcases ha with ⟨a1, rfl⟩ | ⟨a1, rfl⟩ | ⟨a1, a3, rfl⟩ <;> rcases hb with ⟨b1, rfl⟩ | ⟨b1, rfl⟩ | ⟨b1, b3, rfl⟩ <;> rcases hf with ⟨h1, rfl⟩ | ⟨h1, rfl⟩ | ⟨h1, h3, rfl⟩ <;> first | (exfalso; omega) | (go_enter Tryd.func13, Tryd.ntmps13; go_wp2; all_goals (go_ret; exact ⟨rfl, rfl⟩))
end Go.Proofs.YthpplbigmolnjaaDoor.FltW
