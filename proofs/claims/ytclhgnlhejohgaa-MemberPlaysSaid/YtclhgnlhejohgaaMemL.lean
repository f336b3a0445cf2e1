/- Members that nobody made. -/
import Derived.Test.YtclhgnlhejohgaaMemK
set_option linter.unusedVariables false
set_option linter.unusedSimpArgs false
namespace Go.Proofs.Ytclhgnlhejohgaa.MemW
open Go.RowKit Go.Proofs.Ytclhgnlhejohgaa.Tc Go.Proofs.Ytclhgnlhejohgaa.MemP
open Go.Proofs.Ytclhgnlhejohgaa.PickW (OwnS Newer kS kI cells9 str_cell strs_new alloc_below)

theorem join_nil (w : World) (c : ByteArray) (q : Int) : Calls Try.prog 82 #[.pointer none, .string c, .int .i64 q] w fun e w' => e = .returned (.bool false) ∧ Below w.heap.size w w' := by
  have HB := Lib.hid (Below.refl w.heap.size w)
  go_enter Try.func82, Try.ntmps82
  go_wp2_with fail
  go_ret
  exact ⟨rfl, HB.out⟩
theorem leave_nil (w : World) (c : ByteArray) : Calls Try.prog 84 #[.pointer none, .string c] w fun e w' => e = .returned (.bool false) ∧ Below w.heap.size w w' := by
  have HF := Lib.hid (find_nil w c)
  go_enter Try.func84, Try.ntmps84
  go_wp2_with fail
  refine HF.out.mono ?_
  rintro e w2 ⟨rfl, hb⟩
  have HB := Lib.hid hb
  clear hb
  go_wp2_with fail
  go_ret
  exact ⟨rfl, HB.out⟩
theorem online_nil (w : World) (c : ByteArray) (is : Bool) : Calls Try.prog 83 #[.pointer none, .string c, .bool is] w fun e w' => e = .returned (.bool false) ∧ Below w.heap.size w w' := by
  have HF := Lib.hid (find_nil w c)
  go_enter Try.func83, Try.ntmps83
  go_wp2_with fail
  refine HF.out.mono ?_
  rintro e w2 ⟨rfl, hb⟩
  have HB := Lib.hid hb
  clear hb
  go_wp2_with fail
  go_ret
  exact ⟨rfl, HB.out⟩
set_option maxRecDepth 100000 in
set_option maxHeartbeats 2000000 in
theorem do_nil (w : World) (kind : Int) (c : ByteArray) (q : Int) :
    Calls Try.prog 45 #[.pointer none, .agg #[.int .i64 kind, .string c, .int .i64 q]] w fun e w' => e = .returned (.bool false) ∧ Below w.heap.size w w' := by
  have hb := alloc_below w (.cells #[.int .i64 kind, .string c, .int .i64 q] 63)
  have HB := Lib.hid hb
  have HJ := Lib.hid (join_nil (w.alloc (.cells #[.int .i64 kind, .string c, .int .i64 q] 63)) c q)
  have HL := Lib.hid (leave_nil (w.alloc (.cells #[.int .i64 kind, .string c, .int .i64 q] 63)) c)
  have HO := Lib.hid (fun is => online_nil (w.alloc (.cells #[.int .i64 kind, .string c, .int .i64 q] 63)) c is)
  clear hb
  by_cases h1 : kind = 1
  · subst h1
    go_enter Try.func45, Try.ntmps45
    go_wp2_with fail
    refine HJ.out.mono ?_
    rintro e w' ⟨rfl, hb⟩
    have HE := Lib.hid (then_below HB.out hb)
    clear hb
    go_wp2
    go_ret
    exact ⟨rfl, HE.out⟩
  · by_cases h2 : kind = 2
    · subst h2
      go_enter Try.func45, Try.ntmps45
      go_wp2_with fail
      refine HL.out.mono ?_
      rintro e w' ⟨rfl, hb⟩
      have HE := Lib.hid (then_below HB.out hb)
      clear hb
      go_wp2
      go_ret
      exact ⟨rfl, HE.out⟩
    · by_cases h3 : kind = 3
      · subst h3
        go_enter Try.func45, Try.ntmps45
        go_wp2_with fail
        refine (HO.out true).mono ?_
        rintro e w' ⟨rfl, hb⟩
        have HE := Lib.hid (then_below HB.out hb)
        clear hb
        go_wp2
        go_ret
        exact ⟨rfl, HE.out⟩
      · by_cases h4 : kind = 4
        · subst h4
          go_enter Try.func45, Try.ntmps45
          go_wp2_with fail
          refine (HO.out false).mono ?_
          rintro e w' ⟨rfl, hb⟩
          have HE := Lib.hid (then_below HB.out hb)
          clear hb
          go_wp2
          go_ret
          exact ⟨rfl, HE.out⟩
        · go_enter Try.func45, Try.ntmps45
          go_wp2
          go_ret
          exact ⟨rfl, HB.out⟩
theorem here_nil (w : World) : Calls Try.prog 52 #[.pointer none] w fun e w' => e = .returned (.slice none 0 0) ∧ w = w' := by
  have HA := Lib.hid (all_nil w)
  go_enter Try.func52, Try.ntmps52
  go_wp2_with fail
  refine HA.out.mono ?_
  rintro e w2 ⟨rfl, rfl⟩
  go_wp2
  go_loopw [3, 9] (fun o x wr => o = .slice none 0 0 ∧ x = .int .i64 0 ∧ w = wr) (fun _ _ _ => 0)
  case atStart => exact ⟨rfl, rfl, by first | rfl | trivial⟩
  case round =>
    obtain ⟨rfl, rfl, rfl⟩ := hrel
    go_wp2
    go_ret
    exact ⟨rfl, by first | rfl | trivial⟩
theorem owner_nil (w : World) : Calls Try.prog 54 #[.pointer none] w fun e w' => e = .returned (.string ByteArray.empty) ∧ w = w' := by
  have HA := Lib.hid (here_nil w)
  go_enter Try.func54, Try.ntmps54
  go_wp2_with fail
  refine HA.out.mono ?_
  rintro e w2 ⟨rfl, rfl⟩
  go_wp2
  go_ret
  exact ⟨rfl, by first | rfl | trivial⟩
end Go.Proofs.Ytclhgnlhejohgaa.MemW
