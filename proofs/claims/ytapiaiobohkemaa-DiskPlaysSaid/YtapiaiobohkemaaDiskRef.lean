/- The document's disk: what its functions come to; and functions at a disk that nobody made. -/
import Derived.Test.YtapiaiobohkemaaDiskDo
import Derived.Test.YtapiaiobohkemaaOrd
set_option linter.unusedVariables false
set_option linter.unusedSimpArgs false
namespace Go.Proofs.Ytapiaiobohkemaa.DiskW
open Go.RowKit Go.Proofs.Ytapiaiobohkemaa.Tc

def ract (M : Int) (S T : ByteArray) (kind : Int) (t : ByteArray) (keep : Int) : Bool × ByteArray × ByteArray :=
  if kind = 1 then if M < (S.size + T.size + t.size : Int) then (false, S, T) else (true, S, T ++ t)
  else if kind = 2 then (false, S ++ T, ByteArray.empty)
  else if kind = 3 then (false, S ++ T.extract 0 (max 0 (min keep T.size)).toNat, ByteArray.empty)
  else if kind = 4 then if M < (t.size : Int) then (false, S, T) else (true, t, ByteArray.empty)
  else (false, S, T)
def bytes (s : ByteArray) : List UInt8 := s.data.toList
theorem bytes_len (s : ByteArray) : (bytes s).length = s.size := by simp [bytes]
theorem bytes_app (a b : ByteArray) : bytes (a ++ b) = bytes a ++ bytes b := by simp [bytes]
theorem bytes_emp : bytes ByteArray.empty = [] := rfl
theorem ract_pact (M : Int) (S T : ByteArray) (kind : Int) (t : ByteArray) (keep : Int) :
    (pact M S.size (bytes (S ++ T)) kind t keep).1 = (ract M S T kind t keep).1 ∧ (pact M S.size (bytes (S ++ T)) kind t keep).2.1 = ((ract M S T kind t keep).2.1.size : Int) ∧
      (pact M S.size (bytes (S ++ T)) kind t keep).2.2 = bytes ((ract M S T kind t keep).2.1 ++ (ract M S T kind t keep).2.2) := by
  have hl : ((bytes (S ++ T)).length : Int) = S.size + T.size := by rw [bytes_len]; simp
  unfold pact ract
  by_cases k1 : kind = 1
  · rw [if_pos k1, if_pos k1]
    by_cases h : M < (S.size + T.size + t.size : Int)
    · rw [if_neg (by omega), if_pos h]; exact ⟨rfl, rfl, rfl⟩
    · rw [if_pos (by omega), if_neg h]; exact ⟨rfl, rfl, by simp [bytes]⟩
  rw [if_neg k1, if_neg k1]
  by_cases k2 : kind = 2
  · rw [if_pos k2, if_pos k2]; exact ⟨rfl, by simp only [hl]; simp, by simp [bytes]⟩
  rw [if_neg k2, if_neg k2]
  by_cases k3 : kind = 3
  · rw [if_pos k3, if_pos k3]
    have e : left (bytes (S ++ T)) S.size keep = S.size + max 0 (min keep T.size) := by unfold left; rw [hl]; congr 2; omega
    have hm : 0 ≤ max 0 (min keep (T.size : Int)) ∧ max 0 (min keep (T.size : Int)) ≤ T.size := by omega
    generalize max 0 (min keep (T.size : Int)) = m at e hm
    obtain ⟨hm0, hm1⟩ := hm
    obtain ⟨q, rfl⟩ := Int.eq_ofNat_of_zero_le hm0
    refine ⟨rfl, ?_, ?_⟩
    · simp only [e]; simp; omega
    · simp only [e]
      have e2 : ((S.size : Int) + (q : Int)).toNat = S.size + q := by omega
      rw [e2]
      simp [bytes, ByteArray.data_extract, List.extract_eq_take_drop, List.take_append, List.take_of_length_le]
  rw [if_neg k3, if_neg k3]
  by_cases k4 : kind = 4
  · rw [if_pos k4, if_pos k4]
    by_cases h : M < (t.size : Int)
    · rw [if_neg (by omega), if_pos h]; exact ⟨rfl, rfl, rfl⟩
    · rw [if_pos (by omega), if_neg h]; exact ⟨rfl, rfl, by simp [bytes]⟩
  rw [if_neg k4, if_neg k4]
  exact ⟨rfl, rfl, rfl⟩

/-- A reference's Disk. -/
def RD (w : World) (r : Nat) (room : Int) (S T : ByteArray) : Prop := w.heap[r]? = some (.cells #[.int .i64 room, .string S, .string T] 76 (0, 0))
theorem RD.kept {w w' : World} {r : Nat} {room : Int} {S T : ByteArray} {B : List Nat} (h : RD w r room S T) (ht : Tch B w w') (hs : r ∉ B) : RD w' r room S T := (ht.block r (lt_of_block h) hs).trans h
theorem append_nil (w : World) (t : ByteArray) : Calls Try.prog 59 #[.pointer none, .string t] w fun e w' => e = .returned (.bool false) ∧ w = w' := by
  go_enter Try.func59, Try.ntmps59
  go_wp2
  go_ret
  exact ⟨rfl, rfl⟩
theorem swap_nil (w : World) (t : ByteArray) : Calls Try.prog 51 #[.pointer none, .string t] w fun e w' => e = .returned (.bool false) ∧ w = w' := by
  go_enter Try.func51, Try.ntmps51
  go_wp2
  go_ret
  exact ⟨rfl, rfl⟩
theorem sync_nil (w : World) : Calls Try.prog 60 #[.pointer none] w fun e w' => e = .returned (.tuple #[]) ∧ w = w' := by
  go_enter Try.func60, Try.ntmps60
  go_wp2
  go_returns
  exact ⟨rfl, rfl⟩
theorem crash_nil (w : World) (k : Int) : Calls Try.prog 52 #[.pointer none, .int .i64 k] w fun e w' => e = .returned (.tuple #[]) ∧ w = w' := by
  go_enter Try.func52, Try.ntmps52
  go_wp2
  go_returns
  exact ⟨rfl, rfl⟩
theorem do_nil (w : World) (kind : Int) (t : ByteArray) (keep : Int) : Calls Try.prog 45 #[.pointer none, .agg #[.int .i64 kind, .string t, .int .i64 keep]] w fun e w' => e = .returned (.bool false) ∧ Below w.heap.size w w' := by
  have HB := Lib.hid ((Below.refl w.heap.size w).alloc (Nat.le_refl _) (.cells #[.int .i64 kind, .string t, .int .i64 keep] 81))
  by_cases k1 : kind = 1
  · have t1 : (kind == 1) = true := by simpa using k1
    clear k1
    go_enter Try.func45, Try.ntmps45
    go_wp2_with (first | (go_at_call 59; refine (append_nil _ _).mono ?_; rintro e w' ⟨rfl, rfl⟩))
    go_ret
    exact ⟨rfl, HB.out⟩
  have t1 : (kind == 1) = false := by simpa using k1
  by_cases k2 : kind = 2
  · have t2 : (kind == 2) = true := by simpa using k2
    clear k1 k2
    go_enter Try.func45, Try.ntmps45
    go_wp2_with (first | (go_at_call 60; refine (sync_nil _).mono ?_; rintro e w' ⟨rfl, rfl⟩))
    go_ret
    exact ⟨rfl, HB.out⟩
  have t2 : (kind == 2) = false := by simpa using k2
  by_cases k3 : kind = 3
  · have t3 : (kind == 3) = true := by simpa using k3
    clear k1 k2 k3
    go_enter Try.func45, Try.ntmps45
    go_wp2_with (first | (go_at_call 52; refine (crash_nil _ _).mono ?_; rintro e w' ⟨rfl, rfl⟩))
    go_ret
    exact ⟨rfl, HB.out⟩
  have t3 : (kind == 3) = false := by simpa using k3
  by_cases k4 : kind = 4
  · have t4 : (kind == 4) = true := by simpa using k4
    clear k1 k2 k3 k4
    go_enter Try.func45, Try.ntmps45
    go_wp2_with (first | (go_at_call 51; refine (swap_nil _ _).mono ?_; rintro e w' ⟨rfl, rfl⟩))
    go_ret
    exact ⟨rfl, HB.out⟩
  have t4 : (kind == 4) = false := by simpa using k4
  clear k1 k2 k3 k4
  go_enter Try.func45, Try.ntmps45
  go_wp2
  go_ret
  exact ⟨rfl, HB.out⟩
theorem bytes_nil (w : World) : Calls Try.prog 47 #[.pointer none] w fun e w' => e = .returned (.string ByteArray.empty) ∧ w = w' := by
  go_enter Try.func47, Try.ntmps47
  go_wp2
  go_ret
  exact ⟨rfl, rfl⟩
theorem sure_nil (w : World) : Calls Try.prog 48 #[.pointer none] w fun e w' => e = .returned (.int .i64 0) ∧ w = w' := by
  go_enter Try.func48, Try.ntmps48
  go_wp2
  go_ret
  exact ⟨rfl, rfl⟩
theorem room_nil (w : World) : Calls Try.prog 49 #[.pointer none] w fun e w' => e = .returned (.int .i64 0) ∧ w = w' := by
  go_enter Try.func49, Try.ntmps49
  go_wp2
  go_ret
  exact ⟨rfl, rfl⟩
set_option maxHeartbeats 1000000 in
theorem rleft_any (w : World) (r : Nat) (room : Int) (S T : ByteArray) (h : RD w r room S T) (hr : (Lit.int .i64 room).wf = true) (hS : S.size < 1000000) (hT : T.size < 1000000) :
    Calls Try.prog 50 #[.pointer (some ⟨r, 0, none⟩)] w fun e w' => e = .returned (.int .i64 (max room 0 - S.size - T.size)) ∧ ∃ n, w' = w.drewN n := by
  have c0 : w.cell? ⟨r, 0, none⟩ = some (.int .i64 room) := cell_of h rfl
  have c1 : w.cell? ⟨r, 1, none⟩ = some (.string S) := cell_of h rfl
  have c2 : w.cell? ⟨r, 2, none⟩ = some (.string T) := cell_of h rfl
  have hb := bounds_i64 hr
  clear h hr
  have hcs : (0 ≤ room ∧ max room 0 = room) ∨ (room < 0 ∧ max room 0 = 0) := by omega
  rcases hcs with ⟨q1, q2⟩ | ⟨q1, q2⟩
  all_goals
    rw [q2]
    clear q2
    go_enter Try.func50, Try.ntmps50
    go_wp2
    go_quiet (fail)
    go_wp2
    go_ret
    exact ⟨ret_int (by omega), _, rfl⟩
set_option maxHeartbeats 1000000 in
theorem rdo_one (w : World) (r : Nat) (room : Int) (S T : ByteArray) (h : RD w r room S T) (hr : (Lit.int .i64 room).wf = true) (hS : S.size < 1000000) (hT : T.size < 1000000) (t : ByteArray) (ht : t.size < 1000000) (keep : Int) (hk : (Lit.int .i64 keep).wf = true) :
    Calls Try.prog 46 #[.pointer (some ⟨r, 0, none⟩), .agg #[.int .i64 1, .string t, .int .i64 keep]] w fun e w' => e = .returned (.bool (ract (max room 0) S T 1 t keep).1) ∧ RD w' r room (ract (max room 0) S T 1 t keep).2.1 (ract (max room 0) S T 1 t keep).2.2 ∧ Tch [r] w w' := by
  have hb := bounds_i64 hr
  have hbk := bounds_i64 hk
  have ht1 : Tch [r] w (w.alloc (.cells #[.int .i64 1, .string t, .int .i64 keep] 81)) := (Tch.refl _ _).alloc _
  have hd : ∀ w', Tch [] (w.alloc (.cells #[.int .i64 1, .string t, .int .i64 keep] 81)) w' → RD w' r room S T := fun w' hw => (h.kept ((Tch.refl [] w).alloc _) (by simp)).kept hw (by simp)
  have c0 : (w.alloc (.cells #[.int .i64 1, .string t, .int .i64 keep] 81)).cell? ⟨r, 0, none⟩ = some (.int .i64 room) := cell_of (hd _ (Tch.refl _ _)) rfl
  have c1 : (w.alloc (.cells #[.int .i64 1, .string t, .int .i64 keep] 81)).cell? ⟨r, 1, none⟩ = some (.string S) := cell_of (hd _ (Tch.refl _ _)) rfl
  have c2 : (w.alloc (.cells #[.int .i64 1, .string t, .int .i64 keep] 81)).cell? ⟨r, 2, none⟩ = some (.string T) := cell_of (hd _ (Tch.refl _ _)) rfl
  have hf := free_of (hd _ (Tch.refl _ _)) 2
  have hf1 := free_of (hd _ (Tch.refl _ _)) 1
  have HD := Lib.hid hd
  have HT1 := Lib.hid ht1
  have hz := heap_alloc_new w (.cells #[.int .i64 1, .string t, .int .i64 keep] 81)
  have b0 : (w.alloc (.cells #[.int .i64 1, .string t, .int .i64 keep] 81)).cell? ⟨w.heap.size, 0, none⟩ = some (.int .i64 1) := cell_of hz rfl
  have b1 : (w.alloc (.cells #[.int .i64 1, .string t, .int .i64 keep] 81)).cell? ⟨w.heap.size, 1, none⟩ = some (.string t) := cell_of hz rfl
  have b2 : (w.alloc (.cells #[.int .i64 1, .string t, .int .i64 keep] 81)).cell? ⟨w.heap.size, 2, none⟩ = some (.int .i64 keep) := cell_of hz rfl
  clear h hr hk hd ht1 hz
  have hcs : (0 ≤ room ∧ max room 0 = room) ∨ (room < 0 ∧ max room 0 = 0) := by omega
  by_cases hlt : max room 0 < (S.size + T.size + t.size : Int)
  · have HE := Lib.hid (show ract (max room 0) S T 1 t keep = (false, S, T) by unfold ract; rw [if_pos rfl, if_pos hlt])
    rcases hcs with ⟨q1, q2⟩ | ⟨q1, q2⟩
    all_goals
      rw [q2] at hlt HE ⊢
      clear q2
      go_enter Try.func46, Try.ntmps46
      go_wp2
      generalize (w.alloc (.cells #[.int .i64 1, .string t, .int .i64 keep] 81)) = W at *
      go_quiet (fail)
      go_wp2
      go_ret
      rw [HE.out]
      exact ⟨rfl, HD.out _ ((Tch.refl _ _).drewN _), HT1.out.drewN _⟩
  · have HE := Lib.hid (show ract (max room 0) S T 1 t keep = (true, S, T ++ t) by unfold ract; rw [if_pos rfl, if_neg hlt])
    rcases hcs with ⟨q1, q2⟩ | ⟨q1, q2⟩
    all_goals
      rw [q2] at hlt HE ⊢
      clear q2
      go_enter Try.func46, Try.ntmps46
      go_wp2
      generalize (w.alloc (.cells #[.int .i64 1, .string t, .int .i64 keep] 81)) = W at *
      go_quiet (fail)
      go_wp2_with fail
      have qc0 := fun n : Wd (Dr W) => n.cellD c0
      have qc1 := fun n : Wd (Dr W) => n.cellD c1
      have qc2 := fun n : Wd (Dr W) => n.cellD c2
      have qb0 := fun n : Wd (Dr W) => n.cellD b0
      have qb1 := fun n : Wd (Dr W) => n.cellD b1
      have qb2 := fun n : Wd (Dr W) => n.cellD b2
      refine wp_region_G (n := 11) (Dr W) rfl (by kernel_rfl) ⟨nq + 1, rfl⟩ (fun hS => ?_)
      refine wpAnyG_seg (fuel := 1) [0, 1, 5, 2, 6, 3, 4, 7, 8, 9] rfl rfl (by kernel_rfl) (fun _ _ d _ _ h => by cases d <;> exact h) hS ?_
      repeat (go_big_quiet_step (fail))
      refine wpQuiet_nil ?_
      refine wpAnyG_sealed (fuel := 0) 10 (by kernel_rfl) (by kernel_rfl) rfl (fun K hK => ?_)
      go_simp
      refine hK.out (fun _ => True) _ _ trivial (fun hS => ?_)
      clear hK K
      refine wpAnyG_end (by kernel_rfl) ?_
      clear qc0 qc1 qc2 qb0 qb1 qb2
      go_wp2
      go_ret
      rw [HE.out]
      exact ⟨rfl, set_of (HD.out _ ((Tch.refl _ _).drewN _).drew) 2 (.string (T ++ t)), (HT1.out.drewN _).drew.setCell (p := ⟨r, 2, none⟩) (.inl (by simp)) _⟩
set_option maxHeartbeats 1000000 in
theorem rdo_two (w : World) (r : Nat) (room : Int) (S T : ByteArray) (h : RD w r room S T) (hr : (Lit.int .i64 room).wf = true) (hS : S.size < 1000000) (hT : T.size < 1000000) (t : ByteArray) (ht : t.size < 1000000) (keep : Int) (hk : (Lit.int .i64 keep).wf = true) :
    Calls Try.prog 46 #[.pointer (some ⟨r, 0, none⟩), .agg #[.int .i64 2, .string t, .int .i64 keep]] w fun e w' => e = .returned (.bool (ract (max room 0) S T 2 t keep).1) ∧ RD w' r room (ract (max room 0) S T 2 t keep).2.1 (ract (max room 0) S T 2 t keep).2.2 ∧ Tch [r] w w' := by
  have hb := bounds_i64 hr
  have hbk := bounds_i64 hk
  have ht1 : Tch [r] w (w.alloc (.cells #[.int .i64 2, .string t, .int .i64 keep] 81)) := (Tch.refl _ _).alloc _
  have hd : ∀ w', Tch [] (w.alloc (.cells #[.int .i64 2, .string t, .int .i64 keep] 81)) w' → RD w' r room S T := fun w' hw => (h.kept ((Tch.refl [] w).alloc _) (by simp)).kept hw (by simp)
  have c0 : (w.alloc (.cells #[.int .i64 2, .string t, .int .i64 keep] 81)).cell? ⟨r, 0, none⟩ = some (.int .i64 room) := cell_of (hd _ (Tch.refl _ _)) rfl
  have c1 : (w.alloc (.cells #[.int .i64 2, .string t, .int .i64 keep] 81)).cell? ⟨r, 1, none⟩ = some (.string S) := cell_of (hd _ (Tch.refl _ _)) rfl
  have c2 : (w.alloc (.cells #[.int .i64 2, .string t, .int .i64 keep] 81)).cell? ⟨r, 2, none⟩ = some (.string T) := cell_of (hd _ (Tch.refl _ _)) rfl
  have hf := free_of (hd _ (Tch.refl _ _)) 2
  have hf1 := free_of (hd _ (Tch.refl _ _)) 1
  have HD := Lib.hid hd
  have HT1 := Lib.hid ht1
  have hz := heap_alloc_new w (.cells #[.int .i64 2, .string t, .int .i64 keep] 81)
  have b0 : (w.alloc (.cells #[.int .i64 2, .string t, .int .i64 keep] 81)).cell? ⟨w.heap.size, 0, none⟩ = some (.int .i64 2) := cell_of hz rfl
  have b1 : (w.alloc (.cells #[.int .i64 2, .string t, .int .i64 keep] 81)).cell? ⟨w.heap.size, 1, none⟩ = some (.string t) := cell_of hz rfl
  have b2 : (w.alloc (.cells #[.int .i64 2, .string t, .int .i64 keep] 81)).cell? ⟨w.heap.size, 2, none⟩ = some (.int .i64 keep) := cell_of hz rfl
  clear h hr hk hd ht1 hz
  have HE := Lib.hid (show ract (max room 0) S T 2 t keep = (false, S ++ T, ByteArray.empty) by unfold ract; rw [if_neg (by decide), if_pos rfl])
  go_enter Try.func46, Try.ntmps46
  go_wp2
  generalize (w.alloc (.cells #[.int .i64 2, .string t, .int .i64 keep] 81)) = W at *
  have qc0 := fun n : Wd (Dr W) => n.cellD c0
  have qc1 := fun n : Wd (Dr W) => n.cellD c1
  have qc2 := fun n : Wd (Dr W) => n.cellD c2
  have qb0 := fun n : Wd (Dr W) => n.cellD b0
  have qb1 := fun n : Wd (Dr W) => n.cellD b1
  have qb2 := fun n : Wd (Dr W) => n.cellD b2
  refine wp_region_G (n := 13) (Dr W) rfl (by kernel_rfl) (dr_drew W) (fun hS => ?_)
  refine wpAnyG_seg (fuel := 1) [0, 1, 5, 2, 6, 3, 7, 4, 8, 9, 10, 11] rfl rfl (by kernel_rfl) (fun _ _ d _ _ h => by cases d <;> exact h) hS ?_
  repeat (go_big_quiet_step (fail))
  refine wpQuiet_nil ?_
  refine wpAnyG_sealed (fuel := 0) 12 (by kernel_rfl) (by kernel_rfl) rfl (fun K hK => ?_)
  go_simp
  refine hK.out (fun _ => True) _ _ trivial (fun hS => ?_)
  clear hK K
  refine wpAnyG_end (by kernel_rfl) ?_
  clear qc0 qc1 qc2 qb0 qb1 qb2
  have d2 := cell_of (set_of (HD.out _ (Tch.refl _ _).drew) 1 (.string (S ++ T))) (o := 2) rfl
  have df := free_of (set_of (HD.out _ (Tch.refl _ _).drew) 1 (.string (S ++ T))) 2
  go_wp2
  go_ret
  rw [HE.out]
  exact ⟨rfl, set_of (set_of (HD.out _ (Tch.refl _ _).drew) 1 (.string (S ++ T))) 2 (.string ByteArray.empty), (HT1.out.drew.setCell (p := ⟨r, 1, none⟩) (.inl (by simp)) _).setCell (p := ⟨r, 2, none⟩) (.inl (by simp)) _⟩
set_option maxHeartbeats 1000000 in
theorem rdo_three (w : World) (r : Nat) (room : Int) (S T : ByteArray) (h : RD w r room S T) (hr : (Lit.int .i64 room).wf = true) (hS : S.size < 1000000) (hT : T.size < 1000000) (t : ByteArray) (ht : t.size < 1000000) (keep : Int) (hk : (Lit.int .i64 keep).wf = true) :
    Calls Try.prog 46 #[.pointer (some ⟨r, 0, none⟩), .agg #[.int .i64 3, .string t, .int .i64 keep]] w fun e w' => e = .returned (.bool (ract (max room 0) S T 3 t keep).1) ∧ RD w' r room (ract (max room 0) S T 3 t keep).2.1 (ract (max room 0) S T 3 t keep).2.2 ∧ Tch [r] w w' := by
  have hb := bounds_i64 hr
  have hbk := bounds_i64 hk
  have ht1 : Tch [r] w (w.alloc (.cells #[.int .i64 3, .string t, .int .i64 keep] 81)) := (Tch.refl _ _).alloc _
  have hd : ∀ w', Tch [] (w.alloc (.cells #[.int .i64 3, .string t, .int .i64 keep] 81)) w' → RD w' r room S T := fun w' hw => (h.kept ((Tch.refl [] w).alloc _) (by simp)).kept hw (by simp)
  have c0 : (w.alloc (.cells #[.int .i64 3, .string t, .int .i64 keep] 81)).cell? ⟨r, 0, none⟩ = some (.int .i64 room) := cell_of (hd _ (Tch.refl _ _)) rfl
  have c1 : (w.alloc (.cells #[.int .i64 3, .string t, .int .i64 keep] 81)).cell? ⟨r, 1, none⟩ = some (.string S) := cell_of (hd _ (Tch.refl _ _)) rfl
  have c2 : (w.alloc (.cells #[.int .i64 3, .string t, .int .i64 keep] 81)).cell? ⟨r, 2, none⟩ = some (.string T) := cell_of (hd _ (Tch.refl _ _)) rfl
  have hf := free_of (hd _ (Tch.refl _ _)) 2
  have hf1 := free_of (hd _ (Tch.refl _ _)) 1
  have HD := Lib.hid hd
  have HT1 := Lib.hid ht1
  have hz := heap_alloc_new w (.cells #[.int .i64 3, .string t, .int .i64 keep] 81)
  have b0 : (w.alloc (.cells #[.int .i64 3, .string t, .int .i64 keep] 81)).cell? ⟨w.heap.size, 0, none⟩ = some (.int .i64 3) := cell_of hz rfl
  have b1 : (w.alloc (.cells #[.int .i64 3, .string t, .int .i64 keep] 81)).cell? ⟨w.heap.size, 1, none⟩ = some (.string t) := cell_of hz rfl
  have b2 : (w.alloc (.cells #[.int .i64 3, .string t, .int .i64 keep] 81)).cell? ⟨w.heap.size, 2, none⟩ = some (.int .i64 keep) := cell_of hz rfl
  clear h hr hk hd ht1 hz
  have hcs : (keep ≤ 0 ∧ max 0 (min keep (T.size : Int)) = 0) ∨ (∃ q : Nat, keep = q ∧ (0 < q ∧ q ≤ T.size) ∧ max 0 (min keep (T.size : Int)) = q) ∨ (((T.size : Int) < keep ∧ 0 < T.size) ∧ max 0 (min keep (T.size : Int)) = T.size) ∨ ((0 < keep ∧ T.size = 0) ∧ max 0 (min keep (T.size : Int)) = 0) := by
    rcases (Int.lt_or_le 0 keep).symm with h | h
    · exact .inl ⟨h, by omega⟩
    · obtain ⟨q, rfl⟩ := Int.eq_ofNat_of_zero_le (Int.le_of_lt h)
      rcases Nat.lt_or_ge T.size q with h' | h'
      · rcases Nat.eq_zero_or_pos T.size with h0 | h0
        · exact .inr (.inr (.inr ⟨⟨by omega, h0⟩, by omega⟩))
        · exact .inr (.inr (.inl ⟨⟨by omega, h0⟩, by omega⟩))
      · exact .inr (.inl ⟨q, rfl, ⟨by omega, h'⟩, by omega⟩)
  have HE0 : ∀ q : Nat, max 0 (min keep (T.size : Int)) = q → Hid (ract (max room 0) S T 3 t keep = (false, S ++ T.extract 0 q, ByteArray.empty)) := fun q hq => Lib.hid (by unfold ract; rw [if_neg (by decide), if_neg (by decide), if_pos rfl, hq]; rfl)
  rcases hcs with ⟨q1, q2⟩ | ⟨q, rfl, ⟨q0, q1⟩, q2⟩ | ⟨⟨q1, q0⟩, q2⟩ | ⟨⟨q1, q0⟩, q2⟩
  · have HE := HE0 0 q2
    rw [show S ++ T.extract 0 0 = S by apply ByteArray.ext; simp] at HE
    clear q2 HE0
    go_enter Try.func46, Try.ntmps46
    go_wp2
    generalize (w.alloc (.cells #[.int .i64 3, .string t, .int .i64 keep] 81)) = W at *
    have qc0 := fun n : Wd (Dr W) => n.cellD c0
    have qc1 := fun n : Wd (Dr W) => n.cellD c1
    have qc2 := fun n : Wd (Dr W) => n.cellD c2
    have qb0 := fun n : Wd (Dr W) => n.cellD b0
    have qb1 := fun n : Wd (Dr W) => n.cellD b1
    have qb2 := fun n : Wd (Dr W) => n.cellD b2
    refine wp_region_G (n := 10) (Dr W) rfl (by kernel_rfl) (dr_drew W) (fun hS => ?_)
    refine wpAnyG_seg (fuel := 0) [0, 2, 1, 3, 4, 5, 6, 7, 8, 9] rfl rfl (by kernel_rfl) (fun _ _ d _ _ h => by cases d <;> exact h) hS ?_
    repeat (go_big_quiet_step (fail))
    refine wpQuiet_nil ?_
    refine wpAnyG_end (by kernel_rfl) ?_
    clear qc0 qc1 qc2 qb0 qb1 qb2
    go_wp2_with fail
    have qc0 := fun n : Wd (Dr W) => n.cellD c0
    have qc1 := fun n : Wd (Dr W) => n.cellD c1
    have qc2 := fun n : Wd (Dr W) => n.cellD c2
    have qb0 := fun n : Wd (Dr W) => n.cellD b0
    have qb1 := fun n : Wd (Dr W) => n.cellD b1
    have qb2 := fun n : Wd (Dr W) => n.cellD b2
    refine wp_region_G (n := 15) (Dr W) rfl (by kernel_rfl) ⟨2, rfl⟩ (fun hS => ?_)
    refine wpAnyG_seg (fuel := 1) [0, 1, 5, 9, 2, 6, 3, 7, 4, 8, 10, 11, 12, 13] rfl rfl (by kernel_rfl) (fun _ _ d _ _ h => by cases d <;> exact h) hS ?_
    repeat (go_big_quiet_step (fail))
    refine wpQuiet_nil ?_
    refine wpAnyG_sealed (fuel := 0) 14 (by kernel_rfl) (by kernel_rfl) rfl (fun K hK => ?_)
    go_simp
    refine hK.out (fun _ => True) _ _ trivial (fun hS => ?_)
    clear hK K
    refine wpAnyG_end (by kernel_rfl) ?_
    clear qc0 qc1 qc2 qb0 qb1 qb2
    have d2 := cell_of (set_of (HD.out _ (Tch.refl _ _).drew.drew) 1 (.string S)) (o := 2) rfl
    have df := free_of (set_of (HD.out _ (Tch.refl _ _).drew.drew) 1 (.string S)) 2
    go_wp2
    go_ret
    rw [HE.out]
    exact ⟨rfl, set_of (set_of (HD.out _ (Tch.refl _ _).drew.drew) 1 (.string S)) 2 (.string ByteArray.empty), (HT1.out.drew.drew.setCell (p := ⟨r, 1, none⟩) (.inl (by simp)) _).setCell (p := ⟨r, 2, none⟩) (.inl (by simp)) _⟩
  · have HE := HE0 q q2
    clear q2 HE0
    go_enter Try.func46, Try.ntmps46
    go_wp2
    generalize (w.alloc (.cells #[.int .i64 3, .string t, .int .i64 (q : Int)] 81)) = W at *
    have qc0 := fun n : Wd (Dr W) => n.cellD c0
    have qc1 := fun n : Wd (Dr W) => n.cellD c1
    have qc2 := fun n : Wd (Dr W) => n.cellD c2
    have qb0 := fun n : Wd (Dr W) => n.cellD b0
    have qb1 := fun n : Wd (Dr W) => n.cellD b1
    have qb2 := fun n : Wd (Dr W) => n.cellD b2
    refine wp_region_G (n := 10) (Dr W) rfl (by kernel_rfl) (dr_drew W) (fun hS => ?_)
    refine wpAnyG_seg (fuel := 0) [0, 2, 1, 3, 4, 5, 6, 7, 8, 9] rfl rfl (by kernel_rfl) (fun _ _ d _ _ h => by cases d <;> exact h) hS ?_
    repeat (go_big_quiet_step (fail))
    refine wpQuiet_nil ?_
    refine wpAnyG_end (by kernel_rfl) ?_
    clear qc0 qc1 qc2 qb0 qb1 qb2
    go_wp2_with fail
    have qc0 := fun n : Wd (Dr W) => n.cellD c0
    have qc1 := fun n : Wd (Dr W) => n.cellD c1
    have qc2 := fun n : Wd (Dr W) => n.cellD c2
    have qb0 := fun n : Wd (Dr W) => n.cellD b0
    have qb1 := fun n : Wd (Dr W) => n.cellD b1
    have qb2 := fun n : Wd (Dr W) => n.cellD b2
    refine wp_region_G (n := 15) (Dr W) rfl (by kernel_rfl) ⟨2, rfl⟩ (fun hS => ?_)
    refine wpAnyG_seg (fuel := 1) [0, 1, 5, 9, 2, 6, 3, 7, 4, 8, 10, 11, 12, 13] rfl rfl (by kernel_rfl) (fun _ _ d _ _ h => by cases d <;> exact h) hS ?_
    repeat (go_big_quiet_step (fail))
    refine wpQuiet_nil ?_
    refine wpAnyG_sealed (fuel := 0) 14 (by kernel_rfl) (by kernel_rfl) rfl (fun K hK => ?_)
    go_simp
    refine hK.out (fun _ => True) _ _ trivial (fun hS => ?_)
    clear hK K
    refine wpAnyG_end (by kernel_rfl) ?_
    clear qc0 qc1 qc2 qb0 qb1 qb2
    have d2 := cell_of (set_of (HD.out _ (Tch.refl _ _).drew.drew) 1 (.string (S ++ T.extract 0 q))) (o := 2) rfl
    have df := free_of (set_of (HD.out _ (Tch.refl _ _).drew.drew) 1 (.string (S ++ T.extract 0 q))) 2
    go_wp2
    go_ret
    rw [HE.out]
    exact ⟨rfl, set_of (set_of (HD.out _ (Tch.refl _ _).drew.drew) 1 (.string (S ++ T.extract 0 q))) 2 (.string ByteArray.empty), (HT1.out.drew.drew.setCell (p := ⟨r, 1, none⟩) (.inl (by simp)) _).setCell (p := ⟨r, 2, none⟩) (.inl (by simp)) _⟩
  · have HE := HE0 T.size q2
    rw [show T.extract 0 T.size = T by apply ByteArray.ext; simp] at HE
    clear q2 HE0
    go_enter Try.func46, Try.ntmps46
    go_wp2
    generalize (w.alloc (.cells #[.int .i64 3, .string t, .int .i64 keep] 81)) = W at *
    have qc0 := fun n : Wd (Dr W) => n.cellD c0
    have qc1 := fun n : Wd (Dr W) => n.cellD c1
    have qc2 := fun n : Wd (Dr W) => n.cellD c2
    have qb0 := fun n : Wd (Dr W) => n.cellD b0
    have qb1 := fun n : Wd (Dr W) => n.cellD b1
    have qb2 := fun n : Wd (Dr W) => n.cellD b2
    refine wp_region_G (n := 10) (Dr W) rfl (by kernel_rfl) (dr_drew W) (fun hS => ?_)
    refine wpAnyG_seg (fuel := 0) [0, 2, 1, 3, 4, 5, 6, 7, 8, 9] rfl rfl (by kernel_rfl) (fun _ _ d _ _ h => by cases d <;> exact h) hS ?_
    repeat (go_big_quiet_step (fail))
    refine wpQuiet_nil ?_
    refine wpAnyG_end (by kernel_rfl) ?_
    clear qc0 qc1 qc2 qb0 qb1 qb2
    go_wp2_with fail
    have qc0 := fun n : Wd (Dr W) => n.cellD c0
    have qc1 := fun n : Wd (Dr W) => n.cellD c1
    have qc2 := fun n : Wd (Dr W) => n.cellD c2
    have qb0 := fun n : Wd (Dr W) => n.cellD b0
    have qb1 := fun n : Wd (Dr W) => n.cellD b1
    have qb2 := fun n : Wd (Dr W) => n.cellD b2
    refine wp_region_G (n := 15) (Dr W) rfl (by kernel_rfl) ⟨2, rfl⟩ (fun hS => ?_)
    refine wpAnyG_seg (fuel := 1) [0, 1, 5, 9, 2, 6, 3, 7, 4, 8, 10, 11, 12, 13] rfl rfl (by kernel_rfl) (fun _ _ d _ _ h => by cases d <;> exact h) hS ?_
    repeat (go_big_quiet_step (fail))
    refine wpQuiet_nil ?_
    refine wpAnyG_sealed (fuel := 0) 14 (by kernel_rfl) (by kernel_rfl) rfl (fun K hK => ?_)
    go_simp
    refine hK.out (fun _ => True) _ _ trivial (fun hS => ?_)
    clear hK K
    refine wpAnyG_end (by kernel_rfl) ?_
    clear qc0 qc1 qc2 qb0 qb1 qb2
    have d2 := cell_of (set_of (HD.out _ (Tch.refl _ _).drew.drew) 1 (.string (S ++ T))) (o := 2) rfl
    have df := free_of (set_of (HD.out _ (Tch.refl _ _).drew.drew) 1 (.string (S ++ T))) 2
    go_wp2
    go_ret
    rw [HE.out]
    exact ⟨rfl, set_of (set_of (HD.out _ (Tch.refl _ _).drew.drew) 1 (.string (S ++ T))) 2 (.string ByteArray.empty), (HT1.out.drew.drew.setCell (p := ⟨r, 1, none⟩) (.inl (by simp)) _).setCell (p := ⟨r, 2, none⟩) (.inl (by simp)) _⟩
  · have HE := HE0 0 q2
    rw [show S ++ T.extract 0 0 = S by apply ByteArray.ext; simp] at HE
    clear q2 HE0
    go_enter Try.func46, Try.ntmps46
    go_wp2
    generalize (w.alloc (.cells #[.int .i64 3, .string t, .int .i64 keep] 81)) = W at *
    have qc0 := fun n : Wd (Dr W) => n.cellD c0
    have qc1 := fun n : Wd (Dr W) => n.cellD c1
    have qc2 := fun n : Wd (Dr W) => n.cellD c2
    have qb0 := fun n : Wd (Dr W) => n.cellD b0
    have qb1 := fun n : Wd (Dr W) => n.cellD b1
    have qb2 := fun n : Wd (Dr W) => n.cellD b2
    refine wp_region_G (n := 10) (Dr W) rfl (by kernel_rfl) (dr_drew W) (fun hS => ?_)
    refine wpAnyG_seg (fuel := 0) [0, 2, 1, 3, 4, 5, 6, 7, 8, 9] rfl rfl (by kernel_rfl) (fun _ _ d _ _ h => by cases d <;> exact h) hS ?_
    repeat (go_big_quiet_step (fail))
    refine wpQuiet_nil ?_
    refine wpAnyG_end (by kernel_rfl) ?_
    clear qc0 qc1 qc2 qb0 qb1 qb2
    go_wp2_with fail
    have qc0 := fun n : Wd (Dr W) => n.cellD c0
    have qc1 := fun n : Wd (Dr W) => n.cellD c1
    have qc2 := fun n : Wd (Dr W) => n.cellD c2
    have qb0 := fun n : Wd (Dr W) => n.cellD b0
    have qb1 := fun n : Wd (Dr W) => n.cellD b1
    have qb2 := fun n : Wd (Dr W) => n.cellD b2
    refine wp_region_G (n := 15) (Dr W) rfl (by kernel_rfl) ⟨2, rfl⟩ (fun hS => ?_)
    refine wpAnyG_seg (fuel := 1) [0, 1, 5, 9, 2, 6, 3, 7, 4, 8, 10, 11, 12, 13] rfl rfl (by kernel_rfl) (fun _ _ d _ _ h => by cases d <;> exact h) hS ?_
    repeat (go_big_quiet_step (fail))
    refine wpQuiet_nil ?_
    refine wpAnyG_sealed (fuel := 0) 14 (by kernel_rfl) (by kernel_rfl) rfl (fun K hK => ?_)
    go_simp
    refine hK.out (fun _ => True) _ _ trivial (fun hS => ?_)
    clear hK K
    refine wpAnyG_end (by kernel_rfl) ?_
    clear qc0 qc1 qc2 qb0 qb1 qb2
    have d2 := cell_of (set_of (HD.out _ (Tch.refl _ _).drew.drew) 1 (.string S)) (o := 2) rfl
    have df := free_of (set_of (HD.out _ (Tch.refl _ _).drew.drew) 1 (.string S)) 2
    go_wp2
    go_ret
    rw [HE.out]
    exact ⟨rfl, set_of (set_of (HD.out _ (Tch.refl _ _).drew.drew) 1 (.string S)) 2 (.string ByteArray.empty), (HT1.out.drew.drew.setCell (p := ⟨r, 1, none⟩) (.inl (by simp)) _).setCell (p := ⟨r, 2, none⟩) (.inl (by simp)) _⟩
set_option maxHeartbeats 1000000 in
theorem rdo_four (w : World) (r : Nat) (room : Int) (S T : ByteArray) (h : RD w r room S T) (hr : (Lit.int .i64 room).wf = true) (hS : S.size < 1000000) (hT : T.size < 1000000) (t : ByteArray) (ht : t.size < 1000000) (keep : Int) (hk : (Lit.int .i64 keep).wf = true) :
    Calls Try.prog 46 #[.pointer (some ⟨r, 0, none⟩), .agg #[.int .i64 4, .string t, .int .i64 keep]] w fun e w' => e = .returned (.bool (ract (max room 0) S T 4 t keep).1) ∧ RD w' r room (ract (max room 0) S T 4 t keep).2.1 (ract (max room 0) S T 4 t keep).2.2 ∧ Tch [r] w w' := by
  have hb := bounds_i64 hr
  have hbk := bounds_i64 hk
  have ht1 : Tch [r] w (w.alloc (.cells #[.int .i64 4, .string t, .int .i64 keep] 81)) := (Tch.refl _ _).alloc _
  have hd : ∀ w', Tch [] (w.alloc (.cells #[.int .i64 4, .string t, .int .i64 keep] 81)) w' → RD w' r room S T := fun w' hw => (h.kept ((Tch.refl [] w).alloc _) (by simp)).kept hw (by simp)
  have c0 : (w.alloc (.cells #[.int .i64 4, .string t, .int .i64 keep] 81)).cell? ⟨r, 0, none⟩ = some (.int .i64 room) := cell_of (hd _ (Tch.refl _ _)) rfl
  have c1 : (w.alloc (.cells #[.int .i64 4, .string t, .int .i64 keep] 81)).cell? ⟨r, 1, none⟩ = some (.string S) := cell_of (hd _ (Tch.refl _ _)) rfl
  have c2 : (w.alloc (.cells #[.int .i64 4, .string t, .int .i64 keep] 81)).cell? ⟨r, 2, none⟩ = some (.string T) := cell_of (hd _ (Tch.refl _ _)) rfl
  have hf := free_of (hd _ (Tch.refl _ _)) 2
  have hf1 := free_of (hd _ (Tch.refl _ _)) 1
  have HD := Lib.hid hd
  have HT1 := Lib.hid ht1
  have hz := heap_alloc_new w (.cells #[.int .i64 4, .string t, .int .i64 keep] 81)
  have b0 : (w.alloc (.cells #[.int .i64 4, .string t, .int .i64 keep] 81)).cell? ⟨w.heap.size, 0, none⟩ = some (.int .i64 4) := cell_of hz rfl
  have b1 : (w.alloc (.cells #[.int .i64 4, .string t, .int .i64 keep] 81)).cell? ⟨w.heap.size, 1, none⟩ = some (.string t) := cell_of hz rfl
  have b2 : (w.alloc (.cells #[.int .i64 4, .string t, .int .i64 keep] 81)).cell? ⟨w.heap.size, 2, none⟩ = some (.int .i64 keep) := cell_of hz rfl
  clear h hr hk hd ht1 hz
  have hcs : (0 ≤ room ∧ max room 0 = room) ∨ (room < 0 ∧ max room 0 = 0) := by omega
  by_cases hlt : max room 0 < (t.size : Int)
  · have HE := Lib.hid (show ract (max room 0) S T 4 t keep = (false, S, T) by unfold ract; rw [if_neg (by decide), if_neg (by decide), if_neg (by decide), if_pos rfl, if_pos hlt])
    rcases hcs with ⟨q1, q2⟩ | ⟨q1, q2⟩
    all_goals
      rw [q2] at hlt HE ⊢
      clear q2
      go_enter Try.func46, Try.ntmps46
      go_wp2
      generalize (w.alloc (.cells #[.int .i64 4, .string t, .int .i64 keep] 81)) = W at *
      go_quiet (fail)
      go_wp2
      go_ret
      rw [HE.out]
      exact ⟨rfl, HD.out _ ((Tch.refl _ _).drewN _), HT1.out.drewN _⟩
  · have HE := Lib.hid (show ract (max room 0) S T 4 t keep = (true, t, ByteArray.empty) by unfold ract; rw [if_neg (by decide), if_neg (by decide), if_neg (by decide), if_pos rfl, if_neg hlt])
    rcases hcs with ⟨q1, q2⟩ | ⟨q1, q2⟩
    all_goals
      rw [q2] at hlt HE ⊢
      clear q2
      go_enter Try.func46, Try.ntmps46
      go_wp2
      generalize (w.alloc (.cells #[.int .i64 4, .string t, .int .i64 keep] 81)) = W at *
      go_quiet (fail)
      have d2 := cell_of (set_of (HD.out _ ((Tch.refl _ _).drewN nq)) 1 (.string t)) (o := 2) rfl
      have df := free_of (set_of (HD.out _ ((Tch.refl _ _).drewN nq)) 1 (.string t)) 2
      go_wp2
      go_ret
      rw [HE.out]
      exact ⟨rfl, set_of (set_of (HD.out _ ((Tch.refl _ _).drewN _)) 1 (.string t)) 2 (.string ByteArray.empty), ((HT1.out.drewN _).setCell (p := ⟨r, 1, none⟩) (.inl (by simp)) _).setCell (p := ⟨r, 2, none⟩) (.inl (by simp)) _⟩
set_option maxHeartbeats 1000000 in
theorem rdo_other (w : World) (r : Nat) (room : Int) (S T : ByteArray) (h : RD w r room S T) (hr : (Lit.int .i64 room).wf = true) (hS : S.size < 1000000) (hT : T.size < 1000000) (kind : Int) (k1 : kind ≠ 1) (k2 : kind ≠ 2) (k3 : kind ≠ 3) (k4 : kind ≠ 4) (t : ByteArray) (ht : t.size < 1000000) (keep : Int) (hk : (Lit.int .i64 keep).wf = true) :
    Calls Try.prog 46 #[.pointer (some ⟨r, 0, none⟩), .agg #[.int .i64 kind, .string t, .int .i64 keep]] w fun e w' => e = .returned (.bool (ract (max room 0) S T kind t keep).1) ∧ RD w' r room (ract (max room 0) S T kind t keep).2.1 (ract (max room 0) S T kind t keep).2.2 ∧ Tch [r] w w' := by
  have hb := bounds_i64 hr
  have hbk := bounds_i64 hk
  have ht1 : Tch [r] w (w.alloc (.cells #[.int .i64 kind, .string t, .int .i64 keep] 81)) := (Tch.refl _ _).alloc _
  have hd : ∀ w', Tch [] (w.alloc (.cells #[.int .i64 kind, .string t, .int .i64 keep] 81)) w' → RD w' r room S T := fun w' hw => (h.kept ((Tch.refl [] w).alloc _) (by simp)).kept hw (by simp)
  have c0 : (w.alloc (.cells #[.int .i64 kind, .string t, .int .i64 keep] 81)).cell? ⟨r, 0, none⟩ = some (.int .i64 room) := cell_of (hd _ (Tch.refl _ _)) rfl
  have c1 : (w.alloc (.cells #[.int .i64 kind, .string t, .int .i64 keep] 81)).cell? ⟨r, 1, none⟩ = some (.string S) := cell_of (hd _ (Tch.refl _ _)) rfl
  have c2 : (w.alloc (.cells #[.int .i64 kind, .string t, .int .i64 keep] 81)).cell? ⟨r, 2, none⟩ = some (.string T) := cell_of (hd _ (Tch.refl _ _)) rfl
  have hf := free_of (hd _ (Tch.refl _ _)) 2
  have hf1 := free_of (hd _ (Tch.refl _ _)) 1
  have HD := Lib.hid hd
  have HT1 := Lib.hid ht1
  have hz := heap_alloc_new w (.cells #[.int .i64 kind, .string t, .int .i64 keep] 81)
  have b0 : (w.alloc (.cells #[.int .i64 kind, .string t, .int .i64 keep] 81)).cell? ⟨w.heap.size, 0, none⟩ = some (.int .i64 kind) := cell_of hz rfl
  have b1 : (w.alloc (.cells #[.int .i64 kind, .string t, .int .i64 keep] 81)).cell? ⟨w.heap.size, 1, none⟩ = some (.string t) := cell_of hz rfl
  have b2 : (w.alloc (.cells #[.int .i64 kind, .string t, .int .i64 keep] 81)).cell? ⟨w.heap.size, 2, none⟩ = some (.int .i64 keep) := cell_of hz rfl
  clear h hr hk hd ht1 hz
  have HE := Lib.hid (show ract (max room 0) S T kind t keep = (false, S, T) by unfold ract; rw [if_neg k1, if_neg k2, if_neg k3, if_neg k4])
  have t1 : (kind == 1) = false := by simpa using k1
  have t2 : (kind == 2) = false := by simpa using k2
  have t3 : (kind == 3) = false := by simpa using k3
  have t4 : (kind == 4) = false := by simpa using k4
  clear k1 k2 k3 k4
  go_enter Try.func46, Try.ntmps46
  go_wp2
  go_ret
  rw [HE.out]
  exact ⟨rfl, HD.out _ (Tch.refl _ _), HT1.out⟩
end Go.Proofs.Ytapiaiobohkemaa.DiskW
