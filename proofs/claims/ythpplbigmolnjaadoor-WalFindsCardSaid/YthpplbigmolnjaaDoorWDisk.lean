/- What a disk's functions come to, over the program. -/
import Derived.Test.YthpplbigmolnjaaDoorProg
import Derived.WalkKit
import Derived.KernelRfl
import Derived.Deep.LoopGhost
import Derived.Deep.QuietTactic
import Derived.BigQuiet
import Derived.Lib.Hide
import Derived.Deep.RegionWith
import Derived.Deep.RegionHeld3
import Derived.Deep.RegionHeldLaw
import Derived.StillTailTactics
import Derived.Deep.Upon
import Derived.Laws.MakeOwn
import Derived.Laws.BytesArg
import Derived.Lib.LazyBuf
import Derived.Lib.BufferWrite
import Derived.Handy
import Derived.Test.YthpplbigmolnjaaDoorFrame
import Derived.Test.YthpplbigmolnjaaDoorRow
set_option linter.unusedVariables false
set_option linter.unusedSimpArgs false
namespace Go.Proofs.YthpplbigmolnjaaDoor.DiskW
open Go.RowKit Go.Proofs.YthpplbigmolnjaaDoor.Tc

/-- Bytes as cells. -/
def bcs (l : List UInt8) : List Value := l.map fun b => .int .u8 (b.toNat : Int)
theorem bcs_length (l : List UInt8) : (bcs l).length = l.length := by simp [bcs]
theorem bcs_append (a b : List UInt8) : bcs (a ++ b) = bcs a ++ bcs b := by simp [bcs]
theorem bcs_string (s : ByteArray) : byteCells s = bcs s.data.toList := rfl
/-- A row of bytes that nobody writes: nothing, or the first ones of a block. -/
def Held (w : World) (v : Value) (l : List UInt8) : Prop :=
  (v = .slice none 0 0 ∧ l = []) ∨ ∃ g cap cur, v = .slice (some ⟨g, 0, none⟩) l.length cap ∧ l.length ≤ cap ∧ w.heap[g]? = some (.cells cur 5 (0, 0)) ∧ ∀ (j : Nat) (u : Value), (bcs l)[j]? = some u → cur[j]? = some u
variable {w w' : World} {v : Value} {l : List UInt8} {s : Nat} {room sure : Int}
theorem Held.form (h : Held w v l) : ∃ A c, v = .slice A l.length c ∧ l.length ≤ c := by
  rcases h with ⟨rfl, rfl⟩ | ⟨g, cap, cur, rfl, hc, _⟩
  · exact ⟨none, 0, rfl, by simp⟩
  · exact ⟨_, cap, rfl, hc⟩
theorem Held.lt (h : Held w v l) {g : Nat} (hg : v.ownBlock = some g) : g < w.heap.size := by
  rcases h with ⟨rfl, _⟩ | ⟨g', cap, cur, rfl, _, hh, _⟩
  · simp [Value.ownBlock] at hg
  · have : g' = g := by simpa [Value.ownBlock] using hg
    subst this; exact lt_of_block hh
theorem Held.type_ne (h : Held w v l) {b : Nat} {c : Array Value} {t : TypeId} {f : Nat × Nat} (hb : w.heap[b]? = some (.cells c t f)) (ht : (5 : TypeId) ≠ t) : ∀ g, v.ownBlock = some g → g ≠ b := by
  intro g hg
  rcases h with ⟨rfl, _⟩ | ⟨g', cap, cur, rfl, _, hh, _⟩
  · simp [Value.ownBlock] at hg
  · have : g' = g := by simpa [Value.ownBlock] using hg
    subst this
    exact Tc.type_ne hh hb ht
theorem Held.kept {S : List Nat} (h : Held w v l) (ht : Tch S w w') (hs : ∀ g, v.ownBlock = some g → g ∉ S) : Held w' v l := by
  rcases h with h | ⟨g, cap, cur, rfl, hc, hh, hj⟩
  · exact .inl h
  · exact .inr ⟨g, cap, cur, rfl, hc, (ht.block g (lt_of_block hh) (hs g rfl)).trans hh, hj⟩

/-- A disk.Disk: its struct's block, its bytes. -/
structure At (w : World) (s : Nat) (v : Value) (room sure : Int) (l : List UInt8) : Prop where
  st : w.heap[s]? = some (.cells #[v, .int .i64 sure, .int .i64 room] 82 (0, 0))
  row : Held w v l
theorem At.kept {S : List Nat} (h : At w s v room sure l) (ht : Tch S w w') (hs : s ∉ S) (hv : ∀ g, v.ownBlock = some g → g ∉ S) : At w' s v room sure l :=
  ⟨(ht.block s (lt_of_block h.st) hs).trans h.st, h.row.kept ht hv⟩
theorem At.drewN (h : At w s v room sure l) (n : Nat) : At (w.drewN n) s v room sure l := h.kept ((Tch.refl [] w).drewN n) (by simp) (by simp)
theorem At.drew (h : At w s v room sure l) : At w.drew s v room sure l := h.kept ((Tch.refl [] w).drew) (by simp) (by simp)
theorem At.grown (h : At w s v room sure l) (hb : Below w.heap.size w w') : At w' s v room sure l := h.kept (Tch.of_below (S := []) hb) (by simp) (by simp)
/-- A store of the struct's cells. -/
theorem At.sync (h : At w s v room sure l) (k : Int) : At (w.setCell ⟨s, 1, none⟩ (.int .i64 k)) s v room k l :=
  ⟨by have := set_of h.st 1 (.int .i64 k); simpa using this, h.row.kept (S := [s]) ((Tch.refl _ _).setCell (.inl (by simp)) _) (fun g hg hm => h.row.type_ne h.st (by decide) g hg (by simpa using hm))⟩
theorem At.put {w1 : World} {v' : Value} {l' : List UInt8} (h : At w s v room sure l) (ht : Tch [] w w1) (hv : Held w1 v' l') (hne : ∀ g, v'.ownBlock = some g → g ≠ s) : At (w1.setCell ⟨s, 0, none⟩ v') s v' room sure l' := by
  have hst := (ht.block s (lt_of_block h.st) (by simp)).trans h.st
  exact ⟨by have := set_of hst 0 v'; simpa using this, hv.kept (S := [s]) ((Tch.refl _ _).setCell (.inl (by simp)) _) (fun g hg hm => hne g hg (by simpa using hm))⟩

theorem new_any (w : World) (n : Int) : Calls Tryd.prog 25 #[.int .i64 n] w fun e w' => e = .returned (.pointer (some ⟨w.heap.size, 0, none⟩)) ∧ At w' w.heap.size (.slice none 0 0) (max n 0) 0 [] ∧ Below w.heap.size w w' := by
  have hb := fun k : Int => (Below.refl w.heap.size w).alloc (Nat.le_refl _) (.cells #[.slice none 0 0, .int .i64 0, .int .i64 k] 82)
  have ha := fun k : Int => At.mk (w := w.alloc (.cells #[.slice none 0 0, .int .i64 0, .int .i64 k] 82)) (s := w.heap.size) (v := .slice none 0 0) (room := k) (sure := 0) (l := []) (heap_alloc_new w _) (Or.inl ⟨rfl, rfl⟩)
  have HB := Lib.hid hb
  have HA := Lib.hid ha
  clear hb ha
  by_cases h0 : 0 < n
  · rw [show max n 0 = n by omega]
    go_enter Tryd.func25, Tryd.ntmps25
    go_wp2
    go_ret
    exact ⟨rfl, HA.out _, HB.out _⟩
  · by_cases h1 : n = 0
    · subst h1
      go_enter Tryd.func25, Tryd.ntmps25
      go_wp2
      go_ret
      exact ⟨rfl, HA.out _, HB.out _⟩
    · have h2 : n < 0 := by omega
      rw [show max n 0 = 0 by omega]
      clear h0 h1
      go_enter Tryd.func25, Tryd.ntmps25
      go_wp2
      go_ret
      exact ⟨rfl, HA.out _, HB.out _⟩
theorem sure_any (w : World) (s : Nat) (v : Value) (room sure : Int) (l : List UInt8) (h : At w s v room sure l) : Calls Tryd.prog 58 #[.pointer (some ⟨s, 0, none⟩)] w fun e w' => e = .returned (.int .i64 sure) ∧ w = w' := by
  have c1 := cell_of h.st (o := 1) rfl
  clear h
  go_enter Tryd.func58, Tryd.ntmps58
  go_wp2
  go_ret
  exact ⟨rfl, rfl⟩
theorem room_any (w : World) (s : Nat) (v : Value) (room sure : Int) (l : List UInt8) (h : At w s v room sure l) (hl : l.length < 1000000) (hr : 0 ≤ room) (hr2 : room ≤ 9223372036854775807) :
    Calls Tryd.prog 76 #[.pointer (some ⟨s, 0, none⟩)] w fun e w' => e = .returned (.int .i64 (room - l.length)) ∧ ∃ n, w' = w.drewN n := by
  have c0 : w.cell? ⟨s, 0, none⟩ = some v := cell_of h.st rfl
  have c2 : w.cell? ⟨s, 2, none⟩ = some (.int .i64 room) := cell_of h.st rfl
  obtain ⟨A, c, rfl, hc⟩ := h.row.form
  have f1 : IntKind.i64.wrap (room - (l.length : Int)) = room - l.length := IntWalk.i64_in _ (by omega)
  clear h
  go_enter Tryd.func76, Tryd.ntmps76
  go_wp2
  go_quiet (fail)
  go_wp2
  go_ret
  exact ⟨rfl, _, rfl⟩
theorem bytes_any (w : World) (s : Nat) (v : Value) (room sure : Int) (l : List UInt8) (h : At w s v room sure l) :
    Calls Tryd.prog 52 #[.pointer (some ⟨s, 0, none⟩)] w fun e w' => e = .returned (.string ⟨l.toArray⟩) ∧ w = w' := by
  have c0 : w.cell? ⟨s, 0, none⟩ = some v := cell_of h.st rfl
  have hr : (convert 45 9 v).run Tryd.prog w = .ok (.string ⟨l.toArray⟩) w := by
    rcases h.row with ⟨rfl, rfl⟩ | ⟨g, cap, cur, rfl, hc, hh, hj⟩
    · exact Go.run_convert_bytes_nil w 45 5 Tryd.underlying45 Tryd.underlying5 0 0 9 Tryd.underlying9
    · rw [Go.run_convert_bytes_arg (P := Tryd.prog) w 45 5 Tryd.underlying45 Tryd.underlying5 g 0 l.length cap (l.map fun b => (b.toNat : Int)) (by simp) (fun i hi => by
        refine cell_of hh ?_
        rw [Nat.zero_add]
        refine hj i _ ?_
        simp [bcs, List.getElem?_eq_getElem hi, List.getD]) 9 Tryd.underlying9]
      congr 2
      have e : (strOfNums (l.map fun b => (b.toNat : Int))).data.toList = l := by
        rw [strOfNums_data, List.map_map]
        conv => rhs; rw [← List.map_id l]
        apply List.map_congr_left
        intro b _
        simp
      apply ByteArray.ext
      apply Array.ext'
      exact e
  obtain ⟨A, c, rfl, hc⟩ := h.row.form
  clear h
  go_enter Tryd.func52, Tryd.ntmps52
  go_wp2
  go_ret
  exact ⟨rfl, rfl⟩
theorem sync_any (w : World) (s : Nat) (v : Value) (room sure : Int) (l : List UInt8) (h : At w s v room sure l) :
    Calls Tryd.prog 55 #[.pointer (some ⟨s, 0, none⟩)] w fun e w' => e = .returned (.tuple #[]) ∧ At w' s v room l.length l ∧ Tch [s] w w' := by
  have c0 : w.cell? ⟨s, 0, none⟩ = some v := cell_of h.st rfl
  have c1 : w.cell? ⟨s, 1, none⟩ = some (.int .i64 sure) := cell_of h.st rfl
  have f1 := free_of h.st 1
  have HA := Lib.hid (h.sync l.length)
  obtain ⟨A, c, rfl, hc⟩ := h.row.form
  have HT := Lib.hid (show Tch [s] w (w.setCell ⟨s, 1, none⟩ (.int .i64 l.length)) from (Tch.refl _ _).setCell (.inl (by simp)) _)
  clear h
  go_enter Tryd.func55, Tryd.ntmps55
  go_wp2
  go_returns
  exact ⟨rfl, HA.out, HT.out⟩

theorem info5 : (Tryd.prog.info? 5).map (fun i => (i.zero, i.size, i.bytes)) = some (some (.int .u8 0), 1, 1) := by kernel_rfl
theorem swap_no (w : World) (s : Nat) (v : Value) (room sure : Int) (l : List UInt8) (h : At w s v room sure l) (t : ByteArray) (hn : ¬ (t.size : Int) ≤ room) :
    Calls Tryd.prog 53 #[.pointer (some ⟨s, 0, none⟩), .string t] w fun e w' => e = .returned (.bool false) ∧ w = w' := by
  have c2 : w.cell? ⟨s, 2, none⟩ = some (.int .i64 room) := cell_of h.st rfl
  have h1 : room < (t.size : Int) := by omega
  clear h hn
  go_enter Tryd.func53, Tryd.ntmps53
  go_wp2
  go_ret
  exact ⟨rfl, rfl⟩
theorem setRow_tch (w : World) (g : Nat) (c : Array Value) : Tch [g] w (w.setRow g c) :=
  Tch.grownBy (a := w) (c := w.setRow g c) (b := g) ⟨rfl, rfl, rfl, by simp, fun k _ hk => setRow_other w g k _ (fun e => hk (by simp [e]))⟩
set_option maxRecDepth 100000 in
set_option maxHeartbeats 1000000 in
theorem swap_yes (w : World) (s : Nat) (v : Value) (room sure : Int) (l : List UInt8) (h : At w s v room sure l) (t : ByteArray) (ht : t.size < 1000000) (hn : (t.size : Int) ≤ room) :
    Calls Tryd.prog 53 #[.pointer (some ⟨s, 0, none⟩), .string t] w fun e w' => e = .returned (.bool true) ∧ ∃ v', At w' s v' room t.size t.data.toList ∧ Tch [s] w w' := by
  have c0 : w.cell? ⟨s, 0, none⟩ = some v := cell_of h.st rfl
  have c2 : w.cell? ⟨s, 2, none⟩ = some (.int .i64 room) := cell_of h.st rfl
  obtain ⟨i0, hi, hz0, hz1, hz2⟩ := Tc.info_parts info5
  have hmk := Go.run_makeSlice (P := Tryd.prog) w 45 5 i0 _ Tryd.underlying45 hi hz0 .i64 .i64 (t.size : Int) (t.size : Int) (by omega) (by omega) (by rw [hz1]; simp; omega) (by rw [hz2]; omega) (by omega)
  rw [hz1] at hmk
  simp only [Int.toNat_natCast, Nat.mul_one] at hmk
  have hgs : w.heap.size ≠ s := by have := lt_of_block h.st; omega
  generalize hcs : madeCells (Value.int IntKind.u8 0).cells t.size = cs at hmk
  have hcz : cs.size = t.size := by rw [← hcs]; exact size_madeCells _ _
  have hT1 : Tch [] w (w.alloc (.cells cs 5)) := (Tch.refl _ _).alloc _
  have hst1 := (hT1.block s (lt_of_block h.st) (by simp)).trans h.st
  have d0 : (w.alloc (.cells cs 5)).cell? ⟨s, 0, none⟩ = some v := cell_of hst1 rfl
  have f0 := free_of hst1 0
  have hst2 := set_of hst1 0 (.slice (some ⟨w.heap.size, 0, none⟩) t.size t.size)
  have d2 : ((w.alloc (.cells cs 5)).setCell ⟨s, 0, none⟩ (.slice (some ⟨w.heap.size, 0, none⟩) t.size t.size)).cell? ⟨s, 0, none⟩ = some (.slice (some ⟨w.heap.size, 0, none⟩) t.size t.size) := cell_of hst2 rfl
  have hg2 : ((w.alloc (.cells cs 5)).setCell ⟨s, 0, none⟩ (.slice (some ⟨w.heap.size, 0, none⟩) t.size t.size)).heap[w.heap.size]? = some (.cells cs 5 (0, 0)) := (set_other hgs _).trans (heap_alloc_new w _)
  have hT2 : Tch [s] w ((w.alloc (.cells cs 5)).setCell ⟨s, 0, none⟩ (.slice (some ⟨w.heap.size, 0, none⟩) t.size t.size)) := (hT1.mono (by simp)).setCell (.inl (by simp)) _
  generalize hw2 : ((w.alloc (.cells cs 5)).setCell ⟨s, 0, none⟩ (.slice (some ⟨w.heap.size, 0, none⟩) t.size t.size)) = w2 at hst2 d2 hg2 hT2
  have hcp := Lib.run_copy_row_string (P := Tryd.prog) w2 45 9 3 5 w.heap.size 0 t.size t.size t cs 5 Tryd.underlying45 (by rw [hi]; simp [hz1]) hg2 (Nat.le_refl _) (by omega)
  have hat : At (w2.setRow w.heap.size (cs.toList.take 0 ++ Lib.byteCells t.data.toList ++ cs.toList.drop (0 + t.size)).toArray) s (.slice (some ⟨w.heap.size, 0, none⟩) t.size t.size) room sure t.data.toList := by
    refine ⟨(setRow_other w2 _ _ _ (Ne.symm hgs)).trans (by simpa using hst2), Or.inr ⟨w.heap.size, t.size, _, by simp, by simp, setRow_heap w2 _ _ _ _ _ hg2, ?_⟩⟩
    intro j u hu
    have hj : j < (bcs t.data.toList).length := (List.getElem?_eq_some_iff.1 hu).1
    rw [bcs_length] at hj
    simp only [List.take_zero, List.nil_append]
    rw [List.getElem?_toArray, List.getElem?_append_left (by rw [Lib.byteCells_length]; exact hj)]
    exact hu
  have hT3 : Tch [s] w (w2.setRow w.heap.size (cs.toList.take 0 ++ Lib.byteCells t.data.toList ++ cs.toList.drop (0 + t.size)).toArray) :=
    hT2.then (setRow_tch _ _ _) (fun i hi => .inr (by simp at hi; omega))
  generalize (w2.setRow w.heap.size (cs.toList.take 0 ++ Lib.byteCells t.data.toList ++ cs.toList.drop (0 + t.size)).toArray) = w3 at hcp hat hT3
  have HSY := Lib.hid (sync_any w3 s _ room sure _ hat)
  have HT3 := Lib.hid hT3
  have HCP := Lib.hid hcp
  have HMK := Lib.hid hmk
  have HW2 := Lib.hid hw2
  have hn' : ¬ room < (t.size : Int) := by omega
  have hsz : (t.data.toList.length : Int) = (t.size : Int) := by simp
  have HSZ := Lib.hid hsz
  clear hst1 hst2 hg2 hT1 hT2 hat hT3 hcp hmk hw2 h hcs hsz hi hz0 hz1 hz2
  go_enter Tryd.func53, Tryd.ntmps53
  have hmk := HMK.out
  go_wp2_with fail
  rw [HW2.out, HCP.out]
  go_wp2_with fail
  refine HSY.out.mono ?_
  rintro e w4 ⟨rfl, hA, hT⟩
  rw [HSZ.out] at hA
  have HA := Lib.hid hA
  have HT := Lib.hid hT
  clear hA hT
  go_wp2_with fail
  go_ret
  exact ⟨rfl, _, HA.out, HT3.out.trans HT.out⟩

/-- How many bytes a crash leaves. -/
def left (l : List UInt8) (sure keep : Int) : Int := sure + max 0 (min keep (l.length - sure))
theorem Held.cut (h : Held w v l) {A : Option Addr} {c k : Nat} (hv : v = .slice A l.length c) (hk : k ≤ l.length) : Held w (.slice A k c) (l.take k) := by
  rcases h with ⟨rfl, rfl⟩ | ⟨g, cap, cur, rfl, hc, hh, hj⟩
  · injection hv with h1 h2 h3
    subst h1
    subst h3
    have : k = 0 := by simpa using hk
    subst this
    exact Or.inl ⟨rfl, rfl⟩
  · injection hv with h1 h2 h3
    subst h1
    subst h3
    have e : (l.take k).length = k := by simp; omega
    refine Or.inr ⟨g, cap, cur, by rw [e], by omega, hh, fun j u hu => hj j u ?_⟩
    have e2 : bcs l = bcs (l.take k) ++ bcs (l.drop k) := by rw [← bcs_append, List.take_append_drop]
    rw [e2, List.getElem?_append_left (List.getElem?_eq_some_iff.1 hu).1]
    exact hu
set_option maxRecDepth 100000 in
set_option maxHeartbeats 2000000 in
theorem crash_any (w : World) (s : Nat) (v : Value) (room sure : Int) (l : List UInt8) (h : At w s v room sure l) (hl : l.length < 1000000) (h0 : 0 ≤ sure) (h1 : sure ≤ l.length) (keep : Int) (hkp : (Lit.int .i64 keep).wf = true) :
    Calls Tryd.prog 29 #[.pointer (some ⟨s, 0, none⟩), .int .i64 keep] w fun e w' => e = .returned (.tuple #[]) ∧ ∃ v', At w' s v' room (left l sure keep) (l.take (left l sure keep).toNat) ∧ Tch [s] w w' := by
  have c0 : w.cell? ⟨s, 0, none⟩ = some v := cell_of h.st rfl
  have c1 : w.cell? ⟨s, 1, none⟩ = some (.int .i64 sure) := cell_of h.st rfl
  have f0 := free_of h.st 0
  obtain ⟨A, c, rfl, hc⟩ := h.row.form
  have hb1 : 0 ≤ left l sure keep ∧ left l sure keep ≤ l.length := by unfold left; omega
  obtain ⟨k, hk⟩ : ∃ k : Nat, left l sure keep = k := ⟨(left l sure keep).toNat, by omega⟩
  have hkl : k ≤ l.length := by omega
  have hcut := h.row.cut rfl hkl
  have hat : At (w.setCell ⟨s, 0, none⟩ (.slice A k c)) s (.slice A k c) room sure (l.take k) :=
    h.put (Tch.refl [] w) hcut (fun g hg => h.row.type_ne h.st (by decide) g (by cases A with
      | none => simp [Value.ownBlock] at hg
      | some a => exact hg))
  have hT : Tch [s] w (w.setCell ⟨s, 0, none⟩ (.slice A k c)) := (Tch.refl _ _).setCell (.inl (by simp)) _
  have e : ((l.take k).length : Int) = k := by simp; omega
  rw [hk]
  obtain ⟨mm, fm⟩ : ∃ mm : Int, (if (l.length : Int) - sure < keep then (l.length : Int) - sure else keep) = mm := ⟨_, rfl⟩
  obtain ⟨xx, fx⟩ : ∃ xx : Int, (if 0 < mm then mm else 0) = xx := ⟨_, rfl⟩
  have hkx : sure + xx = k := by
    rw [← hk]
    unfold left
    rw [← fx, ← fm]
    split <;> split <;> omega
  have fs : IntKind.i64.wrap (sure + xx) = (k : Int) := by rw [hkx]; exact IntWalk.i64_in _ (by omega)
  have fk1 : (0 : Int) ≤ k := by omega
  have fk2 : (k : Int) ≤ c := by omega
  have HSY := Lib.hid (sync_any _ s _ room sure _ hat.drew)
  have HT := Lib.hid hT
  have HE := Lib.hid e
  have fw : IntKind.i64.wrap ((l.length : Int) - sure) = l.length - sure := IntWalk.i64_in _ (by omega)
  clear hcut hat hT e h hb1 hk hkx
  go_enter Tryd.func29, Tryd.ntmps29
  go_wp2
  go_still_tail 26, (by kernel_rfl)
  change wpList _ _ _ _ _ w.drew
  clear fm fx fs fw
  go_wp2_with fail
  refine HSY.out.mono ?_
  rintro e w2 ⟨rfl, hA, hT⟩
  rw [HE.out] at hA
  have HA := Lib.hid hA
  have HT2 := Lib.hid hT
  clear hA hT
  go_wp2_with fail
  go_returns
  exact ⟨rfl, _, HA.out, HT.out.drew.trans HT2.out⟩

theorem append_no (w : World) (s : Nat) (v : Value) (room sure : Int) (l : List UInt8) (h : At w s v room sure l) (hl : l.length < 1000000) (hr : 0 ≤ room) (hr2 : room ≤ 9223372036854775807) (t : ByteArray) (hn : ¬ (t.size : Int) ≤ room - l.length) :
    Calls Tryd.prog 56 #[.pointer (some ⟨s, 0, none⟩), .string t] w fun e w' => e = .returned (.bool false) ∧ ∃ n, w' = w.drewN n := by
  have HR := Lib.hid (room_any w s v room sure l h hl hr hr2)
  have h1 : room - (l.length : Int) < (t.size : Int) := by omega
  clear h hn
  go_enter Tryd.func56, Tryd.ntmps56
  go_wp2_with fail
  refine HR.out.mono ?_
  rintro e w2 ⟨rfl, n, rfl⟩
  go_wp2_with fail
  go_ret
  exact ⟨rfl, _, rfl⟩
set_option maxRecDepth 100000 in
/-- What a growing append leaves. -/
theorem append_run (w : World) (v : Value) (l : List UInt8) (h : Held w v l) {A : Option Addr} {c : Nat} (hv : v = .slice A l.length c) (t : ByteArray) (hl : l.length < 1000000) (ht : t.size < 1000000) :
    ∃ v' w', (Builtin.append_ #[45, 9] 45 #[.slice A l.length l.length, .string t]).run Tryd.prog w = .ok v' w' ∧ Held w' v' (l ++ t.data.toList) ∧ Tch [] w w' ∧ ∀ g, v'.ownBlock = some g → v.ownBlock = some g ∨ w.heap.size ≤ g := by
  obtain ⟨i0, hi, hz0, hz1, hz2⟩ := Tc.info_parts info5
  have hsrc := Src.ofString (P := Tryd.prog) w Tryd.underlying9 t
  by_cases h0 : t.size = 0
  · have hd : t.data.toList = [] := List.eq_nil_of_length_eq_zero (by simpa using h0)
    have hb : byteCells t = [] := by rw [bcs_string, hd]; rfl
    rw [h0, hb] at hsrc
    rw [← hz1] at hsrc
    refine ⟨.slice A l.length l.length, w, run_append_nothing w 45 9 45 5 i0 Tryd.underlying45 hi A l.length l.length (Nat.le_refl _) _ hsrc, ?_, Tch.refl _ _, ?_⟩
    · rw [hd, List.append_nil]
      rcases h with ⟨rfl, rfl⟩ | ⟨g, cap, cur, rfl, hc, hh, hj⟩
      · injection hv with h1 h2 h3
        subst h1
        exact Or.inl ⟨rfl, rfl⟩
      · injection hv with h1 h2 h3
        subst h1
        exact Or.inr ⟨g, l.length, cur, rfl, Nat.le_refl _, hh, hj⟩
    · intro g hg
      left
      rw [hv]
      cases A <;> exact hg
  · have hold : (Builtin.firstCells i0.size l.length (.slice A l.length l.length)).run Tryd.prog w.drew = .ok (bcs l).toArray w.drew := by
      rcases h with ⟨rfl, rfl⟩ | ⟨g, cap, cur, rfl, hc, hh, hj⟩
      · injection hv with h1 h2 h3
        subst h1
        exact run_firstCells_none w.drew i0.size 0 0 0
      · injection hv with h1 h2 h3
        subst h1
        refine run_firstCells_some w.drew i0.size l.length _ l.length l.length (bcs l) (by rw [bcs_length, hz1, Nat.mul_one]) (fun j u hu => ?_)
        have hadd : (⟨g, 0, none⟩ : Addr).add j = ⟨g, j, none⟩ := by unfold Addr.add; split <;> simp_all
        rw [hadd]
        exact cell_of (w := w.drew) hh (hj j u hu)
    rw [← hz1] at hsrc
    have hrun := run_append_grow_src (P := Tryd.prog) w 45 9 45 5 i0 _ Tryd.underlying45 hi hz0 A l.length l.length (bcs l) hold _ _ _ hsrc (by omega) (by omega) (growslice_fits (by omega) (by rw [hz2]; omega))
    refine ⟨_, _, hrun, ?_, ((Tch.refl [] w).drew).alloc _, ?_⟩
    · refine Or.inr ⟨w.heap.size, grownCap w (l.length + t.size) l.length 5, _, by simp, ?_, heap_alloc_new w.drew _, ?_⟩
      · have := grownCap_ge w (l.length + t.size) l.length 5
        simpa using this
      · intro j u hu
        rw [bcs_append, ← bcs_string] at hu
        have hlt := (List.getElem?_eq_some_iff.1 hu).1
        rw [Array.getElem?_append_left (by simpa using hlt), List.getElem?_toArray]
        exact hu
    · intro g hg
      right
      have : w.heap.size = g := by simpa [Value.ownBlock] using hg
      omega

/-- What an append comes to, as one step of a region that draws. -/
theorem step_append_eq {P : Program} {w w1 : World} {ops : Array Oper} {o : Oper} {a : Act} {K : Act → World → Prop} {Q : Exit → Act → World → Prop} {E : Prop} (hg : o.guard = none) (s x : Operand) (t tx : TypeId)
    (ho : o.op = .call { callee := .builtin .append, args := #[s, x], argTypes := #[t, tx] }) {v sl v' : Value} (hs : a.eval s = v) (hx : a.eval x = sl)
    (hr : (Builtin.append_ #[t, tx] o.type #[v, sl]).run P w = .ok v' w1) (hK : K (a.put o.dst v') w1) : if Region.wanted o (yielded ops a.tmps) = true then Oper.wp P o a w K Q else E := by
  have hw : Region.wanted o (yielded ops a.tmps) = true := by simp [Region.wanted, hg]
  rw [if_pos hw]
  unfold Oper.wp execOp
  simp only [ho, resolve, invoke, builtin, Sem.run_bind, Sem.run_pure, Result.andThen_ok, List.map_toArray, List.map_cons, List.map_nil, hs, hx, hr]
  exact hK

set_option maxRecDepth 100000 in
set_option maxHeartbeats 4000000 in
theorem append_yes (w : World) (s : Nat) (v : Value) (room sure : Int) (l : List UInt8) (h : At w s v room sure l) (hl : l.length < 1000000) (hr : 0 ≤ room) (hr2 : room ≤ 9223372036854775807) (t : ByteArray) (ht : t.size < 1000000) (hn : (t.size : Int) ≤ room - l.length) :
    Calls Tryd.prog 56 #[.pointer (some ⟨s, 0, none⟩), .string t] w fun e w' => e = .returned (.bool true) ∧ ∃ v', At w' s v' room sure (l ++ t.data.toList) ∧ Tch [s] w w' := by
  have HR := Lib.hid (room_any w s v room sure l h hl hr hr2)
  have h1 : ¬ room - (l.length : Int) < (t.size : Int) := by omega
  have hA := fun n => h.drewN n
  obtain ⟨A, c, rfl, hc⟩ := h.row.form
  have HH := Lib.hid h
  have HA := Lib.hid hA
  clear hA h hn
  go_enter Tryd.func56, Tryd.ntmps56
  go_wp2_with fail
  refine HR.out.mono ?_
  rintro e w2 ⟨rfl, n, rfl⟩
  have hA := HA.out n
  have hT0 : Tch [s] w (w.drewN n) := (Tch.refl _ _).drewN n
  generalize w.drewN n = w3 at hA hT0 ⊢
  have HT0 := Lib.hid hT0
  clear hT0
  have c0 : w3.cell? ⟨s, 0, none⟩ = some (.slice A l.length c) := cell_of hA.st rfl
  have HA3 := Lib.hid hA
  clear hA HR HA
  obtain ⟨v', w4, hrun, hheld, htch, hloc⟩ := append_run w3.drew _ l (HA3.out.row.kept ((Tch.refl [] w3).drew) (by simp)) rfl t hl ht
  have hst4 := (htch.block s (lt_of_block HA3.out.st) (by simp)).trans HA3.out.st
  have f4 := free_of hst4 0
  have hne : ∀ g, v'.ownBlock = some g → g ≠ s := by
    intro g hg
    rcases hloc g hg with h' | h'
    · exact HA3.out.row.type_ne HA3.out.st (by decide) g h'
    · have := lt_of_block HA3.out.st
      simp at h'
      omega
  have HPUT := Lib.hid (At.put HA3.out.drew htch hheld hne)
  obtain ⟨A', c', rfl, hc'⟩ := hheld.form
  have HRUN := Lib.hid hrun
  have k4 : w4.cell? ⟨s, 0, none⟩ = some (.slice A l.length c) := cell_of ((htch.block s (lt_of_block HA3.out.st) (by simp)).trans HA3.out.st) rfl
  have HHELD := Lib.hid hheld
  have HTCH := Lib.hid htch
  have HLOC := Lib.hid hloc
  clear hrun hheld htch hloc hst4 hne
  go_wp2_with fail
  go_region_law (refine step_append_eq rfl _ _ _ _ rfl rfl rfl HRUN.out ?_)
  all_goals
    go_wp2_with fail
    go_ret
    have hp := HPUT.out
    rw [show (l ++ t.data.toList).length = l.length + t.size by simp] at hp
    exact ⟨rfl, _, hp, (HT0.out.drew.trans (HTCH.out.mono (by simp))).setCell (.inl (by simp)) _⟩
end Go.Proofs.YthpplbigmolnjaaDoor.DiskW
