/- Records: a number's four bytes. -/
import Derived.Test.YthpplbigmolnjaaDoorWDisk
import Derived.Test.YthpplbigmolnjaaDoorWalPure
import Derived.Test.YthpplbigmolnjaaDoorCrcW
import Derived.Test.YthpplbigmolnjaaDoorFltL
import Derived.Test.YthpplbigmolnjaaDoorOwn
import Derived.Test.YthpplbigmolnjaaDoorStr
import Derived.Deep.Cut
import Derived.Deep.DeepCutAuto
set_option linter.unusedVariables false
set_option linter.unusedSimpArgs false
set_option maxRecDepth 100000
namespace Go.Proofs.YthpplbigmolnjaaDoor.WalW
open Go.RowKit Go.Proofs.YthpplbigmolnjaaDoor.Tc Go.Proofs.YthpplbigmolnjaaDoor.DiskW WalP

theorem infoB : (Tryd.prog.info? 5).map (fun i => (i.zero, i.size, i.bytes)) = some (some (.int .u8 0), 1, 1) := by kernel_rfl
/-- A field.Writer that the call made: its block, its bytes. -/
structure Wr (w : World) (s : Nat) (v : Value) (l : List UInt8) : Prop where
  st : w.heap[s]? = some (.cells #[v, .nilIface] 113 (0, 0))
  own : w.ownsRow 0 5 1 v l.length (bcs l)
  new : ∀ g, v.ownBlock = some g → s ≤ g
theorem Wr.push {w : World} {s : Nat} {v : Value} {l : List UInt8} (h : Wr w s v l) (M : List UInt8) (hl : l.length ≤ 1000) (hM : M.length ≤ 1000) :
    ∃ v' w1, (Builtin.append_ #[45, 45] 45 #[v, .slice (some ⟨w.heap.size, 0, none⟩) M.length M.length]).run Tryd.prog (w.alloc (.cells (bcs M).toArray 5)) = .ok v' w1 ∧
      w1.cell? ⟨s, 0, none⟩ = some v ∧ w1.frozen? ⟨s, 0, none⟩ = false ∧ Wr (w1.setCell ⟨s, 0, none⟩ v') s v' (l ++ M) ∧ Below s w (w1.setCell ⟨s, 0, none⟩ v') := by
  obtain ⟨i0, hi, hz0, hz1, hz2⟩ := info_parts infoB
  have hlt := lt_of_block h.st
  have hnew := heap_alloc_new w (.cells (bcs M).toArray 5)
  obtain ⟨v', w1, hr, ho, ht, hloc⟩ := append_list (P := Tryd.prog) (ty := 45) Tryd.underlying45 hi hz0 hz1 hz2 rfl (by decide) (h.own.alloc (.cells (bcs M).toArray 5)) (some ⟨w.heap.size, 0, none⟩) M.length M.length (bcs M) (by simp [bcs_length]) (fun hn => ⟨_, rfl, fun j u hu => by
    have hadd : (⟨w.heap.size, 0, none⟩ : Addr).add j = ⟨w.heap.size, j, none⟩ := by unfold Addr.add; split <;> simp_all
    rw [hadd]
    exact cell_of hnew (by simpa using hu)⟩) (by
    intro u hu
    obtain ⟨x, -, rfl⟩ := List.mem_map.1 hu
    rfl) (by unfold maxLen; omega) (by omega)
  have hne : ∀ g, v.ownBlock = some g → g ≠ s := own_type_ne h.own h.st (by decide)
  have hst : w1.heap[s]? = some (.cells #[v, .nilIface] 113 (0, 0)) := by
    have h1 : (w.alloc (.cells (bcs M).toArray 5)).heap[s]? = some (.cells #[v, .nilIface] 113 (0, 0)) := (((Tch.refl [] w).alloc _).block s hlt (by simp)).trans h.st
    exact (ht.block s (lt_of_block h1) (by simpa using fun e => hne s e rfl)).trans h1
  have hne' : ∀ g, v'.ownBlock = some g → g ≠ s ∧ s ≤ g := by
    intro g hg
    rcases hloc g hg with h1 | h1
    · exact ⟨hne g h1, h.new g h1⟩
    · simp at h1; omega
  have hT : Tch v.ownBlock.toList w w1 := ((Tch.refl _ w).alloc _).trans (ht.mono (by simp))
  refine ⟨v', w1, hr, cell_of hst rfl, free_of hst 0, ⟨?_, ?_, fun g hg => (hne' g hg).2⟩, ?_⟩
  · have := set_of hst 0 v'
    simpa using this
  · have ho' : w1.ownsRow 0 5 1 v' (l ++ M).length (bcs (l ++ M)) := by
      rw [bcs_append, List.length_append]
      exact ho
    exact own_kept ho' (S := [s]) ((Tch.refl _ _).setCell (.inl (by simp)) _) (fun g hg hm => (hne' g hg).1 (by simpa using hm))
  · have hb : Below s w w1 := hT.below (Nat.le_of_lt hlt) (fun i hi => h.new i (by simpa using hi))
    exact ((Tch.refl [s] w1).setCell (p := ⟨s, 0, none⟩) (.inl (by simp)) v').below (by have := hT.size; omega) (by simp) |> hb.trans
set_option maxRecDepth 100000 in
set_option maxHeartbeats 100000 in
theorem off_no (w : World) (s : Nat) (v : Value) (l : List UInt8) (h : Wr w s v l) : Calls Tryd.prog 86 #[.pointer (some ⟨s, 0, none⟩)] w fun e w' => e = .returned (.bool false) ∧ w = w' := by
  have c1 : w.cell? ⟨s, 1, none⟩ = some .nilIface := cell_of h.st rfl
  clear h
  go_enter Tryd.func86, Tryd.ntmps86
  go_wp2
  go_ret
  exact ⟨rfl, rfl⟩
theorem byte_int (m : Nat) : Value.int .u8 ((UInt8.ofNat m).toNat : Int) = .int .u8 ((m : Int) % 256) := by
  rw [UInt8.toNat_ofNat']
  congr 1
set_option maxRecDepth 100000 in
set_option maxHeartbeats 2000000 in
theorem put_any (w : World) (s : Nat) (n : Int) (n0 : 0 ≤ n) (n1 : n < 4294967296) (h : Wr w s (.slice none 0 0) []) :
    Calls Tryd.prog 83 #[.pointer (some ⟨s, 0, none⟩), .int .i64 n, .int .i64 4] w fun e w' => e = .returned (.tuple #[]) ∧ (∃ v, Wr w' s v (num4 n.toNat)) ∧ Below s w w' := by
  have c0 : w.cell? ⟨s, 0, none⟩ = some (.slice none 0 0) := cell_of h.st rfl
  have HO := Lib.hid (off_no w s _ _ h)
  have E1 := Lib.hid (show (bcs [UInt8.ofNat (n.toNat / 16777216), UInt8.ofNat (n.toNat / 65536)]).toArray = #[.int .u8 (n / 16777216), .int .u8 (n / 65536 % 256)] by
    simp only [bcs, List.map_cons, List.map_nil, byte_int]
    rw [show ((n.toNat / 16777216 : Nat) : Int) % 256 = n / 16777216 by omega, show ((n.toNat / 65536 : Nat) : Int) % 256 = n / 65536 % 256 by omega])
  have E2 := Lib.hid (show (bcs [UInt8.ofNat (n.toNat / 256)]).toArray = #[.int .u8 (n / 256 % 256)] by
    simp only [bcs, List.map_cons, List.map_nil, byte_int]
    rw [show ((n.toNat / 256 : Nat) : Int) % 256 = n / 256 % 256 by omega])
  have E3 := Lib.hid (show (bcs [UInt8.ofNat n.toNat]).toArray = #[.int .u8 (n % 256)] by
    simp only [bcs, List.map_cons, List.map_nil, byte_int]
    rw [show (n.toNat : Int) % 256 = n % 256 by omega])
  obtain ⟨v1, x1, hr1, hc1, hf1, hw1, hb1⟩ := h.push [UInt8.ofNat (n.toNat / 16777216), UInt8.ofNat (n.toNat / 65536)] (by simp) (by simp)
  rw [E1.out] at hr1
  have HR1 := Lib.hid hr1
  obtain ⟨w1, hx1⟩ : ∃ w1, w1 = x1.setCell ⟨s, 0, none⟩ v1 := ⟨_, rfl⟩
  rw [← hx1] at hw1 hb1
  have HX1 := Lib.hid hx1
  obtain ⟨v2, x2, hr2, hc2, hf2, hw2, hb2⟩ := hw1.push [UInt8.ofNat (n.toNat / 256)] (by simp) (by simp)
  rw [E2.out] at hr2
  have HR2 := Lib.hid hr2
  have k1 : w1.cell? ⟨s, 0, none⟩ = some v1 := cell_of hw1.st rfl
  obtain ⟨w2, hx2⟩ : ∃ w2, w2 = x2.setCell ⟨s, 0, none⟩ v2 := ⟨_, rfl⟩
  rw [← hx2] at hw2 hb2
  have HX2 := Lib.hid hx2
  obtain ⟨v3, x3, hr3, hc3, hf3, hw3, hb3⟩ := hw2.push [UInt8.ofNat n.toNat] (by simp) (by simp)
  rw [E3.out] at hr3
  have HR3 := Lib.hid hr3
  have k2 : w2.cell? ⟨s, 0, none⟩ = some v2 := cell_of hw2.st rfl
  have HE := Lib.hid (show (∃ v, Wr (x3.setCell ⟨s, 0, none⟩ v3) s v (num4 n.toNat)) ∧ Below s w (x3.setCell ⟨s, 0, none⟩ v3) from ⟨⟨v3, by simpa [num4] using hw3⟩, (hb1.trans hb2).trans hb3⟩)
  obtain ⟨A1, L1, hv1⟩ := own_form hw1.own
  obtain rfl : v1 = .slice A1 2 L1 := by simpa using hv1
  clear hv1
  obtain ⟨A2, L2, hv2⟩ := own_form hw2.own
  obtain rfl : v2 = .slice A2 3 L2 := by simpa using hv2
  clear hv2
  obtain ⟨A3, L3, hv3⟩ := own_form hw3.own
  obtain rfl : v3 = .slice A3 4 L3 := by simpa using hv3
  clear hv3
  clear h hr1 hr2 hr3 hx1 hx2 hw1 hw2 hw3 hb1 hb2 hb3 E1 E2 E3
  go_enter Tryd.func83, Tryd.ntmps83
  go_wp2_with fail
  refine HO.out.mono ?_
  rintro e w9 ⟨rfl, rfl⟩
  go_upto_region 6 with (fail)
  go_wp2_with (at_builtin; refine wpList_append_eq rfl _ _ _ rfl rfl rfl HR1.out ?_; refine Hid.out ?_)
  refine Lib.hid ?_
  go_upto_region 7 with (fail)
  rw [← HX1.out]
  go_wp2_with (at_builtin; refine wpList_append_eq rfl _ _ _ rfl rfl rfl HR2.out ?_; refine Hid.out ?_)
  refine Lib.hid ?_
  go_upto_region 8 with (fail)
  rw [← HX2.out]
  go_wp2_with (at_builtin; refine wpList_append_eq rfl _ _ _ rfl rfl rfl HR3.out ?_; refine Hid.out ?_)
  refine Lib.hid ?_
  go_wp2_with fail
  go_returns
  exact ⟨rfl, HE.out⟩
end Go.Proofs.YthpplbigmolnjaaDoor.WalW
