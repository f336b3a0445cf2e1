/- Records: all of a text. -/
import Derived.Test.YthpplbigmolnjaaDoorWalD
set_option linter.unusedVariables false
set_option linter.unusedSimpArgs false
set_option maxRecDepth 100000
namespace Go.Proofs.YthpplbigmolnjaaDoor.WalW
open Go.RowKit Go.Proofs.YthpplbigmolnjaaDoor.Tc Go.Proofs.YthpplbigmolnjaaDoor.DiskW WalP Go.Proofs.YthpplbigmolnjaaDoor.FltW

theorem info9 : (Tryd.prog.info? 9).map (fun i => (i.zero, i.size, i.bytes)) = some (some (.string ByteArray.empty), 1, 16) := by kernel_rfl
/-- Texts in an array of the call's own, in blocks from B on. -/
structure OwnT (B : Nat) (w : World) (v : Value) (L : List (List UInt8)) : Prop where
  own : w.ownsRow 0 9 1 v L.length (L.map fun x => Value.string (tx x))
  new : ∀ g, v.ownBlock = some g → B ≤ g
theorem OwnT.nil (B : Nat) (w : World) : OwnT B w (.slice none 0 0) [] := ⟨own_nil w 9 1, by intro g hg; simp [Value.ownBlock] at hg⟩
theorem OwnT.below {B : Nat} {w w' : World} {v : Value} {L : List (List UInt8)} (h : OwnT B w v L) (hb : Below w.heap.size w w') : OwnT B w' v L := ⟨own_kept h.own (Tch.of_below (S := []) hb) (by simp), h.new⟩
theorem app_one {B : Nat} {w : World} {v : Value} {L : List (List UInt8)} (h : OwnT B w v L) (hB : B ≤ w.heap.size) (x : List UInt8) (hL : L.length ≤ 1000000) :
    ∃ v' w', (Builtin.append_ #[35, 35] 35 #[v, .slice (some ⟨w.heap.size, 0, none⟩) 1 1]).run Tryd.prog (w.alloc (.cells #[.string (tx x)] 9)) = .ok v' w' ∧ OwnT B w' v' (L ++ [x]) ∧ Below B w w' := by
  obtain ⟨i0, hi, hz0, hz1, hz2⟩ := info_parts info9
  obtain ⟨v', w', hr, ho, ht, hloc, -⟩ := append_one (P := Tryd.prog) (ty := 35) Tryd.underlying35 hi hz0 hz1 hz2 rfl (by decide) h.own [.string (tx x)] rfl (by
    intro u hu
    rw [List.mem_singleton.1 hu]
    rfl) (by unfold maxLen; omega) (by omega)
  refine ⟨v', w', hr, ⟨by simpa using ho, ?_⟩, ht.below hB (fun i hi => h.new i (by simpa using hi))⟩
  intro g hg
  rcases hloc g hg with h1 | h1
  · exact h.new g h1
  · omega
theorem tx_rest (l : List UInt8) (k : Nat) : (tx l).extract k (tx l).size = tx (l.drop k) := by
  apply ByteArray.ext
  apply Array.ext'
  rw [ByteArray.data_extract, Array.toList_extract, tx_size]
  simp only [tx, List.extract]
  exact List.take_of_length_le (by rw [List.length_drop]; exact Nat.le_refl _)
theorem slice_rest (t : ByteArray) (k : Nat) (h : k ≤ t.size) (w : World) : (Instr.slice 9 (.string t) (some (.int .i64 (k : Int))) none none).run Tryd.prog w = .ok (.string (t.extract k t.size)) w := by
  rw [run_slice_string_l (P := Tryd.prog) w 9 t Tryd.underlying9 .i64 (k : Int) (by omega) (by omega), Int.toNat_natCast]
/-- What Scan hands back. -/
def SPost (l : List UInt8) (w : World) (e : Ending) (w' : World) : Prop :=
  (∃ v, e = .returned (.tuple #[v, .int .i64 ((scan l).2 : Nat)]) ∧ OwnT w.heap.size w' v (scan l).1) ∧ Below w.heap.size w w'
/-- How far a scan has come. -/
def Far (l : List UInt8) (k : Nat) (done : List (List UInt8)) : Prop := k ≤ l.length ∧ scan l = (done ++ (scan (l.drop k)).1, k + (scan (l.drop k)).2)
theorem Far.zero (l : List UInt8) : Far l 0 [] := ⟨by omega, by simp⟩
theorem Far.next {l b : List UInt8} {k : Nat} {done : List (List UInt8)} (h : Far l k done) (hb : first (l.drop k) = some b) : Far l (k + (8 + b.length)) (done ++ [b]) := by
  have h1 := first_some hb
  rw [List.length_drop] at h1
  refine ⟨by omega, ?_⟩
  rw [h.2, scan_some hb, List.drop_drop, List.append_assoc]
  simp only [List.singleton_append, Nat.add_assoc]
theorem Far.last {l : List UInt8} {k : Nat} {done : List (List UInt8)} (h : Far l k done) (hb : first (l.drop k) = none) : scan l = (done, k) := by
  rw [h.2, scan_none hb]
  simp
theorem Far.few {l : List UInt8} {k : Nat} {done : List (List UInt8)} (h : Far l k done) : done.length ≤ l.length := by
  have h1 := (scan_le l.length l (Nat.le_refl _)).2.1
  rw [h.2] at h1
  rw [List.length_append] at h1
  omega
set_option maxHeartbeats 4000000 in
theorem scan_any (l : List UInt8) (w : World) (a : Nat → Addr) (hE : EnvF w a) (hl : l.length ≤ 1000000) : Calls Tryd.prog 19 #[.string (tx l)] w (SPost l w) := by
  generalize hP : SPost l w = PP
  have HPP := Lib.hid (show ∀ v k L w', scan l = (L, k) → OwnT w.heap.size w' v L → Below w.heap.size w w' → PP (.returned (.tuple #[v, .int .i64 (k : Nat)])) w' from fun v k L w' hs ho hb => by
    rw [← hP]
    unfold SPost
    rw [hs]
    exact ⟨⟨v, rfl, ho⟩, hb⟩)
  have HE := Lib.hid hE
  have HSL := Lib.hid (fun (k : Nat) (h : k ≤ l.length) (w' : World) => show (Instr.slice 9 (.string (tx l)) (some (.int .i64 (k : Int))) none none).run Tryd.prog w' = .ok (.string (tx (l.drop k))) w' by
    rw [slice_rest (tx l) k (by rw [tx_size]; exact h), tx_rest])
  generalize tx l = t at HSL ⊢
  clear hP hE
  go_enter Tryd.func19, Tryd.ntmps19
  go_wp2
  go_loopw [4, 5] (fun v x wr => ∃ (k : Nat) (done : List (List UInt8)), Far l k done ∧ OwnT w.heap.size wr v done ∧ Below w.heap.size w wr ∧ x = .int .i64 k) (fun _ x _ => l.length - (intOf x).toNat)
  case atStart => exact ⟨0, [], Far.zero l, OwnT.nil _ _, Below.refl _ _, rfl⟩
  case round =>
    obtain ⟨k, done, hf, ho, hb, rfl⟩ := hrel
    have hsl := HSL.out k hf.1
    have HF := Lib.hid hf
    have HO := Lib.hid ho
    have HB := Lib.hid hb
    have HFI := Lib.hid (first_any (l.drop k) wr a (HE.out.below hb) (by rw [List.length_drop]; omega))
    generalize htk : tx (l.drop k) = tk at hsl HFI
    clear hf ho hb htk
    go_wp2_with fail
    refine HFI.out.mono ?_
    rintro e w1 ⟨⟨s, ok, rfl, hcase⟩, hb1⟩
    have HB1 := Lib.hid (HB.out.trans (hb1.mono HB.out.size))
    have HO1 := Lib.hid (HO.out.below hb1)
    clear hb1
    rcases hcase with ⟨rfl, b, hb, rfl⟩ | ⟨rfl, hb⟩
    · have HN := Lib.hid (HF.out.next hb)
      have h1 := first_some hb
      rw [List.length_drop] at h1
      have hsz := tx_size b
      have HSZ := Lib.hid (show ((tx b).size : Int) = b.length by rw [hsz])
      obtain ⟨v', w2, hr, ho2, hb2⟩ := app_one HO1.out HB1.out.size b (by have := HF.out.few; omega)
      have HR := Lib.hid hr
      have HO2 := Lib.hid ho2
      have HB2 := Lib.hid (HB1.out.trans hb2)
      have hkl := HF.out.1
      have hs1 : (tx b).size ≤ 70000 := by omega
      generalize tx b = xb at HR HSZ hs1
      clear hb hr ho2 hb2 hsz
      go_wp2_with (at_builtin; refine wpList_append_eq rfl _ _ _ rfl rfl rfl HR.out ?_)
      go_roundw
      case rel => exact ⟨_, _, HN.out, HO2.out, HB2.out, by rw [HSZ.out]; go_num⟩
      case measure =>
        have := HSZ.out
        simp only [intOf]
        omega
    · have HX := Lib.hid (HF.out.last hb)
      clear hb
      go_wp2_with fail
      exact HPP.out _ _ _ _ HX.out HO1.out HB1.out
end Go.Proofs.YthpplbigmolnjaaDoor.WalW
