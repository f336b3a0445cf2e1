/- DiskPlays: the walk. -/
import Derived.Test.YtapiaiobohkemaaDiskRef
import Derived.Test.YtapiaiobohkemaaStr
import Derived.Deep.Cut
import Derived.Deep.DeepCutAuto
set_option linter.unusedVariables false
set_option linter.unusedSimpArgs false
namespace Go.Proofs.Ytapiaiobohkemaa.DiskW
open Go.RowKit Go.Proofs.Ytapiaiobohkemaa.Tc

def RPost (w : World) (r : Nat) (room : Int) (S T : ByteArray) (w' : World) : Prop := RD w' r room S T ∧ Tch [r] w w'
theorem rdo_any (w : World) (r : Nat) (room : Int) (S T : ByteArray) (h : RD w r room S T) (hr : (Lit.int .i64 room).wf = true) (hS : S.size < 1000000) (hT : T.size < 1000000) (kind : Int) (t : ByteArray) (ht : t.size < 1000000) (keep : Int) (hk : (Lit.int .i64 keep).wf = true) :
    Calls Try.prog 46 #[.pointer (some ⟨r, 0, none⟩), .agg #[.int .i64 kind, .string t, .int .i64 keep]] w fun e w' => e = .returned (.bool (ract (max room 0) S T kind t keep).1) ∧ RPost w r room (ract (max room 0) S T kind t keep).2.1 (ract (max room 0) S T kind t keep).2.2 w' := by
  by_cases k1 : kind = 1
  · subst k1; exact rdo_one w r room S T h hr hS hT t ht keep hk
  by_cases k2 : kind = 2
  · subst k2; exact rdo_two w r room S T h hr hS hT t ht keep hk
  by_cases k3 : kind = 3
  · subst k3; exact rdo_three w r room S T h hr hS hT t ht keep hk
  by_cases k4 : kind = 4
  · subst k4; exact rdo_four w r room S T h hr hS hT t ht keep hk
  exact rdo_other w r room S T h hr hS hT kind k1 k2 k3 k4 t ht keep hk
theorem str_bytes (s : ByteArray) : (⟨(bytes s).toArray⟩ : ByteArray) = s := by apply ByteArray.ext; simp [bytes]
/-- An act at no room leaves nothing. -/
theorem pact_zero (kind : Int) (t : ByteArray) (keep : Int) : (pact 0 0 [] kind t keep).2.1 = 0 ∧ (pact 0 0 [] kind t keep).2.2 = [] ∧ (ract 0 ByteArray.empty ByteArray.empty kind t keep).1 = (pact 0 0 [] kind t keep).1 ∧
    (ract 0 ByteArray.empty ByteArray.empty kind t keep).2 = (ByteArray.empty, ByteArray.empty) := by
  have I : Inv 0 0 [] := ⟨by omega, by omega, by omega, by simp, by simp⟩
  obtain ⟨-, -, h3, h4, h5⟩ := pact_inv I kind t keep
  have h6 : (pact 0 0 [] kind t keep).2.2 = [] := List.eq_nil_of_length_eq_zero (by omega)
  obtain ⟨r1, r2, r3⟩ := ract_pact 0 ByteArray.empty ByteArray.empty kind t keep
  have e0 : pact 0 ((ByteArray.empty.size : Nat) : Int) (bytes (ByteArray.empty ++ ByteArray.empty)) kind t keep = pact 0 0 [] kind t keep := rfl
  rw [e0] at r1 r2 r3
  refine ⟨by rw [h6] at h4; simp at h4; omega, h6, r1.symm, ?_⟩
  generalize ract 0 ByteArray.empty ByteArray.empty kind t keep = r at r1 r2 r3
  obtain ⟨b, S, T⟩ := r
  simp only at r3
  rw [h6] at r3
  have hs : (bytes (S ++ T)).length = 0 := by rw [← r3]; rfl
  rw [bytes_len] at hs
  simp at hs
  rw [hs.1, hs.2]
/-- The four disks, side by side. -/
structure Four (w wr : World) (d x z y : Nat) (room M : Int) (v vz : Value) (S T : ByteArray) : Prop where
  at_ : At wr d v M S.size (bytes (S ++ T))
  inv : Inv M S.size (bytes (S ++ T))
  rd : RD wr x room S T
  az : At wr z vz 0 0 []
  ry : RD wr y 0 ByteArray.empty ByteArray.empty
  bel : Below w.heap.size w wr
  nd : w.heap.size ≤ d
  nx : w.heap.size ≤ x
  nz : w.heap.size ≤ z
  ny : w.heap.size ≤ y
  dz : d ≠ z
  xy : x ≠ y
theorem st_ne {w : World} {a b : Nat} {c : Array Value} {t : TypeId} {f : Nat × Nat} {room : Int} {S T : ByteArray} (h : w.heap[a]? = some (.cells c t f)) (k : RD w b room S T) (ht : t ≠ 76) : a ≠ b := type_ne h k ht
theorem row_ne {w : World} {b : Nat} {v : Value} {l : List UInt8} {c : Array Value} {t : TypeId} {f : Nat × Nat} (h : Held w v l) (k : w.heap[b]? = some (.cells c t f)) (ht : (5 : TypeId) ≠ t) : ∀ g, v.ownBlock = some g → g ∉ [b] := by
  intro g hg hm
  exact h.type_ne k ht g hg (by simpa using hm)
theorem Four.step1 {w wr w' : World} {d x z y : Nat} {room M : Int} {v vz v' : Value} {S T : ByteArray} {sure : Int} {l : List UInt8} (h : Four w wr d x z y room M v vz S T) (ha : At w' d v' M sure l) (ht : Tch [d] wr w') :
    RD w' x room S T ∧ At w' z vz 0 0 [] ∧ RD w' y 0 ByteArray.empty ByteArray.empty ∧ Below w.heap.size w w' := by
  have h1 := st_ne h.at_.st h.rd (by decide)
  have h2 := st_ne h.at_.st h.ry (by decide)
  exact ⟨h.rd.kept ht (by simpa using h1.symm), h.az.kept ht (by simpa using h.dz.symm) (row_ne h.az.row h.at_.st (by decide)), h.ry.kept ht (by simpa using h2.symm), h.bel.trans (ht.below h.bel.size (by simpa using h.nd))⟩
theorem Four.moved {w wr w' : World} {d x z y : Nat} {room M : Int} {v vz : Value} {S T : ByteArray} (h : Four w wr d x z y room M v vz S T) (hb : Below wr.heap.size wr w') : Four w w' d x z y room M v vz S T :=
  ⟨h.at_.grown hb, h.inv, h.rd.kept (Tch.of_below (S := []) hb) (by simp), h.az.grown hb, h.ry.kept (Tch.of_below (S := []) hb) (by simp), h.bel.trans (hb.mono h.bel.size), h.nd, h.nx, h.nz, h.ny, h.dz, h.xy⟩
theorem dr_below {w w' : World} (h : ∃ n, w' = w.drewN n) : Below w.heap.size w w' := by obtain ⟨n, rfl⟩ := h; exact below_drewN (Below.refl _ _) n
theorem bytes_str (w : World) (s : Nat) (v : Value) (room sure : Int) (S : ByteArray) (h : At w s v room sure (bytes S)) :
    Calls Try.prog 47 #[.pointer (some ⟨s, 0, none⟩)] w fun e w' => e = .returned (.string S) ∧ w = w' := by
  have := bytes_any w s v room sure _ h
  rwa [str_bytes] at this
theorem room_len (w : World) (s : Nat) (v : Value) (M sure : Int) (S T : ByteArray) (h : At w s v M sure (bytes (S ++ T))) (I : Inv M S.size (bytes (S ++ T))) (hl : S.size < 400000) (hl2 : T.size < 400000) :
    Calls Try.prog 49 #[.pointer (some ⟨s, 0, none⟩)] w fun e w' => e = .returned (.int .i64 (M - S.size - T.size)) ∧ ∃ n, w' = w.drewN n := by
  have := room_any w s v M sure _ h (by rw [bytes_len]; simp; omega) I.r0 I.r1
  have e : M - ((bytes (S ++ T)).length : Int) = M - S.size - T.size := by rw [bytes_len]; simp; omega
  rwa [e] at this
set_option maxRecDepth 100000 in
set_option maxHeartbeats 2000000 in
theorem plays_law (w : World) (room : Int) (A : Option Addr) (len cap : Nat) (acts : List (Int × ByteArray × Int)) (hm : (Lit.int .i64 room).wf = true) (hl : acts.length = len ∧ SliceIs kAct w A acts) :
    Calls Try.prog 12 #[.int .i64 room, .slice A len cap] w fun e w' => e = .returned (.bool true) ∧ Below w.heap.size w w' := by
  obtain ⟨rfl, hS⟩ := hl
  have hlen := hS.len
  unfold maxLen at hlen
  have hb := bounds_i64 hm
  have HS := Lib.hid hS
  have HF := Lib.hid (few_any w A cap acts hS)
  have HR := Lib.hid hm
  have HR2 := Lib.hid hm
  clear hS hm
  go_enter Try.func12, Try.ntmps12
  go_wp2_with fail
  refine HF.out.mono ?_
  rintro e w' ⟨⟨fb, rfl, hfew⟩, rfl⟩
  have HFEW := Lib.hid hfew
  clear hfew HF
  cases fb with
  | false =>
    go_wp2_with fail
    refine (pawake_any _).mono ?_
    rintro e w' ⟨rfl, hb'⟩
    go_wp2_with fail
    go_ret
    exact ⟨rfl, hb'⟩
  | true =>
    obtain ⟨h40, h100⟩ := HFEW.out rfl
    have H100 := Lib.hid h100
    clear HFEW h100
    go_wp2_with fail
    refine (new_any _ room).mono ?_
    rintro e w1 ⟨rfl, hA, hB⟩
    have I0 : Inv (max room 0) 0 [] := ⟨by omega, by omega, by omega, by simp, by simp; omega⟩
    generalize hM : max room 0 = M at hA I0
    have HM := Lib.hid hM
    have hM0 : 0 ≤ M := by omega
    have hM1 : M ≤ 9223372036854775807 := by omega
    have HFOUR := Lib.hid (show Four w (((w1.alloc (.cells #[.int .i64 room, .string ByteArray.empty, .string ByteArray.empty] 76)).alloc (.cells #[.slice none 0 0, .int .i64 0, .int .i64 0] 78)).alloc (.cells #[.int .i64 0, .string ByteArray.empty, .string ByteArray.empty] 76))
        w.heap.size w1.heap.size (w1.heap.size + 1) (w1.heap.size + 1 + 1) room M (.slice none 0 0) (.slice none 0 0) ByteArray.empty ByteArray.empty by
      have b1 : Below w1.heap.size w1 (w1.alloc (.cells #[.int .i64 room, .string ByteArray.empty, .string ByteArray.empty] 76)) := (Below.refl _ _).alloc (Nat.le_refl _) _
      have b2 : Below (w1.heap.size + 1) (w1.alloc (.cells #[.int .i64 room, .string ByteArray.empty, .string ByteArray.empty] 76)) ((w1.alloc (.cells #[.int .i64 room, .string ByteArray.empty, .string ByteArray.empty] 76)).alloc (.cells #[.slice none 0 0, .int .i64 0, .int .i64 0] 78)) := (Below.refl _ _).alloc (by simp) _
      have b3 : Below (w1.heap.size + 1 + 1) ((w1.alloc (.cells #[.int .i64 room, .string ByteArray.empty, .string ByteArray.empty] 76)).alloc (.cells #[.slice none 0 0, .int .i64 0, .int .i64 0] 78)) (((w1.alloc (.cells #[.int .i64 room, .string ByteArray.empty, .string ByteArray.empty] 76)).alloc (.cells #[.slice none 0 0, .int .i64 0, .int .i64 0] 78)).alloc (.cells #[.int .i64 0, .string ByteArray.empty, .string ByteArray.empty] 76)) := (Below.refl _ _).alloc (by simp) _
      have z1 := heap_alloc_new w1 (.cells #[.int .i64 room, .string ByteArray.empty, .string ByteArray.empty] 76)
      have z2 := heap_alloc_new (w1.alloc (.cells #[.int .i64 room, .string ByteArray.empty, .string ByteArray.empty] 76)) (.cells #[.slice none 0 0, .int .i64 0, .int .i64 0] 78)
      have z3 := heap_alloc_new ((w1.alloc (.cells #[.int .i64 room, .string ByteArray.empty, .string ByteArray.empty] 76)).alloc (.cells #[.slice none 0 0, .int .i64 0, .int .i64 0] 78)) (.cells #[.int .i64 0, .string ByteArray.empty, .string ByteArray.empty] 76)
      have s1 : (w1.alloc (.cells #[.int .i64 room, .string ByteArray.empty, .string ByteArray.empty] 76)).heap.size = w1.heap.size + 1 := by simp
      have s2 : ((w1.alloc (.cells #[.int .i64 room, .string ByteArray.empty, .string ByteArray.empty] 76)).alloc (.cells #[.slice none 0 0, .int .i64 0, .int .i64 0] 78)).heap.size = w1.heap.size + 1 + 1 := by simp
      rw [s1] at z2
      rw [s2] at z3
      have bb : Below w1.heap.size w1 _ := (b1.trans (b2.mono (by omega))).trans (b3.mono (by omega))
      have hsz := hB.size
      have hdl := lt_of_block hA.st
      refine ⟨hA.grown bb, I0, (b3.block _ (by omega)).trans ((b2.block _ (by omega)).trans z1), ⟨(b3.block _ (by omega)).trans z2, Or.inl ⟨rfl, rfl⟩⟩, z3, hB.trans (bb.mono hsz), Nat.le_refl _, hsz, by omega, by omega, by omega, by omega⟩)
    clear hM I0 hA hB
    go_wp2_with fail
    go_loopw [10] (fun i wr => ∃ (k : Nat) (v vz : Value) (S T : ByteArray), k ≤ acts.length ∧ i = .int .i64 k ∧ S.size + T.size ≤ 100 * k ∧ Four w wr w.heap.size w1.heap.size (w1.heap.size + 1) (w1.heap.size + 1 + 1) room M v vz S T) (fun i _ => acts.length - (intOf i).toNat)
    case atStart => exact ⟨0, _, _, _, _, by omega, rfl, by simp, HFOUR.out⟩
    case round =>
      obtain ⟨k, v, vz, S, T, hk, rfl, hST, h4⟩ := hrel
      have H4 := Lib.hid h4
      by_cases hlt : k < acts.length
      · obtain ⟨b, off, hAA, hbl, c0, c1, c2, a2⟩ := act_cells (HS.out.below h4.bel) hlt
        have h100 := H100.out k hlt
        have HCELL := Lib.hid (show ∀ w', Below w.heap.size w w' → w'.cell? ⟨b, off + k * 3, none⟩ = some (.int .i64 acts[k].1) ∧ w'.cell? ⟨b, off + k * 3 + 1, none⟩ = some (.string acts[k].2.1) ∧ w'.cell? ⟨b, off + k * 3 + 2, none⟩ = some (.int .i64 acts[k].2.2) by
          intro w' hb'
          obtain ⟨b', off', hA2, -, d0, d1, d2, -⟩ := act_cells (HS.out.below hb') hlt
          rw [hAA] at hA2
          injection hA2 with hA2
          injection hA2 with h1 h2
          subst h1
          subst h2
          exact ⟨d0, d1, d2⟩)
        have HA2 := Lib.hid a2
        have HP := Lib.hid (ract_pact M S T acts[k].1 acts[k].2.1 acts[k].2.2)
        have HPI := Lib.hid (pact_inv h4.inv acts[k].1 acts[k].2.1 acts[k].2.2)
        have HPL := Lib.hid (pact_len M S.size (bytes (S ++ T)) acts[k].1 acts[k].2.1 acts[k].2.2)
        have HPZ := Lib.hid (pact_zero acts[k].1 acts[k].2.1 acts[k].2.2)
        have HBL : Hid ((bytes (S ++ T)).length = S.size + T.size) := Lib.hid (by rw [bytes_len]; simp)
        have hp4 := h4.moved (Dr.below (dr_drew wr))
        have hdo := do_any wr.drew _ v M _ _ hp4.at_ hp4.inv (by rw [HBL.out]; omega) acts[k].1 acts[k].2.1 (by omega) acts[k].2.2 a2
        rw [HP.out.1, HP.out.2.1, HP.out.2.2] at hdo
        have HD := Lib.hid hdo
        have HP4 := Lib.hid hp4
        have hpi := HPI.out
        rw [HP.out.2.1, HP.out.2.2] at hpi
        have hpl := HPL.out
        rw [HP.out.2.2, HBL.out, bytes_len] at hpl
        simp at hpl
        have HI' := Lib.hid hpi
        clear hpi HPI HPL HP HBL a2 c0 c1 c2 hbl hp4 hdo h4
        subst hAA
        have q0 := fun n : Wd (Gr w) => (HCELL.out n.w n.ok).1
        have q1 := fun n : Wd (Gr w) => (HCELL.out n.w n.ok).2.1
        have q2 := fun n : Wd (Gr w) => (HCELL.out n.w n.ok).2.2
        go_upto_region 9 with (fail)
        refine wp_region_G (n := 36) (Gr w) rfl (by kernel_rfl) HP4.out.bel (fun hS => ?_)
        refine wpAnyG_seg (fuel := 26) [0, 1, 2, 6, 7, 8, 3, 9, 4, 10] rfl rfl (by kernel_rfl) (fun _ _ d _ _ h => by cases d <;> exact h) hS ?_
        repeat (go_big_quiet_step (fail))
        refine wpQuiet_nil ?_
        refine wpAnyG_alone (fuel := 25) 5 (by kernel_rfl) rfl hS (fun K hK => ?_)
        go_simp
        refine HD.out.mono ?_
        rintro e w5 ⟨rfl, v5, hA5, hT5⟩
        obtain ⟨hx5, hz5, hy5, hB5⟩ := HP4.out.step1 hA5 hT5
        have hrd := rdo_any w5 _ room S T hx5 HR.out (by omega) (by omega) acts[k].1 acts[k].2.1 (by omega) acts[k].2.2 HA2.out
        rw [HM.out] at hrd
        have HRD := Lib.hid hrd
        have HA5 := Lib.hid hA5
        have HZ5 := Lib.hid hz5
        have HY5 := Lib.hid hy5
        have HX5 := Lib.hid hx5
        have HB5 := Lib.hid hB5
        clear hx5 hz5 hy5 hB5 hrd hA5 hT5 HD HR
        go_wp2_with fail
        refine hK.out (Gr w) _ _ (fun _ h => h) HB5.out (fun hS => ?_)
        clear hK K
        refine wpAnyG_alone (fuel := 24) 11 (by kernel_rfl) rfl hS (fun K hK => ?_)
        go_simp
        refine HRD.out.mono ?_
        rintro e w6 ⟨rfl, hx6, hT6⟩
        generalize ract M S T acts[k].1 acts[k].2.1 acts[k].2.2 = r at *
        obtain ⟨rb, S', T'⟩ := r
        simp only at hx6 hpl HA5 HI' ⊢
        have nxd : w.heap.size ∉ [w1.heap.size] := by have := st_ne HA5.out.st HX5.out (by decide); simpa using this
        have nxz : w1.heap.size + 1 ∉ [w1.heap.size] := by simp
        have nxy : w1.heap.size + 1 + 1 ∉ [w1.heap.size] := by simp; omega
        have hA6 := HA5.out.kept hT6 nxd (row_ne HA5.out.row HX5.out (by decide))
        have hz6 := HZ5.out.kept hT6 nxz (row_ne HZ5.out.row HX5.out (by decide))
        have hy6 := HY5.out.kept hT6 nxy
        have hB6 := HB5.out.trans (hT6.below HB5.out.size (by simpa using HP4.out.nx))
        have hdz := do_any w6 _ vz 0 0 [] hz6 ⟨by omega, by omega, by omega, by simp, by simp⟩ (by simp) acts[k].1 acts[k].2.1 (by omega) acts[k].2.2 HA2.out
        rw [HPZ.out.1, HPZ.out.2.1] at hdz
        have HDZ := Lib.hid hdz
        have HA6 := Lib.hid hA6
        have HX6 := Lib.hid hx6
        have HY6 := Lib.hid hy6
        have HZ6 := Lib.hid hz6
        have HB6 := Lib.hid hB6
        clear hx6 hA6 hz6 hy6 hB6 hdz hT6 HRD HA5 HZ5 HY5 HX5 HB5 nxd nxz nxy
        go_wp2_with fail
        refine hK.out (Gr w) _ _ (fun _ h => h) HB6.out (fun hS => ?_)
        clear hK K
        refine wpAnyG_seg (fuel := 12) [12, 13, 14, 15, 16, 20, 21, 22, 17, 23, 18, 24] rfl rfl (by kernel_rfl) (fun _ _ d _ _ h => by cases d <;> exact h) hS ?_
        repeat (go_big_quiet_step (fail))
        refine wpQuiet_nil ?_
        refine wpAnyG_alone (fuel := 11) 19 (by kernel_rfl) rfl hS (fun K hK => ?_)
        go_simp
        refine HDZ.out.mono ?_
        rintro e w7 ⟨rfl, vz7, hz7, hT7⟩
        have ndz : w.heap.size ∉ [w1.heap.size + 1] := by have := HP4.out.dz; simpa using this
        have hA7 := HA6.out.kept hT7 ndz (row_ne HA6.out.row HZ6.out.st (by decide))
        have hx7 := HX6.out.kept hT7 (by simp)
        have hy7 := HY6.out.kept hT7 (by simp)
        have hB7 := HB6.out.trans (hT7.below HB6.out.size (by simpa using HP4.out.nz))
        have hry := rdo_any w7 _ 0 _ _ hy7 (by decide) (by simp) (by simp) acts[k].1 acts[k].2.1 (by omega) acts[k].2.2 HA2.out
        rw [show max (0 : Int) 0 = 0 from rfl, HPZ.out.2.2.1, HPZ.out.2.2.2] at hry
        have HRY := Lib.hid hry
        have HA7 := Lib.hid hA7
        have HX7 := Lib.hid hx7
        have HZ7 := Lib.hid hz7
        have HY7 := Lib.hid hy7
        have HB7 := Lib.hid hB7
        clear hx7 hA7 hz7 hy7 hB7 hry hT7 HDZ HA6 HZ6 HY6 HX6 HB6 ndz
        go_wp2_with fail
        refine hK.out (Gr w) _ _ (fun _ h => h) HB7.out (fun hS => ?_)
        clear hK K
        refine wpAnyG_alone (fuel := 10) 25 (by kernel_rfl) rfl hS (fun K hK => ?_)
        go_simp
        refine HRY.out.mono ?_
        rintro e w8 ⟨rfl, hy8, hT8⟩
        generalize (pact 0 0 [] acts[k].1 acts[k].2.1 acts[k].2.2).1 = rz at *
        have nyd : w.heap.size ∉ [w1.heap.size + 1 + 1] := by have := st_ne HA7.out.st HY7.out (by decide); simpa using this
        have h48 : Four w w8 w.heap.size w1.heap.size (w1.heap.size + 1) (w1.heap.size + 1 + 1) room M v5 vz7 S' T' := ⟨HA7.out.kept hT8 nyd (row_ne HA7.out.row HY7.out (by decide)), HI'.out, HX7.out.kept hT8 (by simp; omega), HZ7.out.kept hT8 (by simp) (row_ne HZ7.out.row HY7.out (by decide)), hy8,
          HB7.out.trans (hT8.below HB7.out.size (by simpa using HP4.out.ny)), HP4.out.nd, HP4.out.nx, HP4.out.nz, HP4.out.ny, HP4.out.dz, HP4.out.xy⟩
        have H8 := Lib.hid h48
        have HDN := Lib.hid (do_nil w8 acts[k].1 acts[k].2.1 acts[k].2.2)
        clear hy8 hT8 h48 nyd HA7 HX7 HZ7 HY7 HB7 HRY HP4 H4
        go_wp2_with fail
        refine hK.out (Gr w) _ _ (fun _ h => h) H8.out.bel (fun hS => ?_)
        clear hK K
        refine wpAnyG_seg (fuel := 2) [26, 27, 28, 29, 30, 31, 32, 33] rfl rfl (by kernel_rfl) (fun _ _ d _ _ h => by cases d <;> exact h) hS ?_
        repeat (go_big_quiet_step (fail))
        refine wpQuiet_nil ?_
        refine wpAnyG_alone (fuel := 1) 34 (by kernel_rfl) rfl hS (fun K hK => ?_)
        go_simp
        refine HDN.out.mono ?_
        rintro e w9 ⟨rfl, hb9⟩
        have H9 := Lib.hid (H8.out.moved hb9)
        clear hb9 H8 HDN
        go_wp2_with fail
        refine hK.out (Gr w) _ _ (fun _ h => h) H9.out.bel (fun hS => ?_)
        clear hK K
        refine wpAnyG_seg (fuel := 0) [35] rfl rfl (by kernel_rfl) (fun _ _ d _ _ h => by cases d <;> exact h) hS ?_
        repeat (go_big_quiet_step (fail))
        refine wpQuiet_nil ?_
        refine wpAnyG_end (by kernel_rfl) ?_
        clear q0 q1 q2 HCELL hS
        have HRL := Lib.hid (show ∀ W, Dr w9 W → Calls Try.prog 50 #[.pointer (some ⟨w1.heap.size, 0, none⟩)] W fun e w' => e = .returned (.int .i64 (M - S'.size - T'.size)) ∧ ∃ n, w' = W.drewN n by
          intro W hW
          have := rleft_any W _ room S' T' (H9.out.moved (Dr.below hW)).rd HR2.out (by omega) (by omega)
          rw [HM.out] at this
          exact this)
        have q0 := fun n : Wd (Dr w9) => cell_of (H9.out.moved (Dr.below n.ok)).rd (o := 0) rfl
        have q1 := fun n : Wd (Dr w9) => cell_of (H9.out.moved (Dr.below n.ok)).rd (o := 1) rfl
        have q2 := fun n : Wd (Dr w9) => cell_of (H9.out.moved (Dr.below n.ok)).rd (o := 2) rfl
        have t1 := str_eq (rfl : S' ++ T' = S' ++ T')
        go_upto_region 11 with (fail)
        refine wp_region_G (n := 59) (Dr w9) rfl (by kernel_rfl) (dr_drew w9) (fun hS => ?_)
        refine wpAnyG_seg (fuel := 49) [0, 2, 6, 3, 7, 4, 8, 5, 9, 10] rfl rfl (by kernel_rfl) (fun _ _ d _ _ h => by cases d <;> exact h) hS ?_
        repeat (go_big_quiet_step (fail))
        refine wpQuiet_nil ?_
        refine wpAnyG_alone (fuel := 48) 1 (by kernel_rfl) rfl hS (fun K hK => ?_)
        go_simp
        refine (bytes_str w9.drew _ _ _ _ _ (H9.out.moved (Dr.below hS)).at_).mono ?_
        rintro e w10 ⟨rfl, hw⟩
        have HD10 := Lib.hid (show Dr w9 w10 by rw [← hw]; exact hS)
        clear hw
        go_wp2_with fail
        refine hK.out (Dr w9) _ _ (fun _ h => h) HD10.out (fun hS => ?_)
        clear hK K
        refine wpAnyG_seg (fuel := 40) [11, 12, 13, 15, 16, 17, 18, 19] rfl rfl (by kernel_rfl) (fun _ _ d _ _ h => by cases d <;> exact h) hS ?_
        repeat (go_big_quiet_step (fail))
        refine wpQuiet_nil ?_
        refine wpAnyG_alone (fuel := 39) 14 (by kernel_rfl) rfl hS (fun K hK => ?_)
        go_simp
        refine (sure_any w10 _ _ _ _ _ (H9.out.moved (Dr.below hS)).at_).mono ?_
        rintro e w11 ⟨rfl, hw⟩
        have HD11 := Lib.hid (show Dr w9 w11 by rw [← hw]; exact hS)
        clear hw
        go_wp2_with fail
        refine hK.out (Dr w9) _ _ (fun _ h => h) HD11.out (fun hS => ?_)
        clear hK K
        refine wpAnyG_seg (fuel := 34) [20, 21, 22, 23, 25] rfl rfl (by kernel_rfl) (fun _ _ d _ _ h => by cases d <;> exact h) hS ?_
        repeat (go_big_quiet_step (fail))
        refine wpQuiet_nil ?_
        refine wpAnyG_alone (fuel := 33) 24 (by kernel_rfl) rfl hS (fun K hK => ?_)
        go_simp
        refine (room_len w11 _ _ _ _ S' T' (H9.out.moved (Dr.below hS)).at_ HI'.out (by omega) (by omega)).mono ?_
        rintro e w12 ⟨rfl, hw⟩
        have HD12 := Lib.hid (show Dr w9 w12 from Dr.trans hS hw)
        clear hw
        go_wp2_with fail
        refine hK.out (Dr w9) _ _ (fun _ h => h) HD12.out (fun hS => ?_)
        clear hK K
        refine wpAnyG_alone (fuel := 32) 26 (by kernel_rfl) rfl hS (fun K hK => ?_)
        go_simp
        refine ((HRL.out _ hS)).mono ?_
        rintro e w13 ⟨rfl, hw⟩
        have HD13 := Lib.hid (show Dr w9 w13 from Dr.trans hS hw)
        clear hw
        go_wp2_with fail
        refine hK.out (Dr w9) _ _ (fun _ h => h) HD13.out (fun hS => ?_)
        clear hK K
        refine wpAnyG_seg (fuel := 28) [27, 28, 29, 30] rfl rfl (by kernel_rfl) (fun _ _ d _ _ h => by cases d <;> exact h) hS ?_
        repeat (go_big_quiet_step (fail))
        refine wpQuiet_nil ?_
        refine wpAnyG_alone (fuel := 27) 31 (by kernel_rfl) rfl hS (fun K hK => ?_)
        go_simp
        refine (bytes_str w13 _ _ _ _ ByteArray.empty (H9.out.moved (Dr.below hS)).az).mono ?_
        rintro e w14 ⟨rfl, hw⟩
        have HD14 := Lib.hid (show Dr w9 w14 by rw [← hw]; exact hS)
        clear hw
        go_wp2_with fail
        refine hK.out (Dr w9) _ _ (fun _ h => h) HD14.out (fun hS => ?_)
        clear hK K
        refine wpAnyG_seg (fuel := 23) [32, 33, 34, 35] rfl rfl (by kernel_rfl) (fun _ _ d _ _ h => by cases d <;> exact h) hS ?_
        repeat (go_big_quiet_step (fail))
        refine wpQuiet_nil ?_
        refine wpAnyG_alone (fuel := 22) 36 (by kernel_rfl) rfl hS (fun K hK => ?_)
        go_simp
        refine (sure_any w14 _ _ _ _ _ (H9.out.moved (Dr.below hS)).az).mono ?_
        rintro e w15 ⟨rfl, hw⟩
        have HD15 := Lib.hid (show Dr w9 w15 by rw [← hw]; exact hS)
        clear hw
        go_wp2_with fail
        refine hK.out (Dr w9) _ _ (fun _ h => h) HD15.out (fun hS => ?_)
        clear hK K
        refine wpAnyG_seg (fuel := 18) [37, 38, 39, 40] rfl rfl (by kernel_rfl) (fun _ _ d _ _ h => by cases d <;> exact h) hS ?_
        repeat (go_big_quiet_step (fail))
        refine wpQuiet_nil ?_
        refine wpAnyG_alone (fuel := 17) 41 (by kernel_rfl) rfl hS (fun K hK => ?_)
        go_simp
        refine (room_len w15 _ _ _ _ ByteArray.empty ByteArray.empty (H9.out.moved (Dr.below hS)).az ⟨by omega, by omega, by simp, by simp, by simp [bytes]⟩ (by simp) (by simp)).mono ?_
        rintro e w16 ⟨rfl, hw⟩
        have HD16 := Lib.hid (show Dr w9 w16 from Dr.trans hS hw)
        clear hw
        go_wp2_with fail
        refine hK.out (Dr w9) _ _ (fun _ h => h) HD16.out (fun hS => ?_)
        clear hK K
        refine wpAnyG_seg (fuel := 13) [42, 43, 44, 45] rfl rfl (by kernel_rfl) (fun _ _ d _ _ h => by cases d <;> exact h) hS ?_
        repeat (go_big_quiet_step (fail))
        refine wpQuiet_nil ?_
        refine wpAnyG_alone (fuel := 12) 46 (by kernel_rfl) rfl hS (fun K hK => ?_)
        go_simp
        refine (bytes_nil w16).mono ?_
        rintro e w17 ⟨rfl, hw⟩
        have HD17 := Lib.hid (show Dr w9 w17 by rw [← hw]; exact hS)
        clear hw
        go_wp2_with fail
        refine hK.out (Dr w9) _ _ (fun _ h => h) HD17.out (fun hS => ?_)
        clear hK K
        refine wpAnyG_seg (fuel := 8) [47, 48, 49, 50] rfl rfl (by kernel_rfl) (fun _ _ d _ _ h => by cases d <;> exact h) hS ?_
        repeat (go_big_quiet_step (fail))
        refine wpQuiet_nil ?_
        refine wpAnyG_alone (fuel := 7) 51 (by kernel_rfl) rfl hS (fun K hK => ?_)
        go_simp
        refine (sure_nil w17).mono ?_
        rintro e w18 ⟨rfl, hw⟩
        have HD18 := Lib.hid (show Dr w9 w18 by rw [← hw]; exact hS)
        clear hw
        go_wp2_with fail
        refine hK.out (Dr w9) _ _ (fun _ h => h) HD18.out (fun hS => ?_)
        clear hK K
        refine wpAnyG_seg (fuel := 3) [52, 53, 54, 55] rfl rfl (by kernel_rfl) (fun _ _ d _ _ h => by cases d <;> exact h) hS ?_
        repeat (go_big_quiet_step (fail))
        refine wpQuiet_nil ?_
        refine wpAnyG_alone (fuel := 2) 56 (by kernel_rfl) rfl hS (fun K hK => ?_)
        go_simp
        refine (room_nil w18).mono ?_
        rintro e w19 ⟨rfl, hw⟩
        have HD19 := Lib.hid (show Dr w9 w19 by rw [← hw]; exact hS)
        clear hw
        go_wp2_with fail
        refine hK.out (Dr w9) _ _ (fun _ h => h) HD19.out (fun hS => ?_)
        clear hK K
        refine wpAnyG_seg (fuel := 0) [57, 58] rfl rfl (by kernel_rfl) (fun _ _ d _ _ h => by cases d <;> exact h) hS ?_
        repeat (go_big_quiet_step (fail))
        refine wpQuiet_nil ?_
        refine wpAnyG_end (by kernel_rfl) ?_
        have HTE := Lib.hid (H9.out.moved (Dr.below hS))
        clear q0 q1 q2 hS
        go_wp2
        go_roundw
        case rel => exact ⟨k + 1, v5, vz7, S', T', by omega, by go_num, by omega, HTE.out⟩
        case measure => simp [intOf]; omega
      · obtain rfl : k = acts.length := by omega
        have HBW := Lib.hid h4.bel
        clear h4
        go_wp2_with fail
        refine (pawake_any _).mono ?_
        rintro e w' ⟨rfl, hb'⟩
        have HB' := Lib.hid hb'
        clear hb'
        go_wp2
        go_ret
        exact ⟨rfl, HBW.out.trans (HB'.out.mono HBW.out.size)⟩
end Go.Proofs.Ytapiaiobohkemaa.DiskW
