/- Shared filters, merged: what Parse, Text, Key and Strategy come to; the laws ShareKeys and ShareBack -/
import Derived.Test.YtnognmnjlnokeaaDoorTopZ
import Derived.Test.YtnognmnjlnokeaaDoorCls
import Derived.Test.YtnognmnjlnokeaaDoorTopY
set_option linter.unusedVariables false
set_option linter.unusedSimpArgs false
namespace Go.Proofs.YtnognmnjlnokeaaDoor.TopW
open Go.RowKit Go.Proofs.YtnognmnjlnokeaaDoor.Tc Go.Proofs.YtnognmnjlnokeaaDoor.TopP

structure Sh where
  shared : Bool
  group : ByteArray
  filter : ByteArray
def Sh.val (x : Sh) : Value := .agg #[.bool x.shared, .string x.group, .string x.filter]
def Sh.none : Sh := ⟨false, ⟨#[]⟩, ⟨#[]⟩⟩
def root : List UInt8 := [36, 115, 104, 97, 114, 101, 47]
def ofL (l : List UInt8) : ByteArray := ⟨l.toArray⟩
theorem ofL_list (l : List UInt8) : (ofL l).data.toList = l := rfl
theorem ofL_self (s : ByteArray) : ofL s.data.toList = s := by apply ByteArray.ext; simp [ofL]
/-- The group and the filter. -/
def part (l : List UInt8) : List UInt8 × List UInt8 := ((Lib.cut l [47]).1, (Lib.cut l [47]).2.1)
def parse (s : ByteArray) : Sh × Bool :=
  if isFilter s.data.toList = true then
    if Lib.hasPrefix s.data.toList root = true then
      if (isName (part (s.data.toList.drop 7)).1 && isFilter (part (s.data.toList.drop 7)).2) = true then (⟨true, ofL (part (s.data.toList.drop 7)).1, ofL (part (s.data.toList.drop 7)).2⟩, true) else (Sh.none, false)
    else (⟨false, ⟨#[]⟩, s⟩, true)
  else (Sh.none, false)
theorem cut_no {l : List UInt8} (h : 47 ∉ l) : Lib.cut l [47] = (l, [], false) := by
  unfold Lib.cut
  rw [Lib.index_one]
  rw [if_neg]
  intro h0
  obtain ⟨i, hi⟩ := Int.eq_ofNat_of_zero_le h0
  exact h (List.mem_of_getElem? (Lib.indexByte_some hi).1)
theorem cut_yes {a : List UInt8} (b : List UInt8) (h : 47 ∉ a) : Lib.cut (a ++ 47 :: b) [47] = (a, b, true) := by
  have hi : Lib.indexByte (a ++ 47 :: b) 47 = (a.length : Nat) := by
    have hg := Lib.indexByte_ge (a ++ 47 :: b) 47
    by_cases h1 : Lib.indexByte (a ++ 47 :: b) 47 = -1
    · exact absurd (by simp) (Lib.indexByte_none h1 a.length)
    · obtain ⟨i, hi⟩ : ∃ i : Nat, Lib.indexByte (a ++ 47 :: b) 47 = i := ⟨(Lib.indexByte (a ++ 47 :: b) 47).toNat, by omega⟩
      obtain ⟨h2, h3⟩ := Lib.indexByte_some hi
      rcases Nat.lt_trichotomy i a.length with hl | hl | hl
      · rw [List.getElem?_append_left hl] at h2
        exact absurd (List.mem_of_getElem? h2) h
      · rw [hi, hl]
      · exact absurd (by simp) (h3 a.length hl)
  unfold Lib.cut
  rw [Lib.index_one, hi, if_pos (by omega)]
  simp
theorem put3 {w : World} {b : Nat} {a0 a1 a2 : Value} {t : TypeId} (h : w.heap[b]? = some (.cells #[a0, a1, a2] t (0, 0))) (u0 u1 u2 : Value) :
    (((w.setCell ⟨b, 0, none⟩ u0).setCell ⟨b, 1, none⟩ u1).setCell ⟨b, 2, none⟩ u2).heap[b]? = some (.cells #[u0, u1, u2] t (0, 0)) := set_of (set_of (set_of h 0 u0) 1 u1) 2 u2
theorem put3_below {w w2 : World} (h : Below w.heap.size w w2) (u0 u1 u2 : Value) :
    Below w.heap.size w (((w2.setCell ⟨w.heap.size, 0, none⟩ u0).setCell ⟨w.heap.size, 1, none⟩ u1).setCell ⟨w.heap.size, 2, none⟩ u2) :=
  ((((Tch.of_below (S := []) h).setCell (p := ⟨w.heap.size, 0, none⟩) (.inr (Nat.le_refl _)) u0).setCell (p := ⟨w.heap.size, 1, none⟩) (.inr (Nat.le_refl _)) u1).setCell (p := ⟨w.heap.size, 2, none⟩) (.inr (Nat.le_refl _)) u2).below (Nat.le_refl _) (by simp)
theorem alloc_below (w : World) (o : Obj) : Below w.heap.size w (w.alloc o) := (Below.refl _ _).alloc (Nat.le_refl _) _
set_option maxRecDepth 100000 in
set_option maxHeartbeats 2000000 in
theorem parse_any (s : ByteArray) (w : World) (hs : s.size ≤ 60000) (hE : Env w) : Calls Tryd.prog 29 #[.string s] w fun e w' => e = .returned (.tuple #[(parse s).1.val, .bool (parse s).2]) ∧ Below w.heap.size w w' := by
  have HP := Lib.hid (show parse s = if isFilter s.data.toList = true then
    if Lib.hasPrefix s.data.toList root = true then
      if (isName (part (s.data.toList.drop 7)).1 && isFilter (part (s.data.toList.drop 7)).2) = true then (⟨true, ofL (part (s.data.toList.drop 7)).1, ofL (part (s.data.toList.drop 7)).2⟩, true) else (Sh.none, false)
    else (⟨false, ⟨#[]⟩, s⟩, true)
    else (Sh.none, false) from rfl)
  have hb0 := alloc_below w (.cells #[.bool false, .string ⟨#[]⟩, .string ⟨#[]⟩] 31)
  have HE0 := Lib.hid (hE.below hb0)
  have HF := Lib.hid (filter_any s _ hs (hE.below hb0))
  have HB0 := Lib.hid hb0
  have HZ := Lib.hid (heap_alloc_new w (.cells #[.bool false, .string ⟨#[]⟩, .string ⟨#[]⟩] 31))
  have hzs : (w.alloc (.cells #[.bool false, .string ⟨#[]⟩, .string ⟨#[]⟩] 31)).heap.size = w.heap.size + 1 := by simp
  have HZS := Lib.hid hzs
  -- storing the answer
  have HST := Lib.hid (show ∀ w2, Below (w.alloc (.cells #[.bool false, .string ⟨#[]⟩, .string ⟨#[]⟩] 31)).heap.size (w.alloc (.cells #[.bool false, .string ⟨#[]⟩, .string ⟨#[]⟩] 31)) w2 → w2.heap[w.heap.size]? = some (.cells #[.bool false, .string ⟨#[]⟩, .string ⟨#[]⟩] 31 (0, 0)) by
    intro w2 hb
    exact (hb.block _ (by rw [HZS.out]; omega)).trans HZ.out)
  clear hb0 hE hzs
  cases hf : isFilter s.data.toList with
  | false =>
    rw [hf] at HF
    have HR := Lib.hid (show parse s = (Sh.none, false) by rw [HP.out, hf]; rfl)
    clear hf HP
    go_enter Tryd.func29, Tryd.ntmps29
    go_wp2_with fail
    refine HF.out.mono ?_
    rintro e w2 ⟨rfl, hb⟩
    have hz := HST.out w2 hb
    have HB := Lib.hid (HB0.out.trans (hb.mono HB0.out.size))
    have c0 : w2.cell? ⟨w.heap.size, 0, none⟩ = some (.bool false) := cell_of hz rfl
    have c1 : w2.cell? ⟨w.heap.size, 1, none⟩ = some (.string ⟨#[]⟩) := cell_of hz rfl
    have c2 : w2.cell? ⟨w.heap.size, 2, none⟩ = some (.string ⟨#[]⟩) := cell_of hz rfl
    have f0 := free_of hz 0
    have f1 := free_of hz 1
    have f2 := free_of hz 2
    have hp := put3 hz (.bool false) (.string ⟨#[]⟩) (.string ⟨#[]⟩)
    have p0 := cell_of hp (o := 0) (v := .bool false) rfl
    have p1 := cell_of hp (o := 1) (v := .string ⟨#[]⟩) rfl
    have p2 := cell_of hp (o := 2) (v := .string ⟨#[]⟩) rfl
    have HBE := Lib.hid (put3_below HB.out (.bool false) (.string ⟨#[]⟩) (.string ⟨#[]⟩))
    clear hb hz hp
    go_wp2_with fail
    exact bodyPost_ret (v := .tuple #[.agg #[.bool false, .string ⟨#[]⟩, .string ⟨#[]⟩], .bool false]) (by simp [results, Tryd.results29, go_sem, *]) rfl ⟨by rw [HR.out]; rfl, HBE.out⟩
  | true =>
    rw [hf] at HF
    have HCP := Lib.hid (fun W => Tryd.strings_CutPrefix s ⟨#[36, 115, 104, 97, 114, 101, 47]⟩ W)
    have HPX := Lib.hid (show Lib.hasPrefix s.data.toList (⟨#[36, 115, 104, 97, 114, 101, 47]⟩ : ByteArray).data.toList = Lib.hasPrefix s.data.toList root from rfl)
    cases hx : Lib.hasPrefix s.data.toList root with
    | false =>
      have HR := Lib.hid (show parse s = (⟨false, ⟨#[]⟩, s⟩, true) by rw [HP.out, hf, hx]; rfl)
      have HX := Lib.hid hx
      clear hf hx HP
      go_enter Tryd.func29, Tryd.ntmps29
      go_wp2_with fail
      refine HF.out.mono ?_
      rintro e w2 ⟨rfl, hb⟩
      have hz := HST.out w2 hb
      have HB := Lib.hid (HB0.out.trans (hb.mono HB0.out.size))
      have c0 : w2.cell? ⟨w.heap.size, 0, none⟩ = some (.bool false) := cell_of hz rfl
      have c1 : w2.cell? ⟨w.heap.size, 1, none⟩ = some (.string ⟨#[]⟩) := cell_of hz rfl
      have c2 : w2.cell? ⟨w.heap.size, 2, none⟩ = some (.string ⟨#[]⟩) := cell_of hz rfl
      have f0 := free_of hz 0
      have f1 := free_of hz 1
      have f2 := free_of hz 2
      have hp := put3 hz (.bool false) (.string ⟨#[]⟩) (.string s)
      have p0 := cell_of hp (o := 0) (v := .bool false) rfl
      have p1 := cell_of hp (o := 1) (v := .string ⟨#[]⟩) rfl
      have p2 := cell_of hp (o := 2) (v := .string s) rfl
      have HBE := Lib.hid (put3_below HB.out (.bool false) (.string ⟨#[]⟩) (.string s))
      clear hb hz hp
      go_wp2_with fail
      refine (HCP.out w2).mono ?_
      rw [HPX.out, HX.out]
      rintro e w3 ⟨rfl, rfl⟩
      go_wp2_with fail
      exact bodyPost_ret (v := .tuple #[.agg #[.bool false, .string ⟨#[]⟩, .string s], .bool true]) (by simp [results, Tryd.results29, go_sem, *]) rfl ⟨by rw [HR.out]; rfl, HBE.out⟩
    | true =>
      have HX := Lib.hid hx
      have hsz : s.data.toList.length = s.size := by simp
      obtain ⟨R, hR⟩ : ∃ R, R = ofL (s.data.toList.drop 7) := ⟨_, rfl⟩
      have hRl : R.data.toList = s.data.toList.drop 7 := by rw [hR]; rfl
      have hRs : R.size ≤ s.size := by rw [len_size hRl, List.length_drop]; omega
      have HTR := Lib.hid (show (⟨(Lib.trimPrefix s.data.toList (⟨#[36, 115, 104, 97, 114, 101, 47]⟩ : ByteArray).data.toList).toArray⟩ : ByteArray) = R by
        rw [hR]; unfold Lib.trimPrefix; rw [HPX.out, hx]; rfl)
      obtain ⟨G, hG⟩ : ∃ G, G = ofL (part (s.data.toList.drop 7)).1 := ⟨_, rfl⟩
      obtain ⟨F, hF⟩ : ∃ F, F = ofL (part (s.data.toList.drop 7)).2 := ⟨_, rfl⟩
      have hcl : (Lib.cut R.data.toList [47]).1.length ≤ R.size ∧ (Lib.cut R.data.toList [47]).2.1.length ≤ R.size := by
        have hrz : R.data.toList.length = R.size := by simp
        unfold Lib.cut
        by_cases h0 : 0 ≤ Lib.index R.data.toList [47]
        · rw [if_pos h0]
          constructor
          · simp only [List.length_take]; omega
          · simp only [List.length_drop]; omega
        · rw [if_neg h0]
          exact ⟨by simp only [hrz]; exact Nat.le_refl _, by simp⟩
      have hGs : G.size ≤ 60000 := by rw [hG, len_size (ofL_list _)]; show (Lib.cut (s.data.toList.drop 7) [47]).1.length ≤ 60000; rw [← hRl]; omega
      have hFs : F.size ≤ 60000 := by rw [hF, len_size (ofL_list _)]; show (Lib.cut (s.data.toList.drop 7) [47]).2.1.length ≤ 60000; rw [← hRl]; omega
      have HCG := Lib.hid (show (⟨(Lib.cut R.data.toList (⟨#[47]⟩ : ByteArray).data.toList).1.toArray⟩ : ByteArray) = G by rw [hG, hRl]; rfl)
      have HCF := Lib.hid (show (⟨(Lib.cut R.data.toList (⟨#[47]⟩ : ByteArray).data.toList).2.1.toArray⟩ : ByteArray) = F by rw [hF, hRl]; rfl)
      have HR0 := Lib.hid (show parse s = if (isName G.data.toList && isFilter F.data.toList) = true then (⟨true, G, F⟩, true) else (Sh.none, false) by
        rw [HP.out, hf, hx, hG, hF]; rfl)
      have HNA := Lib.hid (fun W (hE : Env W) => name_any G W hGs hE)
      have HFA := Lib.hid (fun W (hE : Env W) => filter_any F W hFs hE)
      clear hf hx HP hR hRl hG hF hcl hGs hFs hsz
      go_enter Tryd.func29, Tryd.ntmps29
      go_wp2_with fail
      refine HF.out.mono ?_
      rintro e w2 ⟨rfl, hb⟩
      have HB2 := Lib.hid hb
      clear hb
      go_wp2_with fail
      refine (HCP.out w2).mono ?_
      rw [HPX.out, HX.out, HTR.out]
      rintro e w3 ⟨rfl, hw3⟩
      obtain ⟨m, hm⟩ := (HE0.out.below HB2.out).max
      have HCUT := Lib.hid (Tryd.strings_Cut R ⟨#[47]⟩ m w2 (by omega) hm)
      subst hw3
      clear hm
      go_wp2_with fail
      refine HCUT.out.mono ?_
      rw [HCG.out, HCF.out]
      rintro e w4 ⟨rfl, hd⟩
      have HB4 := Lib.hid (HB2.out.trans ((Dr.below hd).mono HB2.out.size))
      have HN4 := Lib.hid (HNA.out w4 (HE0.out.below (HB2.out.trans ((Dr.below hd).mono HB2.out.size))))
      clear hd HCUT
      go_wp2_with fail
      refine HN4.out.mono ?_
      rintro e w5 ⟨rfl, hb⟩
      have HB5 := Lib.hid (HB4.out.trans (hb.mono HB4.out.size))
      have HF5 := Lib.hid (HFA.out w5 (HE0.out.below (HB4.out.trans (hb.mono HB4.out.size))))
      clear hb HN4
      cases hn : isName G.data.toList with
      | false =>
        have HR := Lib.hid (show parse s = (Sh.none, false) by rw [HR0.out, hn]; rfl)
        clear hn
        have hz := HST.out w5 HB5.out
        have HB := Lib.hid (HB0.out.trans (HB5.out.mono HB0.out.size))
        have c0 : w5.cell? ⟨w.heap.size, 0, none⟩ = some (.bool false) := cell_of hz rfl
        have c1 : w5.cell? ⟨w.heap.size, 1, none⟩ = some (.string ⟨#[]⟩) := cell_of hz rfl
        have c2 : w5.cell? ⟨w.heap.size, 2, none⟩ = some (.string ⟨#[]⟩) := cell_of hz rfl
        have f0 := free_of hz 0
        have f1 := free_of hz 1
        have f2 := free_of hz 2
        have hp := put3 hz (.bool false) (.string ⟨#[]⟩) (.string ⟨#[]⟩)
        have p0 := cell_of hp (o := 0) (v := .bool false) rfl
        have p1 := cell_of hp (o := 1) (v := .string ⟨#[]⟩) rfl
        have p2 := cell_of hp (o := 2) (v := .string ⟨#[]⟩) rfl
        have HBE := Lib.hid (put3_below HB.out (.bool false) (.string ⟨#[]⟩) (.string ⟨#[]⟩))
        clear hz hp
        go_wp2_with fail
        exact bodyPost_ret (v := .tuple #[.agg #[.bool false, .string ⟨#[]⟩, .string ⟨#[]⟩], .bool false]) (by simp [results, Tryd.results29, go_sem, *]) rfl ⟨by rw [HR.out]; rfl, HBE.out⟩
      | true =>
        cases hfl : isFilter F.data.toList with
        | false =>
          have HR := Lib.hid (show parse s = (Sh.none, false) by rw [HR0.out, hn, hfl]; rfl)
          rw [hfl] at HF5
          clear hn hfl
          go_wp2_with fail
          refine HF5.out.mono ?_
          rintro e w6 ⟨rfl, hb⟩
          have HB6 := Lib.hid (HB5.out.trans (hb.mono HB5.out.size))
          clear hb HF5
          have hz := HST.out w6 HB6.out
          have HB := Lib.hid (HB0.out.trans (HB6.out.mono HB0.out.size))
          have c0 : w6.cell? ⟨w.heap.size, 0, none⟩ = some (.bool false) := cell_of hz rfl
          have c1 : w6.cell? ⟨w.heap.size, 1, none⟩ = some (.string ⟨#[]⟩) := cell_of hz rfl
          have c2 : w6.cell? ⟨w.heap.size, 2, none⟩ = some (.string ⟨#[]⟩) := cell_of hz rfl
          have f0 := free_of hz 0
          have f1 := free_of hz 1
          have f2 := free_of hz 2
          have hp := put3 hz (.bool false) (.string ⟨#[]⟩) (.string ⟨#[]⟩)
          have p0 := cell_of hp (o := 0) (v := .bool false) rfl
          have p1 := cell_of hp (o := 1) (v := .string ⟨#[]⟩) rfl
          have p2 := cell_of hp (o := 2) (v := .string ⟨#[]⟩) rfl
          have HBE := Lib.hid (put3_below HB.out (.bool false) (.string ⟨#[]⟩) (.string ⟨#[]⟩))
          clear hz hp
          go_wp2_with fail
          exact bodyPost_ret (v := .tuple #[.agg #[.bool false, .string ⟨#[]⟩, .string ⟨#[]⟩], .bool false]) (by simp [results, Tryd.results29, go_sem, *]) rfl ⟨by rw [HR.out]; rfl, HBE.out⟩
        | true =>
          have HR := Lib.hid (show parse s = (⟨true, G, F⟩, true) by rw [HR0.out, hn, hfl]; rfl)
          rw [hfl] at HF5
          clear hn hfl
          go_wp2_with fail
          refine HF5.out.mono ?_
          rintro e w6 ⟨rfl, hb⟩
          have HB6 := Lib.hid (HB5.out.trans (hb.mono HB5.out.size))
          clear hb HF5
          have hz := HST.out w6 HB6.out
          have HB := Lib.hid (HB0.out.trans (HB6.out.mono HB0.out.size))
          have c0 : w6.cell? ⟨w.heap.size, 0, none⟩ = some (.bool false) := cell_of hz rfl
          have c1 : w6.cell? ⟨w.heap.size, 1, none⟩ = some (.string ⟨#[]⟩) := cell_of hz rfl
          have c2 : w6.cell? ⟨w.heap.size, 2, none⟩ = some (.string ⟨#[]⟩) := cell_of hz rfl
          have f0 := free_of hz 0
          have f1 := free_of hz 1
          have f2 := free_of hz 2
          have hp := put3 hz (.bool true) (.string G) (.string F)
          have p0 := cell_of hp (o := 0) (v := .bool true) rfl
          have p1 := cell_of hp (o := 1) (v := .string G) rfl
          have p2 := cell_of hp (o := 2) (v := .string F) rfl
          have HBE := Lib.hid (put3_below HB.out (.bool true) (.string G) (.string F))
          clear hz hp
          go_wp2_with fail
          exact bodyPost_ret (v := .tuple #[.agg #[.bool true, .string G, .string F], .bool true]) (by simp [results, Tryd.results29, go_sem, *]) rfl ⟨by rw [HR.out]; rfl, HBE.out⟩
theorem key_any (x : Sh) (w : World) (h : x.group.size ≤ 60000) (h2 : x.filter.size ≤ 60000) : Calls Tryd.prog 33 #[x.val] w fun e w' => e = .returned (.string (x.group ++ ⟨#[47]⟩ ++ x.filter)) ∧ Below w.heap.size w w' := by
  obtain ⟨a, g, f⟩ := x
  dsimp only at h h2
  have hgs : (g ++ (⟨#[47]⟩ : ByteArray)).size = g.size + 1 := by rw [ByteArray.size_append]; rfl
  have HB := Lib.hid (alloc_below w (.cells #[.bool a, .string g, .string f] 31))
  unfold Sh.val
  go_enter Tryd.func33, Tryd.ntmps33
  go_wp2
  go_ret
  exact ⟨rfl, HB.out⟩
def text (x : Sh) : ByteArray := if x.shared = true then ofL root ++ (x.group ++ ⟨#[47]⟩ ++ x.filter) else x.filter
theorem text_any (x : Sh) (w : World) (h : x.group.size ≤ 60000) (h2 : x.filter.size ≤ 60000) : Calls Tryd.prog 31 #[x.val] w fun e w' => e = .returned (.string (text x)) ∧ Below w.heap.size w w' := by
  obtain ⟨a, g, f⟩ := x
  have hb := alloc_below w (.cells #[.bool a, .string g, .string f] 31)
  have HB := Lib.hid hb
  have HK := Lib.hid (key_any ⟨a, g, f⟩ (w.alloc (.cells #[.bool a, .string g, .string f] 31)) h h2)
  have hks : (g ++ (⟨#[47]⟩ : ByteArray) ++ f).size ≤ 120001 := by rw [ByteArray.size_append, ByteArray.size_append, show (⟨#[47]⟩ : ByteArray).size = 1 from rfl]; simp only at h h2; omega
  have HT := Lib.hid (show text ⟨a, g, f⟩ = if a = true then ofL root ++ (g ++ ⟨#[47]⟩ ++ f) else f from rfl)
  generalize text ⟨a, g, f⟩ = T at *
  simp only at HK
  generalize (g ++ (⟨#[47]⟩ : ByteArray) ++ f) = K at *
  clear hb
  unfold Sh.val at *
  cases a with
  | true =>
    go_enter Tryd.func31, Tryd.ntmps31
    go_wp2_with fail
    refine HK.out.mono ?_
    rintro e w2 ⟨rfl, hb⟩
    have HB2 := Lib.hid (HB.out.trans (hb.mono HB.out.size))
    clear hb
    go_wp2_with fail
    go_ret
    exact ⟨by rw [HT.out]; rfl, HB2.out⟩
  | false =>
    go_enter Tryd.func31, Tryd.ntmps31
    go_wp2_with fail
    go_ret
    exact ⟨by rw [HT.out]; rfl, HB.out⟩
/-- A group's strategy. -/
def strat (l : List UInt8) : Int := if l.take 2 = [115, 45] then 2 else if l.take 2 = [104, 45] then 3 else if l.take 2 = [108, 45] then 4 else if l.take 2 = [120, 45] then 5 else 1
set_option maxRecDepth 100000 in
set_option maxHeartbeats 2000000 in
theorem strat_any (s : ByteArray) (w : World) : Calls Tryd.prog 35 #[.string s] w fun e w' => e = .returned (.int .i64 (strat s.data.toList)) ∧ w = w' := by
  have hsz := size_list s
  by_cases h2 : s.size < 2
  · have HR := Lib.hid (show strat s.data.toList = 1 by
      have key : ∀ a b : UInt8, s.data.toList.take 2 ≠ [a, b] := by
        intro a b e
        have := congrArg List.length e
        rw [List.length_take, hsz] at this
        simp at this
        omega
      unfold strat
      rw [if_neg (key _ _), if_neg (key _ _), if_neg (key _ _), if_neg (key _ _)])
    clear hsz
    go_enter Tryd.func35, Tryd.ntmps35
    go_wp2
    go_ret
    exact ⟨by rw [HR.out]; rfl, rfl⟩
  · have hx : (s.extract 0 2).data.toList = s.data.toList.take 2 := by rw [ByteArray.data_extract, Array.toList_extract, List.extract_eq_take_drop]; simp
    obtain ⟨t, ht⟩ : ∃ t, t = s.extract 0 2 := ⟨_, rfl⟩
    rw [← ht] at hx
    have he := ht.symm
    have h2' : (2 : Int) ≤ s.size := by omega
    have HR := Lib.hid (show strat s.data.toList = if t.data.toList = [115, 45] then 2 else if t.data.toList = [104, 45] then 3 else if t.data.toList = [108, 45] then 4 else if t.data.toList = [120, 45] then 5 else 1 by unfold strat; rw [hx])
    have e1 := str_is t [115, 45]
    have e2 := str_is t [104, 45]
    have e3 := str_is t [108, 45]
    have e4 := str_is t [120, 45]
    clear hx ht hsz
    by_cases k1 : t.data.toList = [115, 45]
    · have HR2 := Lib.hid (show strat s.data.toList = 2 by rw [HR.out, if_pos k1])
      rw [decide_eq_true k1] at e1
      clear k1 e2 e3 e4
      go_enter Tryd.func35, Tryd.ntmps35
      go_wp2
      go_ret
      exact ⟨by rw [HR2.out]; rfl, rfl⟩
    rw [decide_eq_false k1] at e1
    by_cases k2 : t.data.toList = [104, 45]
    · have HR2 := Lib.hid (show strat s.data.toList = 3 by rw [HR.out, if_neg k1, if_pos k2])
      rw [decide_eq_true k2] at e2
      clear k1 k2 e3 e4
      go_enter Tryd.func35, Tryd.ntmps35
      go_wp2
      go_ret
      exact ⟨by rw [HR2.out]; rfl, rfl⟩
    rw [decide_eq_false k2] at e2
    by_cases k3 : t.data.toList = [108, 45]
    · have HR2 := Lib.hid (show strat s.data.toList = 4 by rw [HR.out, if_neg k1, if_neg k2, if_pos k3])
      rw [decide_eq_true k3] at e3
      clear k1 k2 k3 e4
      go_enter Tryd.func35, Tryd.ntmps35
      go_wp2
      go_ret
      exact ⟨by rw [HR2.out]; rfl, rfl⟩
    rw [decide_eq_false k3] at e3
    by_cases k4 : t.data.toList = [120, 45]
    · have HR2 := Lib.hid (show strat s.data.toList = 5 by rw [HR.out, if_neg k1, if_neg k2, if_neg k3, if_pos k4])
      rw [decide_eq_true k4] at e4
      clear k1 k2 k3 k4
      go_enter Tryd.func35, Tryd.ntmps35
      go_wp2
      go_ret
      exact ⟨by rw [HR2.out]; rfl, rfl⟩
    rw [decide_eq_false k4] at e4
    have HR2 := Lib.hid (show strat s.data.toList = 1 by rw [HR.out, if_neg k1, if_neg k2, if_neg k3, if_neg k4])
    clear k1 k2 k3 k4
    go_enter Tryd.func35, Tryd.ntmps35
    go_wp2
    go_ret
    exact ⟨by rw [HR2.out]; rfl, rfl⟩
end Go.Proofs.YtnognmnjlnokeaaDoor.TopW
set_option linter.unusedVariables false
set_option linter.unusedSimpArgs false
namespace Go.Proofs.YtnognmnjlnokeaaDoor.TopW
open Go.RowKit Go.Proofs.YtnognmnjlnokeaaDoor.Tc Go.Proofs.YtnognmnjlnokeaaDoor.TopP

theorem parse_at (s : ByteArray) (x : Sh) (ok : Bool) (w : World) (hs : s.size ≤ 60000) (hE : Env w) (h : parse s = (x, ok)) : Calls Tryd.prog 29 #[.string s] w fun e w' => e = .returned (.tuple #[.agg #[.bool x.shared, .string x.group, .string x.filter], .bool ok]) ∧ Below w.heap.size w w' := by
  have := parse_any s w hs hE
  rw [h] at this
  exact this
theorem strat_at (s : ByteArray) (n : Int) (w : World) (h : strat s.data.toList = n) : Calls Tryd.prog 35 #[.string s] w fun e w' => e = .returned (.int .i64 n) ∧ w = w' := by rw [← h]; exact strat_any s w
set_option maxRecDepth 100000 in
set_option maxHeartbeats 1000000 in
theorem sawake_any (w : World) (hE : Env w) : Calls Tryd.prog 28 #[] w fun e w' => e = .returned (.bool true) ∧ Below w.heap.size w w' := by
  have HE := Lib.hid hE
  clear hE
  have HTX := Lib.hid (fun W => text_any ⟨true, ⟨#[104, 45, 103]⟩, ⟨#[97, 47, 35]⟩⟩ W (by decide) (by decide))
  have HKY := Lib.hid (fun W => key_any ⟨true, ⟨#[104, 45, 103]⟩, ⟨#[97, 47, 35]⟩⟩ W (by decide) (by decide))
  have ht : text ⟨true, ⟨#[104, 45, 103]⟩, ⟨#[97, 47, 35]⟩⟩ = ⟨#[36, 115, 104, 97, 114, 101, 47, 104, 45, 103, 47, 97, 47, 35]⟩ := by kernel_rfl
  have hk : (⟨#[104, 45, 103]⟩ : ByteArray) ++ ⟨#[47]⟩ ++ ⟨#[97, 47, 35]⟩ = ⟨#[104, 45, 103, 47, 97, 47, 35]⟩ := by kernel_rfl
  unfold Sh.val at HTX HKY
  dsimp only at HTX HKY
  rw [ht] at HTX
  rw [hk] at HKY
  clear ht hk
  go_enter Tryd.func28, Tryd.ntmps28
  go_wp2_with fail
  refine (parse_at ⟨#[36, 115, 104, 97, 114, 101, 47, 104, 45, 103, 47, 97, 47, 35]⟩ ⟨true, ⟨#[104, 45, 103]⟩, ⟨#[97, 47, 35]⟩⟩ true _ (by decide) HE.out (by kernel_rfl)).mono ?_
  rintro e w1 ⟨rfl, hb⟩
  have hb1 := alloc_below w1 (.cells #[.bool true, .string ⟨#[104, 45, 103]⟩, .string ⟨#[97, 47, 35]⟩] 31)
  have HZ := Lib.hid (heap_alloc_new w1 (.cells #[.bool true, .string ⟨#[104, 45, 103]⟩, .string ⟨#[97, 47, 35]⟩] 31))
  have HB1 := Lib.hid (hb.trans (hb1.mono hb.size))
  have hs1 : (w1.alloc (.cells #[.bool true, .string ⟨#[104, 45, 103]⟩, .string ⟨#[97, 47, 35]⟩] 31)).heap.size = w1.heap.size + 1 := by simp
  have HS1 := Lib.hid hs1
  have HE1 := Lib.hid (HE.out.below (hb.trans (hb1.mono hb.size)))
  clear hb hb1 hs1
  go_wp2_with fail
  refine (parse_at ⟨#[36, 115, 104, 97, 114, 101, 47, 103]⟩ ⟨false, ⟨#[]⟩, ⟨#[]⟩⟩ false _ (by decide) HE1.out (by kernel_rfl)).mono ?_
  rintro e w2 ⟨rfl, hb⟩
  have HCL := Lib.hid (show ∀ W, Below w2.heap.size w2 W → W.cell? ⟨w1.heap.size, 0, none⟩ = some (.bool true) ∧ W.cell? ⟨w1.heap.size, 1, none⟩ = some (.string ⟨#[104, 45, 103]⟩) ∧ W.cell? ⟨w1.heap.size, 2, none⟩ = some (.string ⟨#[97, 47, 35]⟩) by
    intro W hW
    have h1 := (hb.block w1.heap.size (by rw [HS1.out]; omega)).trans HZ.out
    have h2 := (hW.block w1.heap.size (lt_of_block h1)).trans h1
    exact ⟨cell_of h2 rfl, cell_of h2 rfl, cell_of h2 rfl⟩)
  have HB2 := Lib.hid (HB1.out.trans (hb.mono HB1.out.size))
  have hbx := alloc_below w2 (.cells #[.bool false, .string ⟨#[]⟩, .string ⟨#[]⟩] 31)
  have HBX := Lib.hid hbx
  obtain ⟨c0, c1, c2⟩ := HCL.out _ hbx
  have HB3 := Lib.hid (HB2.out.trans (hbx.mono HB2.out.size))
  clear hb hbx
  go_wp2_with fail
  refine (HTX.out _).mono ?_
  rintro e w3 ⟨rfl, hb⟩
  have HB4 := Lib.hid (HB3.out.trans (hb.mono HB3.out.size))
  obtain ⟨d0, d1, d2⟩ := HCL.out w3 (HBX.out.trans (hb.mono HBX.out.size))
  clear hb
  go_wp2_with fail
  refine (HKY.out _).mono ?_
  rintro e w4 ⟨rfl, hb⟩
  have HB5 := Lib.hid (HB4.out.trans (hb.mono HB4.out.size))
  clear hb
  go_wp2_with fail
  refine (strat_at ⟨#[104, 45, 103]⟩ 3 w4 (by kernel_rfl)).mono ?_
  rintro e w5 ⟨rfl, rfl⟩
  go_wp2_with fail
  refine (strat_at ⟨#[103]⟩ 1 _ (by kernel_rfl)).mono ?_
  rintro e w6 ⟨rfl, rfl⟩
  go_wp2_with fail
  go_ret
  exact ⟨rfl, HB5.out⟩
theorem strat_range (l : List UInt8) : 1 ≤ strat l ∧ strat l ≤ 5 := by
  unfold strat
  by_cases h1 : l.take 2 = [115, 45]
  · rw [if_pos h1]; omega
  rw [if_neg h1]
  by_cases h2 : l.take 2 = [104, 45]
  · rw [if_pos h2]; omega
  rw [if_neg h2]
  by_cases h3 : l.take 2 = [108, 45]
  · rw [if_pos h3]; omega
  rw [if_neg h3]
  by_cases h4 : l.take 2 = [120, 45]
  · rw [if_pos h4]; omega
  rw [if_neg h4]; omega
theorem strat_short {l : List UInt8} (h : l.length < 2) : strat l = 1 := by
  have key : ∀ a b : UInt8, l.take 2 ≠ [a, b] := by
    intro a b e
    have := congrArg List.length e
    rw [List.length_take] at this
    simp at this
    omega
  unfold strat
  rw [if_neg (key _ _), if_neg (key _ _), if_neg (key _ _), if_neg (key _ _)]
set_option maxRecDepth 100000 in
set_option maxHeartbeats 2000000 in
theorem strategy_law (w : World) (a b : ByteArray) (ha' : a.size ≤ 140737488351232) (hb' : b.size ≤ 140737488351232) (hE : Env w) : Calls Tryd.prog 10 #[.string a, .string b] w fun e w' => e = .returned (.bool true) ∧ Below w.heap.size w w' := by
  have HE := Lib.hid hE
  have HA := Lib.hid (sawake_any w hE)
  clear hE
  by_cases h1 : 200 < a.size
  · go_enter Tryd.func10, Tryd.ntmps10
    go_wp2_with fail
    refine HA.out.mono ?_
    rintro e w1 ⟨rfl, hb⟩
    have HB := Lib.hid hb
    clear hb
    go_wp2_with fail
    go_ret
    exact ⟨rfl, HB.out⟩
  by_cases h2 : 200 < b.size
  · go_enter Tryd.func10, Tryd.ntmps10
    go_wp2_with fail
    refine HA.out.mono ?_
    rintro e w1 ⟨rfl, hb⟩
    have HB := Lib.hid hb
    clear hb
    go_wp2_with fail
    go_ret
    exact ⟨rfl, HB.out⟩
  have HS := Lib.hid (strat_any a w)
  obtain ⟨r1, r2⟩ := strat_range a.data.toList
  by_cases h3 : a.size < 2
  · have hs1 : strat a.data.toList = 1 := strat_short (by rw [size_list]; exact h3)
    rw [hs1] at HS
    clear hs1 r1 r2
    go_enter Tryd.func10, Tryd.ntmps10
    go_wp2_with fail
    refine HS.out.mono ?_
    rintro e w1 ⟨rfl, rfl⟩
    go_wp2_with fail
    refine HA.out.mono ?_
    rintro e w2 ⟨rfl, hb⟩
    have HB := Lib.hid hb
    clear hb
    go_wp2_with fail
    go_ret
    exact ⟨rfl, HB.out⟩
  · have hx : (a.extract 0 2).data.toList = a.data.toList.take 2 := by rw [ByteArray.data_extract, Array.toList_extract, List.extract_eq_take_drop]; simp
    obtain ⟨t, ht⟩ : ∃ t, t = a.extract 0 2 := ⟨_, rfl⟩
    rw [← ht] at hx
    have he := ht.symm
    have h2' : (2 : Int) ≤ a.size := by omega
    have hts : t.size = 2 := by rw [len_size hx, List.length_take, size_list]; omega
    have hss : strat (t ++ b).data.toList = strat a.data.toList := by
      unfold strat
      have e : (t ++ b).data.toList.take 2 = a.data.toList.take 2 := by
        rw [ByteArray.data_append, Array.toList_append, hx, List.take_append_of_le_length (by rw [List.length_take, size_list]; omega), List.take_take]
        simp
      rw [e]
    have hs2 := strat_any (t ++ b) w
    rw [hss] at hs2
    have HS2 := Lib.hid hs2
    have htb : t.size + b.size ≤ 1000 := by omega
    clear hx ht hss hs2 hts
    generalize strat a.data.toList = n at *
    go_enter Tryd.func10, Tryd.ntmps10
    go_wp2_with fail
    refine HS.out.mono ?_
    rintro e w1 ⟨rfl, rfl⟩
    go_wp2_with fail
    refine HS2.out.mono ?_
    rintro e w1 ⟨rfl, rfl⟩
    go_wp2_with fail
    refine HA.out.mono ?_
    rintro e w2 ⟨rfl, hb⟩
    have HB := Lib.hid hb
    clear hb
    go_wp2_with fail
    go_ret
    exact ⟨rfl, HB.out⟩
end Go.Proofs.YtnognmnjlnokeaaDoor.TopW
set_option linter.unusedVariables false
set_option linter.unusedSimpArgs false
namespace Go.Proofs.YtnognmnjlnokeaaDoor.TopW
open Go.RowKit Go.Proofs.YtnognmnjlnokeaaDoor.Tc Go.Proofs.YtnognmnjlnokeaaDoor.TopP

theorem first_of {l : List UInt8} (h : (47 : UInt8) ∈ l) : ∃ a b, l = a ++ 47 :: b ∧ 47 ∉ a := by
  induction l with
  | nil => simp at h
  | cons c r ih =>
    by_cases hc : c = 47
    · subst hc; exact ⟨[], r, rfl, by simp⟩
    · obtain ⟨a, b, e, hn⟩ := ih (by simpa [Ne.symm hc] using h)
      exact ⟨c :: a, b, by rw [e]; rfl, by simp [Ne.symm hc, hn]⟩
theorem bs_eq (a b : ByteArray) : (a.toList == b.toList) = decide (a = b) := by
  rw [str_is, Lib.toList_data, decide_eq_decide]
  exact ⟨fun h => ByteArray.ext (Array.toList_inj.1 h), fun h => by rw [h]⟩
theorem filter_nil : isFilter [] = false := by decide
/-- What is told as shared. -/
theorem parse_shared {s : ByteArray} {g f : ByteArray} {ok : Bool} (h : parse s = (⟨true, g, f⟩, ok)) :
    ok = true ∧ isFilter s.data.toList = true ∧ isName g.data.toList = true ∧ 47 ∉ g.data.toList ∧ isFilter f.data.toList = true ∧ s = ofL root ++ (g ++ ⟨#[47]⟩ ++ f) := by
  unfold parse at h
  by_cases h1 : isFilter s.data.toList = true
  · rw [if_pos h1] at h
    by_cases h2 : Lib.hasPrefix s.data.toList root = true
    · rw [if_pos h2] at h
      by_cases h3 : (isName (part (s.data.toList.drop 7)).1 && isFilter (part (s.data.toList.drop 7)).2) = true
      · rw [if_pos h3] at h
        simp only [Prod.mk.injEq, Sh.mk.injEq, true_and] at h
        obtain ⟨⟨hg, hf⟩, rfl⟩ := h
        rw [Bool.and_eq_true] at h3
        have hp : s.data.toList = root ++ s.data.toList.drop 7 := by
          have h4 : root.isPrefixOf s.data.toList = true := h2
          rw [List.isPrefixOf_iff_prefix] at h4
          obtain ⟨r, hr⟩ := h4
          rw [← hr]
          rfl
        by_cases h5 : (47 : UInt8) ∈ s.data.toList.drop 7
        · obtain ⟨a, b, hab, ha⟩ := first_of h5
          have hc : part (s.data.toList.drop 7) = (a, b) := by unfold part; rw [hab, cut_yes b ha]
          rw [hc] at h3 hg hf
          simp only at h3 hg hf
          subst hg hf
          refine ⟨rfl, h1, h3.1, ha, h3.2, ?_⟩
          apply ByteArray.ext
          apply Array.toList_inj.1
          rw [hp, hab]
          simp [ofL]
        · have hc : part (s.data.toList.drop 7) = (s.data.toList.drop 7, []) := by unfold part; rw [cut_no h5]
          rw [hc] at h3
          simp only at h3
          rw [filter_nil] at h3
          exact absurd h3.2 (by decide)
      · rw [if_neg h3] at h
        simp [Sh.none] at h
    · rw [if_neg h2] at h
      simp at h
  · rw [if_neg h1] at h
    simp [Sh.none] at h
/-- The keys of two shared filters are the same just if they are. -/
theorem keys_same {s t g f g' f' : ByteArray} {ok is : Bool} (h : parse s = (⟨true, g, f⟩, ok)) (h' : parse t = (⟨true, g', f'⟩, is)) :
    ((g ++ ⟨#[47]⟩ ++ f).toList == (g' ++ ⟨#[47]⟩ ++ f').toList) = (s.toList == t.toList) := by
  obtain ⟨-, -, -, -, -, rfl⟩ := parse_shared h
  obtain ⟨-, -, -, -, -, rfl⟩ := parse_shared h'
  generalize g ++ ⟨#[47]⟩ ++ f = a
  generalize g' ++ ⟨#[47]⟩ ++ f' = b
  rw [bs_eq, bs_eq, decide_eq_decide]
  constructor
  · intro e; rw [e]
  · intro e
    have h1 := congrArg (fun x : ByteArray => x.data.toList) e
    simp only [ByteArray.data_append, Array.toList_append, List.append_cancel_left_eq] at h1
    apply ByteArray.ext
    exact Array.toList_inj.1 h1
theorem parse_size {s : ByteArray} {x : Sh} {ok : Bool} (h : parse s = (x, ok)) (hs : s.size ≤ 300) : x.group.size ≤ 60000 ∧ x.filter.size ≤ 60000 := by
  obtain ⟨sh, g, f⟩ := x
  cases sh with
  | true =>
    obtain ⟨-, -, -, -, -, rfl⟩ := parse_shared h
    simp only [ByteArray.size_append] at hs
    simp only
    omega
  | false =>
    have h9 := h
    unfold parse at h9
    split at h9
    · split at h9
      · split at h9
        · simp at h9
        · simp [Sh.none] at h9
          obtain ⟨⟨rfl, rfl⟩, -⟩ := h9
          exact ⟨by decide, by decide⟩
      · simp at h9
        obtain ⟨⟨rfl, rfl⟩, -⟩ := h9
        exact ⟨(by decide : (0 : Nat) ≤ 60000), by show s.size ≤ 60000; omega⟩
    · simp [Sh.none] at h9
      obtain ⟨⟨rfl, rfl⟩, -⟩ := h9
      exact ⟨by decide, by decide⟩
set_option maxRecDepth 100000 in
set_option maxHeartbeats 4000000 in
theorem keys_law (w : World) (s t : ByteArray) (hs' : s.size ≤ 140737488351232) (ht' : t.size ≤ 140737488351232) (hE : Env w) : Calls Tryd.prog 9 #[.string s, .string t] w fun e w' => e = .returned (.bool true) ∧ Below w.heap.size w w' := by
  have HE := Lib.hid hE
  clear hE
  by_cases h1 : 300 < s.size
  · go_enter Tryd.func9, Tryd.ntmps9
    go_wp2_with fail
    refine (sawake_any _ HE.out).mono ?_
    rintro e wz ⟨rfl, hbz⟩
    have HBZ := Lib.hid (hbz)
    clear hbz
    go_wp2_with fail
    go_ret
    exact ⟨rfl, HBZ.out⟩
  by_cases h2 : 300 < t.size
  · go_enter Tryd.func9, Tryd.ntmps9
    go_wp2_with fail
    refine (sawake_any _ HE.out).mono ?_
    rintro e wz ⟨rfl, hbz⟩
    have HBZ := Lib.hid (hbz)
    clear hbz
    go_wp2_with fail
    go_ret
    exact ⟨rfl, HBZ.out⟩
  obtain ⟨⟨⟨xs, xg, xf⟩, ok⟩, hx⟩ : ∃ r, parse s = r := ⟨_, rfl⟩
  obtain ⟨⟨⟨ys, yg, yf⟩, is_⟩, hy⟩ : ∃ r, parse t = r := ⟨_, rfl⟩
  cases ok with
  | false =>
    have HY := Lib.hid hy
    have HX := Lib.hid hx
    clear hx hy
    go_enter Tryd.func9, Tryd.ntmps9
    go_wp2_with fail
    refine (parse_at s ⟨xs, xg, xf⟩ false _ (by omega) HE.out HX.out).mono ?_
    rintro e w1 ⟨rfl, hb⟩
    have hb1 := alloc_below w1 (.cells #[.bool xs, .string xg, .string xf] 31)
    have HZ := Lib.hid (heap_alloc_new w1 (.cells #[.bool xs, .string xg, .string xf] 31))
    have HB1 := Lib.hid (hb.trans (hb1.mono hb.size))
    have hs1 : (w1.alloc (.cells #[.bool xs, .string xg, .string xf] 31)).heap.size = w1.heap.size + 1 := by simp
    have HS1 := Lib.hid hs1
    have HE1 := Lib.hid (HE.out.below (hb.trans (hb1.mono hb.size)))
    clear hb hb1 hs1
    go_wp2_with fail
    refine (parse_at t ⟨ys, yg, yf⟩ is_ _ (by omega) HE1.out HY.out).mono ?_
    rintro e w2 ⟨rfl, hb⟩
    have HCL := Lib.hid (show ∀ W, Below w2.heap.size w2 W → W.cell? ⟨w1.heap.size, 0, none⟩ = some (.bool xs) ∧ W.cell? ⟨w1.heap.size, 1, none⟩ = some (.string xg) ∧ W.cell? ⟨w1.heap.size, 2, none⟩ = some (.string xf) by
      intro W hW
      have h1 := (hb.block w1.heap.size (by rw [HS1.out]; omega)).trans HZ.out
      have h2 := (hW.block w1.heap.size (lt_of_block h1)).trans h1
      exact ⟨cell_of h2 rfl, cell_of h2 rfl, cell_of h2 rfl⟩)
    have HB2 := Lib.hid (HB1.out.trans (hb.mono HB1.out.size))
    have hbx := alloc_below w2 (.cells #[.bool ys, .string yg, .string yf] 31)
    have HCY := Lib.hid (show ∀ W, Below (w2.alloc (.cells #[.bool ys, .string yg, .string yf] 31)).heap.size (w2.alloc (.cells #[.bool ys, .string yg, .string yf] 31)) W → W.cell? ⟨w2.heap.size, 0, none⟩ = some (.bool ys) ∧ W.cell? ⟨w2.heap.size, 1, none⟩ = some (.string yg) ∧ W.cell? ⟨w2.heap.size, 2, none⟩ = some (.string yf) by
      intro W hW
      have h1 := heap_alloc_new w2 (.cells #[.bool ys, .string yg, .string yf] 31)
      have h2 := (hW.block w2.heap.size (lt_of_block h1)).trans h1
      exact ⟨cell_of h2 rfl, cell_of h2 rfl, cell_of h2 rfl⟩)
    obtain ⟨c0, c1, c2⟩ := HCL.out _ hbx
    obtain ⟨d0, d1, d2⟩ := HCY.out _ (Below.refl _ _)
    have HB3 := Lib.hid (HB2.out.trans (hbx.mono HB2.out.size))
    have HBX := Lib.hid hbx
    have HE3 := Lib.hid (HE.out.below HB3.out)
    clear hb hbx
    go_wp2_with fail
    refine (sawake_any _ HE3.out).mono ?_
    rintro e wz ⟨rfl, hbz⟩
    have HBZ := Lib.hid (HB3.out.trans (hbz.mono HB3.out.size))
    clear hbz
    go_wp2_with fail
    go_ret
    exact ⟨rfl, HBZ.out⟩
  | true =>
  cases is_ with
  | false =>
    have HY := Lib.hid hy
    have HX := Lib.hid hx
    clear hx hy
    go_enter Tryd.func9, Tryd.ntmps9
    go_wp2_with fail
    refine (parse_at s ⟨xs, xg, xf⟩ true _ (by omega) HE.out HX.out).mono ?_
    rintro e w1 ⟨rfl, hb⟩
    have hb1 := alloc_below w1 (.cells #[.bool xs, .string xg, .string xf] 31)
    have HZ := Lib.hid (heap_alloc_new w1 (.cells #[.bool xs, .string xg, .string xf] 31))
    have HB1 := Lib.hid (hb.trans (hb1.mono hb.size))
    have hs1 : (w1.alloc (.cells #[.bool xs, .string xg, .string xf] 31)).heap.size = w1.heap.size + 1 := by simp
    have HS1 := Lib.hid hs1
    have HE1 := Lib.hid (HE.out.below (hb.trans (hb1.mono hb.size)))
    clear hb hb1 hs1
    go_wp2_with fail
    refine (parse_at t ⟨ys, yg, yf⟩ false _ (by omega) HE1.out HY.out).mono ?_
    rintro e w2 ⟨rfl, hb⟩
    have HCL := Lib.hid (show ∀ W, Below w2.heap.size w2 W → W.cell? ⟨w1.heap.size, 0, none⟩ = some (.bool xs) ∧ W.cell? ⟨w1.heap.size, 1, none⟩ = some (.string xg) ∧ W.cell? ⟨w1.heap.size, 2, none⟩ = some (.string xf) by
      intro W hW
      have h1 := (hb.block w1.heap.size (by rw [HS1.out]; omega)).trans HZ.out
      have h2 := (hW.block w1.heap.size (lt_of_block h1)).trans h1
      exact ⟨cell_of h2 rfl, cell_of h2 rfl, cell_of h2 rfl⟩)
    have HB2 := Lib.hid (HB1.out.trans (hb.mono HB1.out.size))
    have hbx := alloc_below w2 (.cells #[.bool ys, .string yg, .string yf] 31)
    have HCY := Lib.hid (show ∀ W, Below (w2.alloc (.cells #[.bool ys, .string yg, .string yf] 31)).heap.size (w2.alloc (.cells #[.bool ys, .string yg, .string yf] 31)) W → W.cell? ⟨w2.heap.size, 0, none⟩ = some (.bool ys) ∧ W.cell? ⟨w2.heap.size, 1, none⟩ = some (.string yg) ∧ W.cell? ⟨w2.heap.size, 2, none⟩ = some (.string yf) by
      intro W hW
      have h1 := heap_alloc_new w2 (.cells #[.bool ys, .string yg, .string yf] 31)
      have h2 := (hW.block w2.heap.size (lt_of_block h1)).trans h1
      exact ⟨cell_of h2 rfl, cell_of h2 rfl, cell_of h2 rfl⟩)
    obtain ⟨c0, c1, c2⟩ := HCL.out _ hbx
    obtain ⟨d0, d1, d2⟩ := HCY.out _ (Below.refl _ _)
    have HB3 := Lib.hid (HB2.out.trans (hbx.mono HB2.out.size))
    have HBX := Lib.hid hbx
    have HE3 := Lib.hid (HE.out.below HB3.out)
    clear hb hbx
    go_wp2_with fail
    refine (sawake_any _ HE3.out).mono ?_
    rintro e wz ⟨rfl, hbz⟩
    have HBZ := Lib.hid (HB3.out.trans (hbz.mono HB3.out.size))
    clear hbz
    go_wp2_with fail
    go_ret
    exact ⟨rfl, HBZ.out⟩
  | true =>
  cases xs with
  | false =>
    have HY := Lib.hid hy
    have HX := Lib.hid hx
    clear hx hy
    go_enter Tryd.func9, Tryd.ntmps9
    go_wp2_with fail
    refine (parse_at s ⟨false, xg, xf⟩ true _ (by omega) HE.out HX.out).mono ?_
    rintro e w1 ⟨rfl, hb⟩
    have hb1 := alloc_below w1 (.cells #[.bool false, .string xg, .string xf] 31)
    have HZ := Lib.hid (heap_alloc_new w1 (.cells #[.bool false, .string xg, .string xf] 31))
    have HB1 := Lib.hid (hb.trans (hb1.mono hb.size))
    have hs1 : (w1.alloc (.cells #[.bool false, .string xg, .string xf] 31)).heap.size = w1.heap.size + 1 := by simp
    have HS1 := Lib.hid hs1
    have HE1 := Lib.hid (HE.out.below (hb.trans (hb1.mono hb.size)))
    clear hb hb1 hs1
    go_wp2_with fail
    refine (parse_at t ⟨ys, yg, yf⟩ true _ (by omega) HE1.out HY.out).mono ?_
    rintro e w2 ⟨rfl, hb⟩
    have HCL := Lib.hid (show ∀ W, Below w2.heap.size w2 W → W.cell? ⟨w1.heap.size, 0, none⟩ = some (.bool false) ∧ W.cell? ⟨w1.heap.size, 1, none⟩ = some (.string xg) ∧ W.cell? ⟨w1.heap.size, 2, none⟩ = some (.string xf) by
      intro W hW
      have h1 := (hb.block w1.heap.size (by rw [HS1.out]; omega)).trans HZ.out
      have h2 := (hW.block w1.heap.size (lt_of_block h1)).trans h1
      exact ⟨cell_of h2 rfl, cell_of h2 rfl, cell_of h2 rfl⟩)
    have HB2 := Lib.hid (HB1.out.trans (hb.mono HB1.out.size))
    have hbx := alloc_below w2 (.cells #[.bool ys, .string yg, .string yf] 31)
    have HCY := Lib.hid (show ∀ W, Below (w2.alloc (.cells #[.bool ys, .string yg, .string yf] 31)).heap.size (w2.alloc (.cells #[.bool ys, .string yg, .string yf] 31)) W → W.cell? ⟨w2.heap.size, 0, none⟩ = some (.bool ys) ∧ W.cell? ⟨w2.heap.size, 1, none⟩ = some (.string yg) ∧ W.cell? ⟨w2.heap.size, 2, none⟩ = some (.string yf) by
      intro W hW
      have h1 := heap_alloc_new w2 (.cells #[.bool ys, .string yg, .string yf] 31)
      have h2 := (hW.block w2.heap.size (lt_of_block h1)).trans h1
      exact ⟨cell_of h2 rfl, cell_of h2 rfl, cell_of h2 rfl⟩)
    obtain ⟨c0, c1, c2⟩ := HCL.out _ hbx
    obtain ⟨d0, d1, d2⟩ := HCY.out _ (Below.refl _ _)
    have HB3 := Lib.hid (HB2.out.trans (hbx.mono HB2.out.size))
    have HBX := Lib.hid hbx
    have HE3 := Lib.hid (HE.out.below HB3.out)
    clear hb hbx
    go_wp2_with fail
    refine (sawake_any _ HE3.out).mono ?_
    rintro e wz ⟨rfl, hbz⟩
    have HBZ := Lib.hid (HB3.out.trans (hbz.mono HB3.out.size))
    clear hbz
    go_wp2_with fail
    go_ret
    exact ⟨rfl, HBZ.out⟩
  | true =>
  cases ys with
  | false =>
    have HY := Lib.hid hy
    have HX := Lib.hid hx
    clear hx hy
    go_enter Tryd.func9, Tryd.ntmps9
    go_wp2_with fail
    refine (parse_at s ⟨true, xg, xf⟩ true _ (by omega) HE.out HX.out).mono ?_
    rintro e w1 ⟨rfl, hb⟩
    have hb1 := alloc_below w1 (.cells #[.bool true, .string xg, .string xf] 31)
    have HZ := Lib.hid (heap_alloc_new w1 (.cells #[.bool true, .string xg, .string xf] 31))
    have HB1 := Lib.hid (hb.trans (hb1.mono hb.size))
    have hs1 : (w1.alloc (.cells #[.bool true, .string xg, .string xf] 31)).heap.size = w1.heap.size + 1 := by simp
    have HS1 := Lib.hid hs1
    have HE1 := Lib.hid (HE.out.below (hb.trans (hb1.mono hb.size)))
    clear hb hb1 hs1
    go_wp2_with fail
    refine (parse_at t ⟨false, yg, yf⟩ true _ (by omega) HE1.out HY.out).mono ?_
    rintro e w2 ⟨rfl, hb⟩
    have HCL := Lib.hid (show ∀ W, Below w2.heap.size w2 W → W.cell? ⟨w1.heap.size, 0, none⟩ = some (.bool true) ∧ W.cell? ⟨w1.heap.size, 1, none⟩ = some (.string xg) ∧ W.cell? ⟨w1.heap.size, 2, none⟩ = some (.string xf) by
      intro W hW
      have h1 := (hb.block w1.heap.size (by rw [HS1.out]; omega)).trans HZ.out
      have h2 := (hW.block w1.heap.size (lt_of_block h1)).trans h1
      exact ⟨cell_of h2 rfl, cell_of h2 rfl, cell_of h2 rfl⟩)
    have HB2 := Lib.hid (HB1.out.trans (hb.mono HB1.out.size))
    have hbx := alloc_below w2 (.cells #[.bool false, .string yg, .string yf] 31)
    have HCY := Lib.hid (show ∀ W, Below (w2.alloc (.cells #[.bool false, .string yg, .string yf] 31)).heap.size (w2.alloc (.cells #[.bool false, .string yg, .string yf] 31)) W → W.cell? ⟨w2.heap.size, 0, none⟩ = some (.bool false) ∧ W.cell? ⟨w2.heap.size, 1, none⟩ = some (.string yg) ∧ W.cell? ⟨w2.heap.size, 2, none⟩ = some (.string yf) by
      intro W hW
      have h1 := heap_alloc_new w2 (.cells #[.bool false, .string yg, .string yf] 31)
      have h2 := (hW.block w2.heap.size (lt_of_block h1)).trans h1
      exact ⟨cell_of h2 rfl, cell_of h2 rfl, cell_of h2 rfl⟩)
    obtain ⟨c0, c1, c2⟩ := HCL.out _ hbx
    obtain ⟨d0, d1, d2⟩ := HCY.out _ (Below.refl _ _)
    have HB3 := Lib.hid (HB2.out.trans (hbx.mono HB2.out.size))
    have HBX := Lib.hid hbx
    have HE3 := Lib.hid (HE.out.below HB3.out)
    clear hb hbx
    go_wp2_with fail
    refine (sawake_any _ HE3.out).mono ?_
    rintro e wz ⟨rfl, hbz⟩
    have HBZ := Lib.hid (HB3.out.trans (hbz.mono HB3.out.size))
    clear hbz
    go_wp2_with fail
    go_ret
    exact ⟨rfl, HBZ.out⟩
  | true =>
    have hk := keys_same hx hy
    obtain ⟨xz, xz2⟩ := parse_size hx (by omega)
    obtain ⟨yz, yz2⟩ := parse_size hy (by omega)
    have HKX := Lib.hid (fun W => key_any ⟨true, xg, xf⟩ W xz xz2)
    have HKY := Lib.hid (fun W => key_any ⟨true, yg, yf⟩ W yz yz2)
    unfold Sh.val at HKX HKY
    dsimp only at HKX HKY
    clear xz xz2 yz yz2
    
    have HY := Lib.hid hy
    have HX := Lib.hid hx
    clear hx hy
    go_enter Tryd.func9, Tryd.ntmps9
    go_wp2_with fail
    refine (parse_at s ⟨true, xg, xf⟩ true _ (by omega) HE.out HX.out).mono ?_
    rintro e w1 ⟨rfl, hb⟩
    have hb1 := alloc_below w1 (.cells #[.bool true, .string xg, .string xf] 31)
    have HZ := Lib.hid (heap_alloc_new w1 (.cells #[.bool true, .string xg, .string xf] 31))
    have HB1 := Lib.hid (hb.trans (hb1.mono hb.size))
    have hs1 : (w1.alloc (.cells #[.bool true, .string xg, .string xf] 31)).heap.size = w1.heap.size + 1 := by simp
    have HS1 := Lib.hid hs1
    have HE1 := Lib.hid (HE.out.below (hb.trans (hb1.mono hb.size)))
    clear hb hb1 hs1
    go_wp2_with fail
    refine (parse_at t ⟨true, yg, yf⟩ true _ (by omega) HE1.out HY.out).mono ?_
    rintro e w2 ⟨rfl, hb⟩
    have HCL := Lib.hid (show ∀ W, Below w2.heap.size w2 W → W.cell? ⟨w1.heap.size, 0, none⟩ = some (.bool true) ∧ W.cell? ⟨w1.heap.size, 1, none⟩ = some (.string xg) ∧ W.cell? ⟨w1.heap.size, 2, none⟩ = some (.string xf) by
      intro W hW
      have h1 := (hb.block w1.heap.size (by rw [HS1.out]; omega)).trans HZ.out
      have h2 := (hW.block w1.heap.size (lt_of_block h1)).trans h1
      exact ⟨cell_of h2 rfl, cell_of h2 rfl, cell_of h2 rfl⟩)
    have HB2 := Lib.hid (HB1.out.trans (hb.mono HB1.out.size))
    have hbx := alloc_below w2 (.cells #[.bool true, .string yg, .string yf] 31)
    have HCY := Lib.hid (show ∀ W, Below (w2.alloc (.cells #[.bool true, .string yg, .string yf] 31)).heap.size (w2.alloc (.cells #[.bool true, .string yg, .string yf] 31)) W → W.cell? ⟨w2.heap.size, 0, none⟩ = some (.bool true) ∧ W.cell? ⟨w2.heap.size, 1, none⟩ = some (.string yg) ∧ W.cell? ⟨w2.heap.size, 2, none⟩ = some (.string yf) by
      intro W hW
      have h1 := heap_alloc_new w2 (.cells #[.bool true, .string yg, .string yf] 31)
      have h2 := (hW.block w2.heap.size (lt_of_block h1)).trans h1
      exact ⟨cell_of h2 rfl, cell_of h2 rfl, cell_of h2 rfl⟩)
    obtain ⟨c0, c1, c2⟩ := HCL.out _ hbx
    obtain ⟨d0, d1, d2⟩ := HCY.out _ (Below.refl _ _)
    have HB3 := Lib.hid (HB2.out.trans (hbx.mono HB2.out.size))
    have HBX := Lib.hid hbx
    have HE3 := Lib.hid (HE.out.below HB3.out)
    clear hb hbx
    generalize xg ++ ⟨#[47]⟩ ++ xf = X at *
    generalize yg ++ ⟨#[47]⟩ ++ yf = Y at *
    generalize hq : (s.toList == t.toList) = q at *
    obtain ⟨W, hW⟩ : ∃ W, W = w2.alloc (.cells #[.bool true, .string yg, .string yf] 31) := ⟨_, rfl⟩
    rw [← hW] at c0 c1 c2 d0 d1 d2 HB3 HE3
    have e0 := fun n : Wd (Gr W) => n.cell c0
    have e1 := fun n : Wd (Gr W) => n.cell c1
    have e2 := fun n : Wd (Gr W) => n.cell c2
    have g0 := fun n : Wd (Gr W) => n.cell d0
    have g1 := fun n : Wd (Gr W) => n.cell d1
    have g2 := fun n : Wd (Gr W) => n.cell d2
    have HKX2 := Lib.hid (fun n : Wd (Gr W) => HKX.out n.w)
    have HKY2 := Lib.hid (fun n : Wd (Gr W) => HKY.out n.w)
    have HAW := Lib.hid (fun n : Wd (Gr W) => sawake_any n.w (HE3.out.below n.ok))
    clear HCL HCY HBX HB2 HB1 HE HE1 HZ HS1 HKX HKY HX HY
    subst hW
    go_wp2_with fail
    clear c0 c1 c2 d0 d1 d2
    refine wp_region_cls (Gr _) (gr_drew _) (by kernel_rfl) (by kernel_rfl) ?_
    go_big_quiet_step (fail)
    repeat (go_big_quiet_step ((first | (go_at_call 33; first | exact cls_call (HKX2.out _) | exact cls_call (HKY2.out _)) | (go_at_call 28; exact cls_call (HAW.out _)))))
    refine wpQuiet_nil ?_
    rintro _ ⟨⟨wq, hqq⟩, rfl⟩
    have HQ := Lib.hid (HB3.out.trans (Below.mono hqq HB3.out.size))
    clear hqq
    go_wp2_with fail
    go_ret
    exact ⟨rfl, HQ.out⟩
end Go.Proofs.YtnognmnjlnokeaaDoor.TopW
set_option linter.unusedVariables false
set_option linter.unusedSimpArgs false
namespace Go.Proofs.YtnognmnjlnokeaaDoor.TopW
open Go.RowKit Go.Proofs.YtnognmnjlnokeaaDoor.Tc Go.Proofs.YtnognmnjlnokeaaDoor.TopP Go.Proofs.YtnognmnjlnokeaaDoorW.PrintWords

/-- What is told, and not as shared. -/
theorem parse_plain {s : ByteArray} {g f : ByteArray} (h : parse s = (⟨false, g, f⟩, true)) : isFilter s.data.toList = true ∧ g = ⟨#[]⟩ ∧ f = s := by
  unfold parse at h
  split at h
  · split at h
    · split at h
      · simp at h
      · simp at h
    · simp only [Prod.mk.injEq, Sh.mk.injEq, true_and, and_true] at h
      exact ⟨by assumption, h.1.symm, h.2.symm⟩
  · simp at h
theorem parse_no {s : ByteArray} {x : Sh} (h : parse s = (x, false)) : x = ⟨false, ⟨#[]⟩, ⟨#[]⟩⟩ := by
  unfold parse at h
  split at h
  · split at h
    · split at h
      · simp at h
      · simp only [Prod.mk.injEq, and_true] at h; exact h.symm
    · simp at h
  · simp only [Prod.mk.injEq, and_true] at h; exact h.symm
set_option maxRecDepth 100000 in
set_option maxHeartbeats 4000000 in
theorem back_law (w : World) (s : ByteArray) (hs' : s.size ≤ 140737488351232) (hE : Env w) : Calls Tryd.prog 8 #[.string s] w fun e w' => e = .returned (.bool true) ∧ Below w.heap.size w w' := by
  have HE := Lib.hid hE
  clear hE
  by_cases h1 : 300 < s.size
  · go_enter Tryd.func8, Tryd.ntmps8
    go_wp2_with fail
    refine (sawake_any _ HE.out).mono ?_
    rintro e wz ⟨rfl, hbz⟩
    have HBZ := Lib.hid hbz
    clear hbz
    go_wp2_with fail
    go_ret
    exact ⟨rfl, HBZ.out⟩
  obtain ⟨⟨⟨sh, g, f⟩, ok⟩, hx⟩ : ∃ r, parse s = r := ⟨_, rfl⟩
  have HP := Lib.hid (parse_at s _ _ w (by omega) HE.out hx)
  cases ok with
  | false =>
    obtain ⟨rfl, rfl, rfl⟩ : sh = false ∧ g = ⟨#[]⟩ ∧ f = ⟨#[]⟩ := by
      have := parse_no hx
      simpa using this
    clear hx
    obtain ⟨g, hg⟩ : ∃ g : ByteArray, g = ⟨#[]⟩ := ⟨_, rfl⟩
    go_enter Tryd.func8, Tryd.ntmps8
    go_wp2_with fail
    refine HP.out.mono ?_
    rintro e w1 ⟨rfl, hb⟩
    have hb1 := alloc_below w1 (.cells #[.bool false, .string ⟨#[]⟩, .string ⟨#[]⟩] 31)
    have HZ := Lib.hid (show ∀ W, Below (w1.alloc (.cells #[.bool false, .string ⟨#[]⟩, .string ⟨#[]⟩] 31)).heap.size (w1.alloc (.cells #[.bool false, .string ⟨#[]⟩, .string ⟨#[]⟩] 31)) W → W.cell? ⟨w1.heap.size, 0, none⟩ = some (.bool false) ∧ W.cell? ⟨w1.heap.size, 1, none⟩ = some (.string ⟨#[]⟩) ∧ W.cell? ⟨w1.heap.size, 2, none⟩ = some (.string ⟨#[]⟩) by
      intro W hW
      have h1 := heap_alloc_new w1 (.cells #[.bool false, .string ⟨#[]⟩, .string ⟨#[]⟩] 31)
      have h2 := (hW.block w1.heap.size (lt_of_block h1)).trans h1
      exact ⟨cell_of h2 rfl, cell_of h2 rfl, cell_of h2 rfl⟩)
    have HB1 := Lib.hid (hb.trans (hb1.mono hb.size))
    have HE1 := Lib.hid (HE.out.below (hb.trans (hb1.mono hb.size)))
    obtain ⟨c0, c1, c2⟩ := HZ.out _ (Below.refl _ _)
    clear hb hb1
    go_wp2_with fail
    refine (sawake_any _ HE1.out).mono ?_
    rintro e wz ⟨rfl, hbz⟩
    have HBZ := Lib.hid (HB1.out.trans (hbz.mono HB1.out.size))
    clear hbz
    go_wp2_with fail
    go_ret
    exact ⟨rfl, HBZ.out⟩
  | true =>
    have hz := parse_size hx (by omega)
    have HRF := Lib.hid (fun W (h : isFilter f.data.toList = true) => by
      have := PTopicMatch.towncrierref16_IsFilter.calls 300000 f _ W (filter_r f (by have := hz.2; omega) 300000 (by have := hz.2; omega))
      rw [h] at this
      exact this)
    have HTX := Lib.hid (fun W => text_any ⟨sh, g, f⟩ W hz.1 hz.2)
    unfold Sh.val at HTX
    dsimp only at HTX
    have HZZ := Lib.hid hz
    clear hz
    cases sh with
    | false =>
      obtain ⟨hf, rfl, rfl⟩ := parse_plain hx
      have HF := Lib.hid (fun W => HRF.out W hf)
      have ht : text ⟨false, ⟨#[]⟩, f⟩ = f := rfl
      rw [ht] at HTX
      have hq : (f.toList != f.toList) = false := by simp
      clear hf hx ht HRF
      go_enter Tryd.func8, Tryd.ntmps8
      go_wp2_with fail
      refine HP.out.mono ?_
      rintro e w1 ⟨rfl, hb⟩
      have hb1 := alloc_below w1 (.cells #[.bool false, .string ⟨#[]⟩, .string f] 31)
      have HZ := Lib.hid (show ∀ W, Below (w1.alloc (.cells #[.bool false, .string ⟨#[]⟩, .string f] 31)).heap.size (w1.alloc (.cells #[.bool false, .string ⟨#[]⟩, .string f] 31)) W → W.cell? ⟨w1.heap.size, 0, none⟩ = some (.bool false) ∧ W.cell? ⟨w1.heap.size, 1, none⟩ = some (.string ⟨#[]⟩) ∧ W.cell? ⟨w1.heap.size, 2, none⟩ = some (.string f) by
        intro W hW
        have h1 := heap_alloc_new w1 (.cells #[.bool false, .string ⟨#[]⟩, .string f] 31)
        have h2 := (hW.block w1.heap.size (lt_of_block h1)).trans h1
        exact ⟨cell_of h2 rfl, cell_of h2 rfl, cell_of h2 rfl⟩)
      have HB1 := Lib.hid (hb.trans (hb1.mono hb.size))
      have HE1 := Lib.hid (HE.out.below (hb.trans (hb1.mono hb.size)))
      obtain ⟨c0, c1, c2⟩ := HZ.out _ (Below.refl _ _)
      clear hb hb1
      go_wp2_with fail
      
      refine (HTX.out _).mono ?_
      rintro e w2 ⟨rfl, hb⟩
      have HB2 := Lib.hid (HB1.out.trans (hb.mono HB1.out.size))
      obtain ⟨d0, d1, d2⟩ := HZ.out _ hb
      have HC2 := Lib.hid hb
      clear hb c0 c1 c2
      go_wp2_with fail
      refine (HF.out _).mono ?_
      rintro e w3 ⟨rfl, hb⟩
      have HB3 := Lib.hid (HB2.out.trans (hb.mono HB2.out.size))
      obtain ⟨e0, e1, e2⟩ := HZ.out _ (HC2.out.trans (hb.mono HC2.out.size))
      clear hb d0 d1 d2
      go_wp2_with fail
      have HE3 := Lib.hid (HE.out.below HB3.out)
      refine (sawake_any _ HE3.out).mono ?_
      rintro e wz ⟨rfl, hbz⟩
      have HBZ := Lib.hid (HB3.out.trans (hbz.mono HB3.out.size))
      clear hbz
      go_wp2_with fail
      go_ret
      exact ⟨rfl, HBZ.out⟩
    | true =>
      obtain ⟨-, -, hn, hns, hf, hs⟩ := parse_shared hx
      have HF := Lib.hid (fun W => HRF.out W hf)
      have ht : text ⟨true, g, f⟩ = s := by rw [hs]; rfl
      rw [ht] at HTX
      have hq : (s.toList != s.toList) = false := by simp
      have hgz := HZZ.out.1
      simp only at hgz
      obtain ⟨M, hM, hMR⟩ := levels_f g (by omega) 300000 (by omega)
      have hml : M.length = 1 := by rw [lvr_len hMR, lv_no hns]; rfl
      have HRL := Lib.hid (fun W => PTopicMatch.towncrierref16_Levels.calls 300000 g M W hM)
      have hge : (g.toList == ([] : List UInt8)) = false := by
        rw [str_is]
        apply decide_eq_false
        intro e
        rw [e] at hn
        exact absurd hn (by decide)
      have HSS := Lib.hid hs
      clear hf hx ht HRF hn hns hM hMR hgz hs
      go_enter Tryd.func8, Tryd.ntmps8
      go_wp2_with fail
      refine HP.out.mono ?_
      rintro e w1 ⟨rfl, hb⟩
      have hb1 := alloc_below w1 (.cells #[.bool true, .string g, .string f] 31)
      have HZ := Lib.hid (show ∀ W, Below (w1.alloc (.cells #[.bool true, .string g, .string f] 31)).heap.size (w1.alloc (.cells #[.bool true, .string g, .string f] 31)) W → W.cell? ⟨w1.heap.size, 0, none⟩ = some (.bool true) ∧ W.cell? ⟨w1.heap.size, 1, none⟩ = some (.string g) ∧ W.cell? ⟨w1.heap.size, 2, none⟩ = some (.string f) by
        intro W hW
        have h1 := heap_alloc_new w1 (.cells #[.bool true, .string g, .string f] 31)
        have h2 := (hW.block w1.heap.size (lt_of_block h1)).trans h1
        exact ⟨cell_of h2 rfl, cell_of h2 rfl, cell_of h2 rfl⟩)
      have HB1 := Lib.hid (hb.trans (hb1.mono hb.size))
      have HE1 := Lib.hid (HE.out.below (hb.trans (hb1.mono hb.size)))
      obtain ⟨c0, c1, c2⟩ := HZ.out _ (Below.refl _ _)
      clear hb hb1
      go_wp2_with fail
      
      refine (HTX.out _).mono ?_
      rintro e w2 ⟨rfl, hb⟩
      have HB2 := Lib.hid (HB1.out.trans (hb.mono HB1.out.size))
      obtain ⟨d0, d1, d2⟩ := HZ.out _ hb
      have HC2 := Lib.hid hb
      clear hb c0 c1 c2
      go_wp2_with fail
      refine (HF.out _).mono ?_
      rintro e w3 ⟨rfl, hb⟩
      have HB3 := Lib.hid (HB2.out.trans (hb.mono HB2.out.size))
      obtain ⟨e0, e1, e2⟩ := HZ.out _ (HC2.out.trans (hb.mono HC2.out.size))
      clear hb d0 d1 d2
      go_wp2_with fail
      refine (HRL.out _).mono ?_
      rintro e w4 ⟨v, rfl, hR, hb⟩
      obtain ⟨A, c, rfl, -, hC⟩ := Kd.R_reads hR
      have HB4 := Lib.hid (HB3.out.trans (hb.mono HB3.out.size))
      have HE4 := Lib.hid (HE.out.below (HB3.out.trans (hb.mono HB3.out.size)))
      clear hR hC hb
      go_wp2_with fail
      refine (sawake_any _ HE4.out).mono ?_
      rintro e wz ⟨rfl, hbz⟩
      have HBZ := Lib.hid (HB4.out.trans (hbz.mono HB4.out.size))
      clear hbz
      go_wp2_with fail
      go_ret
      exact ⟨rfl, HBZ.out⟩
end Go.Proofs.YtnognmnjlnokeaaDoor.TopW
