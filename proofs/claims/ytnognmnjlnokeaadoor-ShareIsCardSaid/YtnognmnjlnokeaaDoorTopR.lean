/- The document's names and filters: what the printed functions answer. -/
import Derived.Test.YtnognmnjlnokeaaDoorPTopicMatchx6
import Derived.Test.YtnognmnjlnokeaaDoorTopQ
import Derived.Test.YtnognmnjlnokeaaDoorTopM
set_option linter.unusedVariables false
set_option linter.unusedSimpArgs false
namespace Go.Proofs.YtnognmnjlnokeaaDoor.TopW
open Go.RowKit Go.Proofs.YtnognmnjlnokeaaDoor.Tc Go.Proofs.YtnognmnjlnokeaaDoor.TopP Go.Proofs.YtnognmnjlnokeaaDoor.PTopicMatch Go.Proofs.YtnognmnjlnokeaaDoorW.PrintWords

theorem bt_get (s : ByteArray) (i : Nat) (h : i < s.data.toList.length) : bt s (i : Int) = (s.data.toList[i].toNat : Int) := by
  unfold bt
  have h' : (i : Int).toNat < s.size := by simpa using h
  rw [dif_pos h']
  rfl
theorem w64 {n : Int} (h : -9000000000000000000 ≤ n ∧ n ≤ 9000000000000000000) : wrap64 n = n := by unfold wrap64; omega
theorem num_one (s : ByteArray) (k : Nat) {c : UInt8} {r : List UInt8} (hl : s.data.toList = c :: r) : towncrierref03_number.f k s 1 = some (c.toNat : Int) := by
  have hs : s.size = r.length + 1 := by have := congrArg List.length hl; simpa using this
  have hb := bt_get s 0 (by rw [hl]; simp)
  simp only [hl, List.getElem_cons_zero] at hb
  have hc := c.toNat_lt
  unfold towncrierref03_number.f
  rw [if_pos rfl, if_pos (by omega)]
  rw [show bt s 0 = _ from hb, w64 (by omega)]
theorem l0_step (s : ByteArray) (k : Nat) (m x : Int) (i : Nat) (hm : (i : Int) < m) (hi : i < s.data.toList.length) (hx : -100000000 ≤ x ∧ x ≤ 100000000) (hi2 : i < 100) :
    towncrierref03_number.l0 (k + 1) s m x i = towncrierref03_number.l0 k s m (x * 64 + s.data.toList[i].toNat - 128) ((i + 1 : Nat) : Int) := by
  have hb := bt_get s i hi
  have hs : (i : Int) < s.size := by have : s.data.toList.length = s.size := by simp
                                     omega
  have hc := s.data.toList[i].toNat_lt
  simp only [towncrierref03_number.l0]
  rw [if_pos hm, if_pos hs, if_pos (by omega), hb, w64 (n := 64 * x) (by omega), w64 (n := (s.data.toList[i].toNat : Int)) (by omega), w64 (n := 64 * x + _) (by omega), w64 (n := 64 * x + _ - 128) (by omega), w64 (n := (i : Int) + 1) (by omega)]
  congr 1
  omega
theorem l0_end (s : ByteArray) (k : Nat) (m x : Int) (i : Nat) (hm : ¬ (i : Int) < m) : towncrierref03_number.l0 (k + 1) s m x i = some x := by
  simp only [towncrierref03_number.l0]
  rw [if_neg hm]
theorem num_two (s : ByteArray) (k : Nat) {c b : UInt8} {r : List UInt8} (hl : s.data.toList = c :: b :: r) : towncrierref03_number.f (k + 4) s 2 = some (((c.toNat : Int) - 192) * 64 + b.toNat - 128) := by
  have hs : s.size = r.length + 2 := by have := congrArg List.length hl; simpa using this
  have hb0 := bt_get s 0 (by rw [hl]; simp)
  simp only [hl, List.getElem_cons_zero] at hb0
  have hc := c.toNat_lt
  have hb := b.toNat_lt
  unfold towncrierref03_number.f
  rw [if_neg (by decide), if_pos rfl, if_pos (by omega)]
  rw [show bt s 0 = _ from hb0, w64 (n := (c.toNat : Int)) (by omega), w64 (n := (c.toNat : Int) - 192) (by omega)]
  simp only [towncrierref03_number.j0]
  have h1 := l0_step s (k + 2) 2 ((c.toNat : Int) - 192) 1 (by omega) (by rw [hl]; simp) (by omega) (by omega)
  simp only [hl, List.getElem_cons_succ, List.getElem_cons_zero] at h1
  rw [show ((1 : Nat) : Int) = 1 from rfl] at h1
  rw [show k + 3 = k + 2 + 1 from rfl, h1, l0_end s (k + 1) 2 _ (1 + 1) (by omega)]
theorem num_three (s : ByteArray) (k : Nat) {c b d : UInt8} {r : List UInt8} (hl : s.data.toList = c :: b :: d :: r) : towncrierref03_number.f (k + 5) s 3 = some ((((c.toNat : Int) - 224) * 64 + b.toNat - 128) * 64 + d.toNat - 128) := by
  have hs : s.size = r.length + 3 := by have := congrArg List.length hl; simpa using this
  have hb0 := bt_get s 0 (by rw [hl]; simp)
  simp only [hl, List.getElem_cons_zero] at hb0
  have hc := c.toNat_lt
  have hb := b.toNat_lt
  have hd := d.toNat_lt
  unfold towncrierref03_number.f
  rw [if_neg (by decide), if_neg (by decide), if_pos rfl, if_pos (by omega)]
  rw [show bt s 0 = _ from hb0, w64 (n := (c.toNat : Int)) (by omega), w64 (n := (c.toNat : Int) - 224) (by omega)]
  simp only [towncrierref03_number.j0]
  have h1 := l0_step s (k + 3) 3 ((c.toNat : Int) - 224) 1 (by omega) (by rw [hl]; simp) (by omega) (by omega)
  have h2 := l0_step s (k + 2) 3 (((c.toNat : Int) - 224) * 64 + b.toNat - 128) 2 (by omega) (by rw [hl]; simp) (by omega) (by omega)
  simp only [hl, List.getElem_cons_succ, List.getElem_cons_zero] at h1 h2
  rw [show ((1 : Nat) : Int) = 1 from rfl] at h1
  rw [show k + 4 = k + 3 + 1 from rfl, h1, show k + 3 = k + 2 + 1 from rfl, h2, l0_end s (k + 1) 3 _ (2 + 1) (by omega)]
theorem num_four (s : ByteArray) (k : Nat) {c b d e : UInt8} {r : List UInt8} (hl : s.data.toList = c :: b :: d :: e :: r) : towncrierref03_number.f (k + 6) s 4 = some (((((c.toNat : Int) - 240) * 64 + b.toNat - 128) * 64 + d.toNat - 128) * 64 + e.toNat - 128) := by
  have hs : s.size = r.length + 4 := by have := congrArg List.length hl; simpa using this
  have hb0 := bt_get s 0 (by rw [hl]; simp)
  simp only [hl, List.getElem_cons_zero] at hb0
  have hc := c.toNat_lt
  have hb := b.toNat_lt
  have hd := d.toNat_lt
  have he := e.toNat_lt
  unfold towncrierref03_number.f
  rw [if_neg (by decide), if_neg (by decide), if_neg (by decide), if_pos rfl, if_pos (by omega)]
  rw [show bt s 0 = _ from hb0, w64 (n := (c.toNat : Int)) (by omega), w64 (n := (c.toNat : Int) - 240) (by omega)]
  simp only [towncrierref03_number.j0]
  have h1 := l0_step s (k + 4) 4 ((c.toNat : Int) - 240) 1 (by omega) (by rw [hl]; simp) (by omega) (by omega)
  have h2 := l0_step s (k + 3) 4 (((c.toNat : Int) - 240) * 64 + b.toNat - 128) 2 (by omega) (by rw [hl]; simp) (by omega) (by omega)
  have h3 := l0_step s (k + 2) 4 ((((c.toNat : Int) - 240) * 64 + b.toNat - 128) * 64 + d.toNat - 128) 3 (by omega) (by rw [hl]; simp) (by omega) (by omega)
  simp only [hl, List.getElem_cons_succ, List.getElem_cons_zero] at h1 h2 h3
  rw [show ((1 : Nat) : Int) = 1 from rfl] at h1
  rw [show k + 5 = k + 4 + 1 from rfl, h1, show k + 4 = k + 3 + 1 from rfl, h2, show k + 3 = k + 2 + 1 from rfl, h3, l0_end s (k + 1) 4 _ (3 + 1) (by omega)]
theorem bytes_enc (n : Int) (k : Nat) (hn : -100000000 ≤ n ∧ n ≤ 100000000) : ∃ t, towncrierref03_Bytes.f (k + 2) n = some t ∧ t.toList = (enc n).map fun n => UInt8.ofNat n.toNat := by
  have key : ∀ b : Bool, (b = true ↔ (n < 1 ∨ 1114111 < n ∨ (55296 ≤ n ∧ n ≤ 57343))) → ∃ t, towncrierref03_Bytes.j0 (k + 2) n b = some t ∧ t.toList = (enc n).map fun n => UInt8.ofNat n.toNat := by
    intro b hb
    simp only [towncrierref03_Bytes.j0]
    unfold enc
    by_cases h0 : n < 1 ∨ 1114111 < n ∨ (55296 ≤ n ∧ n ≤ 57343)
    · rw [if_pos (hb.2 h0), if_pos h0]; exact ⟨_, rfl, by rw [ByteArray.toList_eq]; rfl⟩
    rw [if_neg (fun h => h0 (hb.1 h)), if_neg h0]
    by_cases h1 : n < 128
    · rw [if_pos h1, if_pos h1]
      refine ⟨_, rfl, ?_⟩
      rw [ByteArray.toList_eq, strOfNums_data, show n % 256 = n by omega]
    rw [if_neg h1, if_neg h1]
    have d1 : Int.tdiv n 64 = n / 64 := Int.tdiv_eq_ediv_of_nonneg (by omega)
    have d2 : Int.tdiv n 4096 = n / 4096 := Int.tdiv_eq_ediv_of_nonneg (by omega)
    have d3 : Int.tdiv n 262144 = n / 262144 := Int.tdiv_eq_ediv_of_nonneg (by omega)
    have m1 : Int.tmod n 64 = n % 64 := Int.tmod_eq_emod_of_nonneg (by omega)
    have m2 : Int.tmod (n / 64) 64 = n / 64 % 64 := Int.tmod_eq_emod_of_nonneg (by omega)
    have m3 : Int.tmod (n / 4096) 64 = n / 4096 % 64 := Int.tmod_eq_emod_of_nonneg (by omega)
    rw [d1, d2, d3, w64 (n := n / 64) (by omega), w64 (n := n / 4096) (by omega), w64 (n := n / 262144) (by omega), m1, m2, m3]
    by_cases h2 : n < 2048
    · rw [if_pos h2, if_pos h2]
      refine ⟨_, rfl, ?_⟩
      rw [ByteArray.toList_eq, strOfNums_data, w64 (by omega), w64 (by omega), show (192 + n / 64) % 256 = 192 + n / 64 by omega, show (128 + n % 64) % 256 = 128 + n % 64 by omega]
    rw [if_neg h2, if_neg h2]
    by_cases h3 : n < 65536
    · rw [if_pos h3, if_pos h3]
      refine ⟨_, rfl, ?_⟩
      rw [ByteArray.toList_eq, strOfNums_data, w64 (by omega), w64 (by omega), w64 (by omega), show (224 + n / 4096) % 256 = 224 + n / 4096 by omega, show (128 + n / 64 % 64) % 256 = 128 + n / 64 % 64 by omega, show (128 + n % 64) % 256 = 128 + n % 64 by omega]
    rw [if_neg h3, if_neg h3]
    refine ⟨_, rfl, ?_⟩
    rw [ByteArray.toList_eq, strOfNums_data, w64 (by omega), w64 (by omega), w64 (by omega), w64 (by omega), show (240 + n / 262144) % 256 = 240 + n / 262144 by omega, show (128 + n / 4096 % 64) % 256 = 128 + n / 4096 % 64 by omega, show (128 + n / 64 % 64) % 256 = 128 + n / 64 % 64 by omega, show (128 + n % 64) % 256 = 128 + n % 64 by omega]
  unfold towncrierref03_Bytes.f
  by_cases a1 : n < 1
  · rw [if_pos a1]; exact key true (by simp [a1])
  rw [if_neg a1]
  by_cases a2 : n > 1114111
  · rw [if_pos a2]; exact key true (by simp; omega)
  rw [if_neg a2]
  by_cases a3 : n ≥ 55296
  · rw [if_pos a3]; exact key _ (by simp; omega)
  · rw [if_neg a3]; exact key false (by simp; omega)
theorem first_end (s : ByteArray) (k m : Nat) (h : ¬ (m ≤ 4 ∧ m ≤ s.size)) : towncrierref03_First.l0 (k + 2) s (m : Int) = some 0 := by
  simp only [towncrierref03_First.l0]
  by_cases h4 : (m : Int) ≤ 4
  · rw [if_pos h4]
    simp only [towncrierref03_First.j1]
    rw [if_neg (by rw [decide_eq_true_iff]; omega)]
  · rw [if_neg h4]
    simp only [towncrierref03_First.j1]
    rw [if_neg (by decide)]
theorem first_step (s : ByteArray) (k m : Nat) (h1 : 1 ≤ m) (h4 : m ≤ 4) (hs : m ≤ s.size) (v : Int) (hv : -100000000 ≤ v ∧ v ≤ 100000000) (hn : towncrierref03_number.f (k + 6) s (m : Int) = some v) :
    (enc v = (s.data.toList.take m).map (fun c => (c.toNat : Int)) → towncrierref03_First.l0 (k + 8) s (m : Int) = some (m : Int)) ∧ (¬ enc v = (s.data.toList.take m).map (fun c => (c.toNat : Int)) → towncrierref03_First.l0 (k + 8) s (m : Int) = towncrierref03_First.l0 (k + 6) s ((m + 1 : Nat) : Int)) := by
  obtain ⟨t, ht, htl⟩ := bytes_enc v (k + 4) hv
  have hx : (s.extract 0 (m : Int).toNat).toList = s.data.toList.take m := by
    rw [ByteArray.toList_eq, ByteArray.data_extract, Array.toList_extract, List.extract_eq_take_drop]
    simp
  have hne : s.data.toList.take m ≠ [] := by
    intro e
    have := congrArg List.length e
    rw [List.length_take, show s.data.toList.length = s.size by simp, List.length_nil] at this
    omega
  have key : t.toList = s.data.toList.take m ↔ enc v = (s.data.toList.take m).map fun c => (c.toNat : Int) := by rw [htl]; exact map_nums (enc_range v) _
  have hw : wrap64 ((m : Int) + 1) = ((m + 1 : Nat) : Int) := by rw [w64 (by omega)]; omega
  have e1 : ∀ (K : Nat) (x : Int), towncrierref03_First.l0 (K + 1) s x = if x ≤ 4 then towncrierref03_First.j1 K s x (decide (x ≤ (s.size : Int))) else towncrierref03_First.j1 K s x false := fun K x => by simp only [towncrierref03_First.l0]
  have e2 : ∀ (K : Nat) (x : Int), towncrierref03_First.j1 (K + 1) s x true = (towncrierref03_number.f K s x).bind fun t125 => ((towncrierref03_Bytes.f K t125).bind fun t126 => (if t126.toList = ([] : List UInt8) then (towncrierref03_First.l0 K s (wrap64 (x + 1))) else (if 0 ≤ x then (if x ≤ (s.size : Int) then (if t126.toList = (s.extract 0 (x : Int).toNat).toList then (some x) else (towncrierref03_First.l0 K s (wrap64 (x + 1)))) else (none)) else (none)))) := fun K x => by simp only [towncrierref03_First.j1, if_true]
  rw [show k + 8 = k + 6 + 1 + 1 from rfl, e1, if_pos (by omega), show decide ((m : Int) ≤ (s.size : Int)) = true by rw [decide_eq_true_iff]; omega, e2, hn]
  simp only [Option.bind_some]
  rw [show k + 6 = k + 4 + 2 from rfl, ht]
  simp only [Option.bind_some]
  rw [hw]
  constructor
  · intro he
    have ht2 := key.2 he
    rw [if_neg (by rw [ht2]; exact hne), if_pos (by omega), if_pos (by omega), if_pos (by rw [ht2, hx])]
  · intro he
    have ht2 : ¬ t.toList = s.data.toList.take m := fun h => he (key.1 h)
    by_cases he0 : t.toList = []
    · rw [if_pos he0]
    · rw [if_neg he0, if_pos (by omega), if_pos (by omega), if_neg (by rw [hx]; exact ht2)]
theorem first_r (s : ByteArray) (k : Nat) (hs : s.data.toList ≠ []) : towncrierref03_First.f (k + 20) s = some ((ulen s.data.toList : Nat) : Int) := by
  have hsz : s.data.toList.length = s.size := by simp
  have key : ∀ (m : Nat) (P : Prop) (K : Nat) (v : Int), 1 ≤ m → m ≤ 4 → m ≤ s.size → (-100000000 ≤ v ∧ v ≤ 100000000) → towncrierref03_number.f (K + 6) s (m : Int) = some v → (enc v = (s.data.toList.take m).map (fun c => (c.toNat : Int)) ↔ P) →
      (P → towncrierref03_First.l0 (K + 8) s (m : Int) = some (m : Int)) ∧ (¬ P → towncrierref03_First.l0 (K + 8) s (m : Int) = towncrierref03_First.l0 (K + 6) s ((m + 1 : Nat) : Int)) := by
    intro m P K v h1 h4 hs hv hn hP
    have := first_step s K m h1 h4 hs v hv hn
    exact ⟨fun h => this.1 (hP.2 h), fun h => this.2 (fun e => h (hP.1 e))⟩
  unfold towncrierref03_First.f
  match hl : s.data.toList, hs with
  | c :: r, _ =>
    have hc := c.toNat_lt
    have hc' : (0 : Int) ≤ c.toNat ∧ (c.toNat : Int) < 256 := by omega
    rw [hl, List.length_cons] at hsz
    have k1 := key 1 (P1 c.toNat) (k + 12) c.toNat (by omega) (by omega) (by omega) (by omega) (num_one s _ hl) (by rw [hl]; simpa using enc1 hc')
    rw [show ((1 : Nat) : Int) = 1 from rfl] at k1
    by_cases p1 : P1 c.toNat
    · rw [ulen_one r p1]; exact k1.1 p1
    rw [show k + 20 = k + 12 + 8 from rfl, k1.2 p1]
    match r, hl, hsz with
    | [], hl, hsz =>
      rw [ulen_short p1]
      exact first_end s (k + 16) 2 (by simp at hsz; omega)
    | b :: r, hl, hsz =>
      have hb := b.toNat_lt
      have hb' : (0 : Int) ≤ b.toNat ∧ (b.toNat : Int) < 256 := by omega
      rw [List.length_cons] at hsz
      have k2 := key 2 (P2 c.toNat b.toNat) (k + 10) _ (by omega) (by omega) (by omega) (by omega) (num_two s (k + 12) hl) (by rw [hl]; simpa using enc2 hc' hb')
      have u2 := ulen_two (b := b) r p1
      by_cases p2 : P2 c.toNat b.toNat
      · rw [u2.1 p2]; exact k2.1 p2
      rw [show k + 12 + 6 = k + 10 + 8 from rfl, show 1 + 1 = 2 from rfl, k2.2 p2]
      match r, hl, hsz with
      | [], hl, hsz =>
        rw [u2.2 p2 (.inl rfl)]
        exact first_end s (k + 14) 3 (by simp at hsz; omega)
      | d :: r, hl, hsz =>
        have hd := d.toNat_lt
        have hd' : (0 : Int) ≤ d.toNat ∧ (d.toNat : Int) < 256 := by omega
        rw [List.length_cons] at hsz
        have k3 := key 3 (P3 c.toNat b.toNat d.toNat) (k + 8) _ (by omega) (by omega) (by omega) (by omega) (num_three s (k + 9) hl) (by rw [hl]; simpa using enc3 hc' hb' hd')
        have u3 := ulen_three (d := d) r p1 p2
        by_cases p3 : P3 c.toNat b.toNat d.toNat
        · rw [u3.1 p3]; exact k3.1 p3
        rw [show k + 10 + 6 = k + 8 + 8 from rfl, show 2 + 1 = 3 from rfl, k3.2 p3]
        match r, hl, hsz with
        | [], hl, hsz =>
          rw [u3.2 p3 (.inl rfl)]
          exact first_end s (k + 12) 4 (by simp at hsz; omega)
        | e :: r, hl, hsz =>
          have he := e.toNat_lt
          have he' : (0 : Int) ≤ e.toNat ∧ (e.toNat : Int) < 256 := by omega
          rw [List.length_cons] at hsz
          have k4 := key 4 (P4 c.toNat b.toNat d.toNat e.toNat) (k + 6) _ (by omega) (by omega) (by omega) (by omega) (num_four s (k + 6) hl) (by rw [hl]; simpa using enc4 hc' hb' hd' he')
          have u4 := ulen_four (e := e) r p1 p2 p3
          by_cases p4 : P4 c.toNat b.toNat d.toNat e.toNat
          · rw [u4.1 p4]; exact k4.1 p4
          rw [show k + 8 + 6 = k + 6 + 8 from rfl, show 3 + 1 = 4 from rfl, k4.2 p4, u4.2 p4]
          exact first_end s (k + 10) 5 (by omega)
end Go.Proofs.YtnognmnjlnokeaaDoor.TopW
