/- Plain facts on names of topics: no walk. -/
import Derived.Test.YthhjlepldgplcaaTopicB
namespace Go.Proofs.Ythhjlepldgplcaa
open Go.RowKit

theorem bt_out {s : ByteArray} {k : Nat} (h : s.size ≤ k) : bt s k = 0 := by unfold bt; rw [dif_neg (by omega)]
theorem bt_ext {s t : ByteArray} (h : s.size = t.size) (hb : ∀ j, j < s.size → bt s j = bt t j) : s = t := by
  apply ByteArray.ext
  apply Array.ext
  · exact h
  · intro i h1 h2
    have h1' : i < s.size := h1
    have h2' : i < t.size := h2
    have := hb i h1'
    rw [← bt_get h1', ← bt_get h2'] at this
    have e : (s[i]'h1').toNat = (t[i]'h2').toNat := by omega
    exact UInt8.toNat_inj.1 e
theorem bt_append_left {a b : ByteArray} {j : Nat} (h : j < a.size) : bt (a ++ b) j = bt a j := by
  have h2 : j < (a ++ b).size := by simp; omega
  rw [← bt_get h2, ← bt_get h, ByteArray.getElem_append_left h]
theorem bt_append_right {a b : ByteArray} {j : Nat} (h : a.size ≤ j) : bt (a ++ b) j = bt b (j - a.size) := by
  by_cases hj : j - a.size < b.size
  · have h2 : j < (a ++ b).size := by simp; omega
    rw [← bt_get h2, ← bt_get hj, ByteArray.getElem_append_right h]
  · rw [bt_out (by simp; omega), bt_out (by omega)]
theorem bt_extract1 (s : ByteArray) (j : Nat) : bt (s.extract 1 s.size) j = bt s (j + 1) := by
  by_cases h : j < (s.extract 1 s.size).size
  · rw [← bt_get h, get_extract1 s j h]
  · rw [bt_out (by omega), bt_out (by simp at h; omega)]

theorem formedB_congr {s t : ByteArray} (h : s.size = t.size) (hb : ∀ j, 1 ≤ j → j < s.size → bt s j = bt t j) : formedB s = formedB t := by
  have ht : tailB s 1 = tailB t 1 := by
    rw [Bool.eq_iff_iff, tailB_iff, tailB_iff]
    constructor
    · intro g j a b; rw [← hb j a (by omega)]; exact g j a (by omega)
    · intro g j a b; rw [hb j a (by omega)]; exact g j a (by omega)
  by_cases h1 : 2 ≤ s.size
  · have : bt s (s.size - 1) = bt t (t.size - 1) := by rw [hb _ (by omega) (by omega), h]
    unfold formedB; rw [ht, this, h]
  · rw [formedB_short s (by omega), formedB_short t (by omega)]

theorem kindC_range (c : Int) : 0 ≤ kindC c ∧ kindC c ≤ 5 := by
  unfold kindC; repeat' split
  all_goals omega
theorem kindB_range (s : ByteArray) : 0 ≤ kindB s ∧ kindB s ≤ 5 := by
  unfold kindB; split
  · exact kindC_range _
  · omega
theorem letterC_kindC {c : Int} (h : kindC c ≠ 0) : letterC (kindC c) = c := by
  unfold kindC at h ⊢
  repeat' split
  all_goals first | (subst_vars; decide) | (simp_all)
theorem kindC_letterC {k : Int} (h1 : 1 ≤ k) (h2 : k < 6) : kindC (letterC k) = k := kindC_hit h1 h2 rfl
theorem letterC_pos {k : Int} (h1 : 1 ≤ k) (h2 : k < 6) : letterC k ≠ 0 := by
  have : k = 1 ∨ k = 2 ∨ k = 3 ∨ k = 4 ∨ k = 5 := by omega
  rcases this with rfl | rfl | rfl | rfl | rfl <;> decide
theorem letterS_bt {k : Int} (h1 : 1 ≤ k) (h2 : k < 6) : (letterS k).size = 1 ∧ bt (letterS k) 0 = letterC k := by
  have : k = 1 ∨ k = 2 ∨ k = 3 ∨ k = 4 ∨ k = 5 := by omega
  rcases this with rfl | rfl | rfl | rfl | rfl <;> exact ⟨by decide, by decide⟩

theorem kindB_pos {s : ByteArray} (h : kindB s ≠ 0) : formedB s = true ∧ kindB s = kindC (bt s 0) := by
  unfold kindB at *
  cases e : formedB s with
  | true => simp
  | false => rw [e] at h; exact absurd rfl h

/-- Another letter before the rest of a name: a name of that kind. -/
theorem kindB_other {s : ByteArray} {k : Int} (h : formedB s = true) (h1 : 1 ≤ k) (h2 : k < 6) :
    kindB (letterS k ++ s.extract 1 s.size) = k ∧ (letterS k ++ s.extract 1 s.size).size = s.size ∧ ∀ j, 1 ≤ j → bt (letterS k ++ s.extract 1 s.size) j = bt s j := by
  obtain ⟨hs, hb⟩ := letterS_bt h1 h2
  have hz := formedB_size h
  have hsz : (letterS k ++ s.extract 1 s.size).size = s.size := by simp [hs]; omega
  have hbt : ∀ j, 1 ≤ j → bt (letterS k ++ s.extract 1 s.size) j = bt s j := by
    intro j hj
    rw [bt_append_right (by omega), bt_extract1, hs]; congr 1; omega
  have h0 : bt (letterS k ++ s.extract 1 s.size) 0 = letterC k := by rw [bt_append_left (by omega), hb]
  refine ⟨?_, hsz, hbt⟩
  unfold kindB
  rw [formedB_congr hsz (fun j a _ => hbt j a), h, if_pos rfl, h0, kindC_letterC h1 h2]

theorem name_self {s : ByteArray} (h : kindB s ≠ 0) : letterS (kindB s) ++ s.extract 1 s.size = s := by
  obtain ⟨hf, hk⟩ := kindB_pos h
  have hr := kindB_range s
  have h1 : 1 ≤ kindB s := by omega
  obtain ⟨h3, h4, h5⟩ := kindB_other (k := kindB s) hf h1 (by omega)
  obtain ⟨hs, hb⟩ := letterS_bt (k := kindB s) h1 (by omega)
  refine bt_ext h4 fun j hj => ?_
  by_cases e : j = 0
  · subst e
    rw [bt_append_left (by omega), hb]
    rw [hk] at h ⊢
    exact letterC_kindC h
  · exact h5 j (by omega)
theorem nameS_self {s : ByteArray} (h : kindB s ≠ 0) : nameS (kindB s) (s.extract 1 s.size) = s := by
  unfold nameS; rw [name_self h]; simp [h]
theorem nameE_self {s : ByteArray} (h : kindB s ≠ 0) : nameE (kindB s) (s.extract 1 s.size) = 0 := by
  unfold nameE; rw [name_self h]; simp [h]
theorem name_in {s : ByteArray} {k : Int} (h : kindB s ≠ 0) (h1 : 1 ≤ k) (h2 : k < 6) :
    nameS k (s.extract 1 s.size) = letterS k ++ s.extract 1 s.size ∧ nameE k (s.extract 1 s.size) = 0 := by
  obtain ⟨h3, _, _⟩ := kindB_other (k := k) (kindB_pos h).1 h1 h2
  unfold nameS nameE
  rw [h3]
  have : ¬ (k = 0 ∨ k ≠ k) := by omega
  rw [if_neg this, if_neg this]; exact ⟨rfl, rfl⟩
theorem name_out {r : ByteArray} {k : Int} (h : ¬ (1 ≤ k ∧ k < 6)) : nameS k r = ⟨#[]⟩ ∧ nameE k r = 9 := by
  have : kindB (letterS k ++ r) = 0 ∨ kindB (letterS k ++ r) ≠ k := by
    have := kindB_range (letterS k ++ r); omega
  unfold nameS nameE
  rw [if_pos this, if_pos this]; exact ⟨rfl, rfl⟩
theorem name_same {s : ByteArray} {k : Int} (h : kindB s ≠ 0) (h1 : 1 ≤ k) (h2 : k < 6) : letterS k ++ s.extract 1 s.size = s ↔ k = kindB s := by
  constructor
  · intro e
    have := (kindB_other (k := k) (kindB_pos h).1 h1 h2).1
    rw [e] at this; exact this.symm
  · rintro rfl; exact name_self h

/-- A text of which one byte is another one. -/
def setB (s : ByteArray) (i : Nat) (c : Int) : ByteArray := strOfNums ((List.range s.size).map fun j => if j = i then c else bt s j)
theorem setB_size (s : ByteArray) (i : Nat) (c : Int) : (setB s i c).size = s.size := by unfold setB; rw [strOfNums_size]; simp
theorem setB_bt {s : ByteArray} {i : Nat} {c : Int} (h0 : 0 ≤ c) (h1 : c ≤ 255) {j : Nat} (hj : j < s.size) : bt (setB s i c) j = if j = i then c else bt s j := by
  have hz : j < (setB s i c).size := by rw [setB_size]; exact hj
  have hr : 0 ≤ (if j = i then c else bt s j) ∧ (if j = i then c else bt s j) ≤ 255 := by
    split
    · omega
    · exact ⟨bt_nonneg _ _, bt_le _ _⟩
  rw [← bt_get hz]
  have e : (setB s i c)[j]'hz = UInt8.ofNat (if j = i then c else bt s j).toNat := by
    show (setB s i c).data[j] = _
    unfold setB strOfNums
    simp
  rw [e]
  generalize (if j = i then c else bt s j) = x at *
  have : (UInt8.ofNat x.toNat).toNat = x.toNat % 256 := UInt8.toNat_ofNat'
  omega

theorem kindC_first (c : Int) : kindC c ≠ 0 ↔ c = 99 ∨ c = 115 ∨ c = 108 ∨ c = 109 ∨ c = 114 := by
  unfold kindC
  repeat' split
  all_goals omega
theorem checkB_zero (s : ByteArray) : (checkB s == 0) = decide (kindB s ≠ 0) := by
  unfold checkB; by_cases h : kindB s = 0 <;> simp [h]

theorem set_first {s : ByteArray} {c : Int} (h : kindB s ≠ 0) (h0 : 0 ≤ c) (h1 : c ≤ 255) : kindB (setB s 0 c) ≠ 0 ↔ c = 99 ∨ c = 115 ∨ c = 108 ∨ c = 109 ∨ c = 114 := by
  obtain ⟨hf, _⟩ := kindB_pos h
  have hz := formedB_size hf
  have hf' : formedB (setB s 0 c) = true := by
    rw [formedB_congr (t := s) (setB_size s 0 c) (fun j a b => ?_)]
    · exact hf
    · rw [setB_size] at b; rw [setB_bt h0 h1 b, if_neg (by omega)]
  unfold kindB; rw [hf', if_pos rfl, setB_bt h0 h1 (by omega), if_pos rfl]
  exact kindC_first c
theorem set_later {s : ByteArray} {c : Int} {i : Nat} (h : kindB s ≠ 0) (h0 : 0 ≤ c) (h1 : c ≤ 255) (hi : 0 < i) (hi2 : i < s.size) :
    kindB (setB s i c) ≠ 0 ↔ smallC c = true ∧ (i = s.size - 1 → c ≠ 45) := by
  obtain ⟨hf, hk⟩ := kindB_pos h
  have hz := formedB_size hf
  have hb0 : bt (setB s i c) 0 = bt s 0 := by rw [setB_bt h0 h1 (by omega), if_neg (by omega)]
  have hkc : kindC (bt s 0) ≠ 0 := by rw [← hk]; exact h
  have hl : bt s (s.size - 1) ≠ 45 := by
    intro g; rw [formedB_last s g] at hf; cases hf
  have ht : tailB s 1 = true := by rw [← formedB_tail s hz.1 hz.2 hl]; exact hf
  have key : formedB (setB s i c) = true ↔ smallC c = true ∧ (i = s.size - 1 → c ≠ 45) := by
    unfold formedB
    simp only [setB_size, Bool.and_eq_true, decide_eq_true_eq, bne_iff_ne]
    rw [setB_bt h0 h1 (by omega), tailB_iff]
    simp only [setB_size]
    constructor
    · rintro ⟨⟨_, a⟩, b⟩
      refine ⟨?_, fun e => ?_⟩
      · have := b i hi hi2; rwa [setB_bt h0 h1 hi2, if_pos rfl] at this
      · rw [if_pos e.symm] at a; exact a
    · rintro ⟨a, b⟩
      refine ⟨⟨hz, ?_⟩, fun j g1 g2 => ?_⟩
      · split
        · rename_i e; exact b e.symm
        · exact hl
      · rw [setB_bt h0 h1 g2]
        split
        · exact a
        · exact (tailB_iff s 1).1 ht j g1 g2
  rw [← key]
  unfold kindB
  rw [hb0]
  cases formedB (setB s i c) with
  | true => simp [hkc]
  | false => simp
theorem smallC_set (c : Int) (b : Bool) : (decide (97 ≤ c) && decide (c ≤ 122) || decide (48 ≤ c) && decide (c ≤ 57) || (c == 45) && b) = true ↔ smallC c = true ∧ (b = false → c ≠ 45) := by
  rw [smallC_cases]
  cases b <;> simp <;> omega

end Go.Proofs.Ythhjlepldgplcaa
