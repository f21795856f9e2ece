/- Walks of the three laws of layer 5 (topic): each answers true, whatever comes in. -/
import Derived.Test.YthhjlepldgplcaaTopicP
namespace Go.Proofs.Ythhjlepldgplcaa
open Go.RowKit

set_option maxHeartbeats 1000000 in
theorem plays5_any (s : ByteArray) (k : Int) (rest : ByteArray) (w : World) (hk1 : -9223372036854775808 ≤ k) (hk2 : k ≤ 9223372036854775807) (hs : s.size ≤ 9223372036854775807) (hr : rest.size ≤ 9223372036854775806) :
    Calls Try.prog 4 #[.string s, .int .i64 k, .string rest] w fun e w' => e = .returned (.bool true) ∧ Below w.heap.size w w' := by
  go_enter Try.func4, Try.ntmps4
  go_wp2_with fail
  refine (name_any _ _ _ hr).mono ?_; rintro e w1 ⟨rfl, hb1⟩
  go_wp2_with fail
  refine (rname_any _ _ _ hk1 hk2 hr).mono ?_; rintro e w2 ⟨rfl, hb2⟩
  go_wp2_with fail
  refine (kind_any _ _ hs).mono ?_; rintro e w3 ⟨rfl, hb3⟩
  go_wp2_with fail
  refine (rkind_any _ _ hs).mono ?_; rintro e w4 ⟨rfl, hb4⟩
  go_wp2_with fail
  refine (check_any _ _ hs).mono ?_; rintro e w5 ⟨rfl, hb5⟩
  go_wp2_with fail
  refine (rcheck_any _ _ hs).mono ?_; rintro e w6 ⟨rfl, hb6⟩
  go_wp2_with fail
  refine (letterT_any _ _).mono ?_; rintro e w7 ⟨rfl, hb7⟩
  go_wp2_with fail
  refine (rletter_any _ _ hk1 hk2).mono ?_; rintro e w8 ⟨rfl, hb8⟩
  go_wp2_with fail
  refine (awake5_any _).mono ?_; rintro e w9 ⟨rfl, hb9⟩
  go_wp2_with fail
  go_ret
  exact ⟨rfl, bel2 hb1 (bel2 hb2 (bel2 hb3 (bel2 hb4 (bel2 hb5 (bel2 hb6 (bel2 hb7 (bel2 hb8 hb9)))))))⟩

set_option maxHeartbeats 1000000 in
theorem back5_none (s : ByteArray) (k : Int) (w : World) (hs : s.size ≤ 9223372036854775807) (h : kindB s = 0) :
    Calls Try.prog 5 #[.string s, .int .i64 k] w fun e w' => e = .returned (.bool true) ∧ Below w.heap.size w w' := by
  have h0 : (kindB s == 0) = true := by rw [beq_iff_eq]; exact h
  have h1 : (checkB s == 9) = true := by unfold checkB; rw [if_pos h]; rfl
  clear h
  go_enter Try.func5, Try.ntmps5
  go_wp2_with fail
  refine (kind_any _ _ hs).mono ?_; rintro e w1 ⟨rfl, hb1⟩
  go_wp2_with fail
  refine (check_any _ _ hs).mono ?_; rintro e w2 ⟨rfl, hb2⟩
  go_wp2_with fail
  refine (awake5_any _).mono ?_; rintro e w3 ⟨rfl, hb3⟩
  go_wp2_with fail
  go_ret
  exact ⟨rfl, bel2 hb1 (bel2 hb2 hb3)⟩

set_option maxHeartbeats 1000000 in
theorem back5_in (s : ByteArray) (k : Int) (w : World) (h : kindB s ≠ 0) (hk1 : 1 ≤ k) (hk2 : k < 6) :
    Calls Try.prog 5 #[.string s, .int .i64 k] w fun e w' => e = .returned (.bool true) ∧ Below w.heap.size w w' := by
  have hz := formedB_size (kindB_pos h).1
  have hs : s.size ≤ 9223372036854775807 := by omega
  have hx : (s.extract 1 s.size).size ≤ 9223372036854775806 := by simp; omega
  have h0 : (kindB s == 0) = false := by rw [beq_eq_false_iff_ne]; exact h
  have hc : (checkB s != 0) = false := by unfold checkB; rw [if_neg h]; rfl
  have n1 := Lib.hid (nameS_self h)
  have n2 := Lib.hid (nameE_self h)
  obtain ⟨m1', m2'⟩ := name_in h hk1 hk2
  have m1 := Lib.hid m1'
  have m2 := Lib.hid m2'
  obtain ⟨c1', c2', _⟩ := kindB_other (k := k) (kindB_pos h).1 hk1 hk2
  have c1 : (kindB (letterS k ++ s.extract 1 s.size) == k) = true := by rw [beq_iff_eq]; exact c1'
  have c2 : (letterS k ++ s.extract 1 s.size).size ≤ 9223372036854775807 := by rw [c2']; exact hs
  have sm := Lib.hid (name_same h hk1 hk2)
  clear c1' c2' m1' m2'
  have h' := Lib.hid h; clear h
  have hf : ((letterS k ++ s.extract 1 s.size).toList == s.toList) = (k == kindB s) := by rw [Bool.eq_iff_iff, beq_iff_eq, beq_iff_eq, toList_inj]; exact sm.out
  go_enter Try.func5, Try.ntmps5
  go_wp2_with fail
  refine (kind_any _ _ hs).mono ?_; rintro e w1 ⟨rfl, hb1⟩
  go_wp2_with fail
  refine (name_any _ _ _ hx).mono ?_; rw [n1.out, n2.out]; rintro e w2 ⟨rfl, hb2⟩
  go_wp2_with fail
  refine (name_any _ _ _ hx).mono ?_; rw [m1.out, m2.out]; rintro e w3 ⟨rfl, hb3⟩
  go_wp2_with fail
  refine (check_any _ _ hs).mono ?_; rintro e w4 ⟨rfl, hb4⟩
  go_wp2_with fail
  refine (kind_any _ _ c2).mono ?_; rintro e w5 ⟨rfl, hb5⟩
  go_wp2_with fail
  refine (awake5_any _).mono ?_; rintro e w6 ⟨rfl, hb6⟩
  go_wp2_with fail
  go_ret
  exact ⟨rfl, bel2 hb1 (bel2 hb2 (bel2 hb3 (bel2 hb4 (bel2 hb5 hb6))))⟩

set_option maxHeartbeats 1000000 in
theorem back5_out (s : ByteArray) (k : Int) (w : World) (h : kindB s ≠ 0) (hk : ¬ (1 ≤ k ∧ k < 6)) :
    Calls Try.prog 5 #[.string s, .int .i64 k] w fun e w' => e = .returned (.bool true) ∧ Below w.heap.size w w' := by
  have hz := formedB_size (kindB_pos h).1
  have hs : s.size ≤ 9223372036854775807 := by omega
  have hx : (s.extract 1 s.size).size ≤ 9223372036854775806 := by simp; omega
  have h0 : (kindB s == 0) = false := by rw [beq_eq_false_iff_ne]; exact h
  have hc : (checkB s != 0) = false := by unfold checkB; rw [if_neg h]; rfl
  have n1 := Lib.hid (nameS_self h)
  have n2 := Lib.hid (nameE_self h)
  obtain ⟨m1', m2'⟩ := name_out (r := s.extract 1 s.size) hk
  have m1 := Lib.hid m1'
  have m2 := Lib.hid m2'
  clear m1' m2' h
  have hk' : 5 < k ∨ k < 1 := by omega
  clear hk
  have hq : 5 < k → decide (k ≤ 5) = false := fun g => by simp; omega
  rcases hk' with hk' | hk'
  all_goals
    first | have hq1 := hq hk' | skip
    clear hq
    go_enter Try.func5, Try.ntmps5
    go_wp2_with fail
    refine (kind_any _ _ hs).mono ?_; rintro e w1 ⟨rfl, hb1⟩
    go_wp2_with fail
    refine (name_any _ _ _ hx).mono ?_; rw [n1.out, n2.out]; rintro e w2 ⟨rfl, hb2⟩
    go_wp2_with fail
    refine (name_any _ _ _ hx).mono ?_; rw [m1.out, m2.out]; rintro e w3 ⟨rfl, hb3⟩
    go_wp2_with fail
    refine (check_any _ _ hs).mono ?_; rintro e w4 ⟨rfl, hb4⟩
    go_wp2_with fail
    refine (awake5_any _).mono ?_; rintro e w6 ⟨rfl, hb6⟩
    go_wp2_with fail
    go_ret
    exact ⟨rfl, bel2 hb1 (bel2 hb2 (bel2 hb3 (bel2 hb4 hb6)))⟩

set_option maxHeartbeats 400000 in
theorem bytes5_none (s : ByteArray) (a c : Int) (w : World) (hs : s.size ≤ 9223372036854775807) (h : kindB s = 0) :
    Calls Try.prog 3 #[.string s, .int .u8 a, .int .u8 c] w fun e w' => e = .returned (.bool true) ∧ Below w.heap.size w w' := by
  have h0 : (kindB s == 0) = true := by rw [beq_iff_eq]; exact h
  clear h
  go_enter Try.func3, Try.ntmps3
  go_wp2_with fail
  refine (kind_any _ _ hs).mono ?_; rintro e w1 ⟨rfl, hb1⟩
  go_wp2_with fail
  refine (awake5_any _).mono ?_; rintro e w3 ⟨rfl, hb3⟩
  go_wp2_with fail
  go_ret
  exact ⟨rfl, bel2 hb1 hb3⟩

theorem below_bytes (w : World) (e : TypeId) (s : ByteArray) : Below w.heap.size w (Lib.bytesWorld w e s) :=
  ⟨rfl, rfl, rfl, by rw [Lib.bytesWorld_size]; omega, fun k hk => Lib.bytesWorld_at_old w e s k hk⟩

theorem bytes_cells (w : World) (e : TypeId) (s : ByteArray) (i : Nat) (c : Int) (hi : i < s.size) (j : Nat) (hj : j < s.size) :
    ((Lib.bytesWorld w e s).setCell ⟨w.heap.size, i, none⟩ (.int .u8 c)).cell? ⟨w.heap.size, 0 + j, none⟩ = some (.int .u8 (((List.range s.size).map fun j => if j = i then c else bt s j).getD j 0)) := by
  rw [Nat.zero_add]
  have hg : ∀ k, k < s.size → (Lib.bytesWorld w e s).cell? ⟨w.heap.size, k, none⟩ = some (.int .u8 (bt s k)) := fun k hk => by
    rw [Lib.bytesWorld_cell w e s k hk, ← bt_get hk]
    congr 3
    have : s.data.toList.getD k 0 = s[k]'hk := by
      simp [List.getD, hk]; rfl
    rw [this]
  by_cases e1 : j = i
  · subst e1
    rw [World.cell?_setCell_same _ _ _ (hg j hj)]
    simp [hj]
  · rw [World.cell?_setCell_other _ _ _ _ (fun g => e1 (by injection g with _ g; exact g.symm)), hg j hj]
    simp [hj, e1]
theorem bytes_frozen (w : World) (e : TypeId) (s : ByteArray) (i : Nat) (hi : i < s.size) : (Lib.bytesWorld w e s).frozen? ⟨w.heap.size, i, none⟩ = false := by
  unfold World.frozen?
  rw [Lib.bytesWorld_at_new]
  simp [Lib.bytesCells]
  omega
theorem bytes_held (w : World) (e : TypeId) (s : ByteArray) (i : Nat) (hi : i < s.size) : (Lib.bytesWorld w e s).cell? ⟨w.heap.size, i, none⟩ = some (.int .u8 (s.data.toList.getD i 0).toNat) := Lib.bytesWorld_cell w e s i hi

def small9 (s : ByteArray) (i : Nat) (c : Int) : Bool := decide (smallC c = true ∧ (i = s.size - 1 → c ≠ 45))
def first10 (c : Int) : Bool := decide (c = 99 ∨ c = 115 ∨ c = 108 ∨ c = 109 ∨ c = 114)
/-- What the law wants of the byte that is put in. -/
def want11 (s : ByteArray) (i : Nat) (c : Int) : Bool := if i = 0 then first10 c else small9 s i c
theorem want11_is {s : ByteArray} {i : Nat} {c : Int} (h : kindB s ≠ 0) (h0 : 0 ≤ c) (h1 : c ≤ 255) (hi : i < s.size) : ((checkB (setB s i c) == 0) == want11 s i c) = true := by
  rw [checkB_zero, beq_iff_eq, Bool.eq_iff_iff]
  unfold want11
  by_cases e : i = 0
  · subst e
    rw [if_pos rfl]
    unfold first10
    simp only [decide_eq_true_eq]
    exact set_first h h0 h1
  · rw [if_neg e]
    unfold small9
    simp only [decide_eq_true_eq]
    exact set_later h h0 h1 (by omega) hi
theorem eq_bool {a b : Bool} (h : a = true ↔ b = true) : Value.bool a = Value.bool b := by
  rw [Bool.eq_iff_iff.2 h]

set_option maxRecDepth 100000 in
set_option maxHeartbeats 1600000 in
theorem bytes5_some (s : ByteArray) (a c : Int) (w : World) (h : kindB s ≠ 0) (ha1 : 0 ≤ a) (ha2 : a ≤ 255) (hc1 : 0 ≤ c) (hc2 : c ≤ 255) :
    Calls Try.prog 3 #[.string s, .int .u8 a, .int .u8 c] w fun e w' => e = .returned (.bool true) ∧ Below w.heap.size w w' := by
  have hz := formedB_size (kindB_pos h).1
  have hs : s.size ≤ 9223372036854775807 := by omega
  have h0 : (kindB s == 0) = false := by rw [beq_eq_false_iff_ne]; exact h
  have H := Lib.hid h; clear h
  have hz0 : ((s.size : Int) == 0) = false := by rw [beq_eq_false_iff_ne]; omega
  have hi1 : 0 ≤ a % (s.size : Int) := Int.emod_nonneg _ (by omega)
  have hi2 : a % (s.size : Int) < s.size := Int.emod_lt_of_pos _ (by omega)
  obtain ⟨i, hi⟩ := Int.eq_ofNat_of_zero_le hi1
  have hi3 : i < s.size := by omega
  have hi4 := Lib.hid hi
  have hi5 : a.tmod (s.size : Int) = i := by rw [Int.tmod_eq_emod_of_nonneg ha1]; exact hi
  clear hi
  go_enter Try.func3, Try.ntmps3
  go_wp2_with fail
  refine (kind_any _ _ hs).mono ?_; rintro e w1 ⟨rfl, hb1⟩
  have hcv := Lib.run_convert_string_bytes (P := Try.prog) w1 9 24 5 s Try.underlying9 Try.underlying24 Try.underlying5
  have f1 := bytes_held w1 5 s i hi3
  have f2 := bytes_frozen w1 5 s i hi3
  go_upto_region 3 with fail
  go_cut [7] (fun s7 wx => s7 = .int .i64 i ∧ wx = w1)
  case first =>
    go_wp2_with fail
    go_meet
    exact ⟨by simp [hi5], rfl⟩
  case rest =>
  obtain ⟨rfl, rfl⟩ := hcut
  clear hi5 hi1 hi2
  obtain ⟨b45, h45⟩ : ∃ b : Bool, (c == 45) = b := ⟨_, rfl⟩
  obtain ⟨b99, h99⟩ : ∃ b : Bool, (c == 99) = b := ⟨_, rfl⟩
  obtain ⟨b115, h115⟩ : ∃ b : Bool, (c == 115) = b := ⟨_, rfl⟩
  obtain ⟨b108, h108⟩ : ∃ b : Bool, (c == 108) = b := ⟨_, rfl⟩
  obtain ⟨b109, h109⟩ : ∃ b : Bool, (c == 109) = b := ⟨_, rfl⟩
  obtain ⟨b114, h114⟩ : ∃ b : Bool, (c == 114) = b := ⟨_, rfl⟩
  obtain ⟨b0, hb0⟩ : ∃ b : Bool, ((i : Int) == 0) = b := ⟨_, rfl⟩
  have e45 : b45 = true ↔ c = 45 := by rw [← h45, beq_iff_eq]
  have e99 : b99 = true ↔ c = 99 := by rw [← h99, beq_iff_eq]
  have e115 : b115 = true ↔ c = 115 := by rw [← h115, beq_iff_eq]
  have e108 : b108 = true ↔ c = 108 := by rw [← h108, beq_iff_eq]
  have e109 : b109 = true ↔ c = 109 := by rw [← h109, beq_iff_eq]
  have e114 : b114 = true ↔ c = 114 := by rw [← h114, beq_iff_eq]
  have e0 : b0 = true ↔ i = 0 := by rw [← hb0, beq_iff_eq]; omega
  have E45 := Lib.hid e45
  have E0 := Lib.hid e0
  have EF : Hid (first10 c = (b99 || b115 || b108 || b109 || b114)) := by
    show first10 c = _
    unfold first10
    rw [Bool.eq_iff_iff]
    simp only [Bool.or_eq_true, decide_eq_true_eq, e99, e115, e108, e109, e114]
    simp only [or_assoc]
  clear e45 e99 e115 e108 e109 e114 e0
  have ES := Lib.hid (smallC_cases c)
  go_upto_region 6 with fail
  go_cut [9] (fun s9 wx => s9 = .bool (small9 s i c) ∧ wx = (Lib.bytesWorld wc 5 s).setCell ⟨wc.heap.size, i, none⟩ (.int .u8 c))
  case first =>
    go_wp2_with fail
    all_goals go_meet
    all_goals
      refine ⟨?_, rfl⟩
      refine eq_bool ?_
      unfold small9
      have E1 := ES.out
      have E2 := E45.out
      simp only [decide_eq_true_eq, E1, ← E2]
      first | (simp_all; done) | (simp_all; omega)
  case rest =>
  obtain ⟨rfl, rfl⟩ := hcut
  go_upto_region 7 with fail
  go_cut [10] (fun s10 wx => s10 = .bool (first10 c) ∧ wx = (Lib.bytesWorld wc 5 s).setCell ⟨wc.heap.size, i, none⟩ (.int .u8 c))
  case first =>
    go_wp2_with fail
    all_goals go_meet
    all_goals
      refine ⟨?_, rfl⟩
      rw [EF.out]
      simp [*]
  case rest =>
  obtain ⟨rfl, rfl⟩ := hcut
  go_upto_region 8 with fail
  go_cut [9, 10, 11] (fun _ _ s11 wx => s11 = .bool (want11 s i c) ∧ wx = (Lib.bytesWorld wc 5 s).setCell ⟨wc.heap.size, i, none⟩ (.int .u8 c))
  case first =>
    go_wp2_with fail
    all_goals go_meet
    all_goals
      refine ⟨?_, rfl⟩
      unfold want11
      have E2 := E0.out
      by_cases hi0 : i = 0
      · first | (simp_all; done) | (exfalso; simp_all; done) | (exfalso; simp_all; omega)
      · first | (simp_all; done) | (exfalso; simp_all; done) | (exfalso; simp_all; omega)
  case rest =>
  obtain ⟨rfl, rfl⟩ := hcut
  have hcv2 := run_convert_bytes_arg (P := Try.prog) ((Lib.bytesWorld wc 5 s).setCell ⟨wc.heap.size, i, none⟩ (.int .u8 c)) 24 5 Try.underlying24 Try.underlying5 wc.heap.size 0 s.size (grownCap wc s.size 0 5) ((List.range s.size).map fun j => if j = i then c else bt s j) (by simp)
    (fun j hj => bytes_cells wc 5 s i c hi3 j hj)
  have eB : strOfNums (List.map (fun j => if j = i then c else bt s j) (List.range s.size)) = setB s i c := rfl
  simp only [eB] at hcv2
  clear eB hcv h45 h99 h115 h108 h109 h114 hb0
  have hsz' : (setB s i c).size ≤ 9223372036854775807 := by rw [setB_size]; exact hs
  have hw := want11_is H.out hc1 hc2 hi3
  go_wp2_with fail
  refine (check_any _ _ hsz').mono ?_; rintro e w2 ⟨rfl, hb2⟩
  go_wp2_with fail
  refine (awake5_any _).mono ?_; rintro e w3 ⟨rfl, hb3⟩
  go_wp2_with fail
  go_ret
  have hbw := below_bytes wc 5 s
  refine ⟨rfl, bel2 hb1 (bel2 (w1 := (Lib.bytesWorld wc 5 s).setCell ⟨wc.heap.size, i, none⟩ (.int .u8 c)) (hbw.setCell (p := ⟨wc.heap.size, i, none⟩) (Nat.le_refl _) _) (bel2 hb2 hb3))⟩

theorem bytes5_any (s : ByteArray) (a c : Int) (w : World) (hs : s.size ≤ 9223372036854775807) (ha1 : 0 ≤ a) (ha2 : a ≤ 255) (hc1 : 0 ≤ c) (hc2 : c ≤ 255) :
    Calls Try.prog 3 #[.string s, .int .u8 a, .int .u8 c] w fun e w' => e = .returned (.bool true) ∧ Below w.heap.size w w' := by
  by_cases h : kindB s = 0
  · exact bytes5_none s a c w hs h
  · exact bytes5_some s a c w h ha1 ha2 hc1 hc2
theorem back5_any (s : ByteArray) (k : Int) (w : World) (hs : s.size ≤ 9223372036854775807) :
    Calls Try.prog 5 #[.string s, .int .i64 k] w fun e w' => e = .returned (.bool true) ∧ Below w.heap.size w w' := by
  by_cases h : kindB s = 0
  · exact back5_none s k w hs h
  · by_cases h1 : 1 ≤ k ∧ k < 6
    · exact back5_in s k w h h1.1 h1.2
    · exact back5_out s k w h h1

end Go.Proofs.Ythhjlepldgplcaa
