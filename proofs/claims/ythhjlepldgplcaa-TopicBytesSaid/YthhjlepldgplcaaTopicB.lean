/- Walks of the reference of layer 5 (topic): each answers what the program's own function answers. -/
import Derived.Test.YthhjlepldgplcaaTopicA
namespace Go.Proofs.Ythhjlepldgplcaa
open Go.RowKit

def lettersS : ByteArray := ⟨#[63, 99, 115, 108, 109, 114]⟩

set_option maxHeartbeats 400000 in
theorem letters_any (w : World) :
    Calls Try.prog 17 #[] w fun e w' => e = .returned (.string lettersS) ∧ w = w' := by
  go_enter Try.func17, Try.ntmps17
  go_wp2_with fail
  go_ret
  exact ⟨rfl, rfl⟩

theorem lettersS_at {k : Nat} (h1 : 1 ≤ k) (h2 : k < 6) : ∃ h : k < lettersS.size, ((lettersS[k]'h).toNat : Int) = letterC k := by
  have : k = 1 ∨ k = 2 ∨ k = 3 ∨ k = 4 ∨ k = 5 := by omega
  rcases this with rfl | rfl | rfl | rfl | rfl <;> exact ⟨by decide, by decide⟩

theorem smallC_cases (c : Int) : smallC c = true ↔ (97 ≤ c ∧ c ≤ 122) ∨ (48 ≤ c ∧ c ≤ 57) ∨ c = 45 := by
  unfold smallC; simp; omega

set_option maxHeartbeats 400000 in
theorem rkind_short (s : ByteArray) (w : World) (hs : s.size ≤ 9223372036854775807) (h : ¬ (2 ≤ s.size ∧ s.size ≤ 12)) :
    Calls Try.prog 11 #[.string s] w fun e w' => e = .returned (.int .i64 (kindB s)) ∧ Below w.heap.size w w' := by
  have H : Hid (kindB s = 0) := by show kindB s = 0; unfold kindB; rw [formedB_short s h]; rfl
  by_cases h1 : 2 ≤ s.size
  · have h4 : 12 < s.size := by omega
    clear h
    go_enter Try.func11, Try.ntmps11
    go_wp2_with fail
    all_goals
      go_ret
      exact ⟨ret_int H.out.symm, Below.refl _ _⟩
  · clear h
    go_enter Try.func11, Try.ntmps11
    go_wp2_with fail
    all_goals
      go_ret
      exact ⟨ret_int H.out.symm, Below.refl _ _⟩

set_option maxHeartbeats 400000 in
theorem rkind_last (s : ByteArray) (w : World) (h : 2 ≤ s.size) (h1 : s.size ≤ 12) (h2 : bt s (s.size - 1) = 45) :
    Calls Try.prog 11 #[.string s] w fun e w' => e = .returned (.int .i64 (kindB s)) ∧ Below w.heap.size w w' := by
  have h3 : (((s[s.size - 1]'(by omega)).toNat : Int) == 45) = true := by
    rw [beq_iff_eq]; rw [bt_get (by omega)]; exact h2
  have H : Hid (kindB s = 0) := by show kindB s = 0; unfold kindB; rw [formedB_last s h2]; rfl
  clear h2
  go_enter Try.func11, Try.ntmps11
  go_wp2_with fail
  go_ret
  exact ⟨ret_int H.out.symm, Below.refl _ _⟩

set_option maxHeartbeats 1000000 in
theorem rkind_long (s : ByteArray) (w : World) (h : 2 ≤ s.size) (h1 : s.size ≤ 12) (h2 : bt s (s.size - 1) ≠ 45) :
    Calls Try.prog 11 #[.string s] w fun e w' => e = .returned (.int .i64 (kindB s)) ∧ Below w.heap.size w w' := by
  have h3 : (((s[s.size - 1]'(by omega)).toNat : Int) == 45) = false := by
    rw [beq_eq_false_iff_ne]; intro g; rw [bt_get (by omega)] at g; exact h2 g
  have hfin := formedB_tail s h h1 h2
  have H2 := Lib.hid hfin; clear h2 hfin
  have h0 : (0 : Int) < s.size := by omega
  have hg : ((s[0]'(by omega)).toNat : Int) = bt s 0 := bt_get (by omega)
  go_enter Try.func11, Try.ntmps11
  go_wp2_with fail
  go_loop [3] (fun iv => ∃ i : Nat, 1 ≤ i ∧ i ≤ s.size ∧ iv = .int .i64 i ∧ Hid (tailB s i = tailB s 1)) (fun iv => s.size - (intOf iv).toNat)
  case atStart => exact ⟨1, by omega, by omega, rfl, rfl⟩
  case round =>
    obtain ⟨i, hi1, hi2, rfl, hc⟩ := hrel
    by_cases hp : i < s.size
    · have hgi : ((s[i]'hp).toNat : Int) = bt s i := bt_get hp
      cases hb : smallC (bt s i) with
      | true =>
        have hb' := (smallC_cases _).1 hb
        rw [← hgi] at hb'
        have Hb := Lib.hid hb; clear hb hgi
        go_wp2_with fail
        all_goals
          go_round
          case rel => exact ⟨i + 1, by omega, by omega, by go_num, (tailB_yes s _ Hb.out).trans hc.out⟩
          case measure => simp [intOf]; omega
      | false =>
        have hb' : ¬ ((97 ≤ bt s i ∧ bt s i ≤ 122) ∨ (48 ≤ bt s i ∧ bt s i ≤ 57) ∨ bt s i = 45) := fun g => by rw [(smallC_cases _).2 g] at hb; cases hb
        rw [← hgi] at hb'
        have hb2 : (((s[i]'hp).toNat : Int) != 45) = true := by rw [bne_iff_ne]; omega
        have Hb := Lib.hid hb; clear hb hgi
        go_wp2_with fail
        all_goals
          go_ret
          exact ⟨ret_int (by unfold kindB; rw [H2.out, ← hc.out, tailB_no s _ (by omega) Hb.out]; rfl), Below.refl _ _⟩
    · have hfm : kindB s = kindC (bt s 0) := by unfold kindB; rw [H2.out, ← hc.out, tailB_end s _ (by omega)]; rfl
      have H := Lib.hid hfm; clear hfm
      go_wp2_with fail
      go_loopw [5] (fun kv wr => ∃ k : Nat, 1 ≤ k ∧ k ≤ 6 ∧ kv = .int .i64 k ∧ Below w.heap.size w wr ∧ Hid (∀ j : Int, 1 ≤ j → j < k → letterC j ≠ bt s 0)) (fun kv _ => (6 - intOf kv).toNat)
      case atStart => exact ⟨1, by omega, by omega, rfl, Below.refl _ _, fun j h1 h2 => by omega⟩
      case round =>
        obtain ⟨k, hk1, hk2, rfl, hb1, hj⟩ := hrel
        by_cases hk : k < 6
        · obtain ⟨hks, hkl⟩ := lettersS_at hk1 hk
          have hks' : (k : Int) < lettersS.size := by omega
          by_cases hl : letterC k = bt s 0
          · have hl' : (((lettersS[k]'hks).toNat : Int) == bt s 0) = true := by rw [beq_iff_eq, hkl]; exact hl
            have Hl := Lib.hid hl; clear hl hkl
            go_wp2_with fail
            go_quiet ((go_at_call 17; exact quiet_eq (letters_any _)))
            go_wp2_with fail
            go_ret
            exact ⟨ret_int (by rw [H.out, kindC_hit (by omega) (by omega) Hl.out]), below_drewN hb1 _⟩
          · have hl' : (((lettersS[k]'hks).toNat : Int) == bt s 0) = false := by rw [beq_eq_false_iff_ne, hkl]; exact hl
            have Hl := Lib.hid hl; clear hl hkl
            go_wp2_with fail
            go_quiet ((go_at_call 17; exact quiet_eq (letters_any _)))
            go_wp2_with fail
            go_roundw
            case rel =>
              refine ⟨k + 1, by omega, by omega, by go_num, below_drewN hb1 _, fun j h1 h2 => ?_⟩
              by_cases e : j = k
              · subst e; exact Hl.out
              · exact hj.out j h1 (by omega)
            case measure => simp [intOf]; omega
        · go_wp2_with fail
          go_ret
          exact ⟨ret_int (by rw [H.out, kindC_miss (fun j h1 h2 => hj.out j h1 (by omega))]), hb1⟩

theorem rkind_any (s : ByteArray) (w : World) (hs : s.size ≤ 9223372036854775807) :
    Calls Try.prog 11 #[.string s] w fun e w' => e = .returned (.int .i64 (kindB s)) ∧ Below w.heap.size w w' := by
  by_cases h : 2 ≤ s.size ∧ s.size ≤ 12
  · by_cases h2 : bt s (s.size - 1) = 45
    · exact rkind_last s w h.1 h.2 h2
    · exact rkind_long s w h.1 h.2 h2
  · exact rkind_short s w hs h

set_option maxHeartbeats 400000 in
theorem rcheck_any (s : ByteArray) (w : World) (hs : s.size ≤ 9223372036854775807) :
    Calls Try.prog 12 #[.string s] w fun e w' => e = .returned (.int .i64 (checkB s)) ∧ Below w.heap.size w w' := by
  by_cases h : kindB s = 0
  · have h' : (kindB s == 0) = true := by rw [beq_iff_eq]; exact h
    have H : Hid (checkB s = 9) := if_pos h
    clear h
    go_enter Try.func12, Try.ntmps12
    go_wp2_with fail
    refine (rkind_any _ _ hs).mono ?_; rintro e w1 ⟨rfl, hb⟩
    go_wp2_with fail
    go_ret
    exact ⟨ret_int H.out.symm, hb⟩
  · have h' : (kindB s == 0) = false := by rw [beq_eq_false_iff_ne]; exact h
    have H : Hid (checkB s = 0) := if_neg h
    clear h
    go_enter Try.func12, Try.ntmps12
    go_wp2_with fail
    refine (rkind_any _ _ hs).mono ?_; rintro e w1 ⟨rfl, hb⟩
    go_wp2_with fail
    go_ret
    exact ⟨ret_int H.out.symm, hb⟩

theorem letterS_out {k : Int} (h : ¬ (1 ≤ k ∧ k < 6)) : letterS k = ⟨#[]⟩ := by
  unfold letterS letterC
  rw [if_pos]
  rw [if_neg (by omega), if_neg (by omega), if_neg (by omega), if_neg (by omega), if_neg (by omega)]
theorem letterS_in {k : Int} (h1 : 1 ≤ k) (h2 : k < 6) : lettersS.extract k.toNat (k + 1).toNat = letterS k := by
  have : k = 1 ∨ k = 2 ∨ k = 3 ∨ k = 4 ∨ k = 5 := by omega
  rcases this with rfl | rfl | rfl | rfl | rfl <;> decide

set_option maxHeartbeats 400000 in
theorem rletter_any (k : Int) (w : World) (hk1 : -9223372036854775808 ≤ k) (hk2 : k ≤ 9223372036854775807) :
    Calls Try.prog 14 #[.int .i64 k] w fun e w' => e = .returned (.string (letterS k)) ∧ Below w.heap.size w w' := by
  by_cases h : 1 ≤ k ∧ k < 6
  · obtain ⟨h1, h2⟩ := h
    have H := Lib.hid (letterS_in h1 h2)
    have hsz : lettersS.size = 6 := rfl
    go_enter Try.func14, Try.ntmps14
    go_wp2_with (go_at_call 17; refine (letters_any _).mono ?_; rintro e w' ⟨rfl, rfl⟩)
    go_ret
    exact ⟨ret_str H.out, Below.refl _ _⟩
  · have H := Lib.hid (letterS_out h)
    by_cases h1 : 1 ≤ k
    · have h2 : 5 < k := by omega
      clear h
      go_enter Try.func14, Try.ntmps14
      go_wp2_with fail
      all_goals
        go_ret
        exact ⟨ret_str H.out.symm, Below.refl _ _⟩
    · clear h
      go_enter Try.func14, Try.ntmps14
      go_wp2_with fail
      all_goals
        go_ret
        exact ⟨ret_str H.out.symm, Below.refl _ _⟩

set_option maxHeartbeats 400000 in
theorem rname_any (k : Int) (rest : ByteArray) (w : World) (hk1 : -9223372036854775808 ≤ k) (hk2 : k ≤ 9223372036854775807) (hs : rest.size ≤ 9223372036854775806) :
    Calls Try.prog 10 #[.int .i64 k, .string rest] w fun e w' => e = .returned (.tuple #[.string (nameS k rest), .int .i64 (nameE k rest)]) ∧ Below w.heap.size w w' := by
  have hsz : (letterS k).size + rest.size ≤ 9223372036854775807 := by have := letterS_size k; omega
  have hsz' : (letterS k ++ rest).size ≤ 9223372036854775807 := by simpa using hsz
  by_cases h : kindB (letterS k ++ rest) = 0 ∨ kindB (letterS k ++ rest) ≠ k
  · have H1 : Hid (nameS k rest = ⟨#[]⟩) := if_pos h
    have H2 : Hid (nameE k rest = 9) := if_pos h
    have H : Hid _ := h
    clear h
    by_cases h0 : kindB (letterS k ++ rest) = 0
    · have h0' : (kindB (letterS k ++ rest) == 0) = true := by rw [beq_iff_eq]; exact h0
      clear h0
      go_enter Try.func10, Try.ntmps10
      go_wp2_with fail
      refine (rletter_any _ _ hk1 hk2).mono ?_; rintro e w1 ⟨rfl, hb⟩
      go_wp2_with fail
      refine (rkind_any _ _ hsz').mono ?_; rintro e w2 ⟨rfl, hb2⟩
      go_wp2_with fail
      go_ret2
      exact ⟨by rw [H1.out, H2.out]; rfl, hb.trans (hb2.mono hb.size)⟩
    · have h0' : (kindB (letterS k ++ rest) == 0) = false := by rw [beq_eq_false_iff_ne]; exact h0
      have h1' : (kindB (letterS k ++ rest) != k) = true := by rw [bne_iff_ne]; exact H.out.resolve_left h0
      clear h0
      go_enter Try.func10, Try.ntmps10
      go_wp2_with fail
      refine (rletter_any _ _ hk1 hk2).mono ?_; rintro e w1 ⟨rfl, hb⟩
      go_wp2_with fail
      refine (rkind_any _ _ hsz').mono ?_; rintro e w2 ⟨rfl, hb2⟩
      go_wp2_with fail
      refine (rkind_any _ _ hsz').mono ?_; rintro e w3 ⟨rfl, hb3⟩
      go_wp2_with fail
      go_ret2
      exact ⟨by rw [H1.out, H2.out]; rfl, (hb.trans (hb2.mono hb.size)).trans (hb3.mono (Nat.le_trans hb.size hb2.size))⟩
  · have H1 : Hid (nameS k rest = letterS k ++ rest) := if_neg h
    have H2 : Hid (nameE k rest = 0) := if_neg h
    have h0' : (kindB (letterS k ++ rest) == 0) = false := by rw [beq_eq_false_iff_ne]; exact fun g => h (.inl g)
    have h1' : (kindB (letterS k ++ rest) != k) = false := by rw [bne_eq_false_iff_eq]; exact Classical.not_not.1 fun g => h (.inr g)
    clear h
    go_enter Try.func10, Try.ntmps10
    go_wp2_with fail
    refine (rletter_any _ _ hk1 hk2).mono ?_; rintro e w1 ⟨rfl, hb⟩
    go_wp2_with fail
    refine (rkind_any _ _ hsz').mono ?_; rintro e w2 ⟨rfl, hb2⟩
    go_wp2_with fail
    refine (rkind_any _ _ hsz').mono ?_; rintro e w3 ⟨rfl, hb3⟩
    go_wp2_with fail
    go_ret2
    exact ⟨by rw [H1.out, H2.out]; rfl, (hb.trans (hb2.mono hb.size)).trans (hb3.mono (Nat.le_trans hb.size hb2.size))⟩

theorem kind_likes : (kindB ⟨#[99, 45, 108, 105, 107, 101, 115]⟩ == 1) = true := by decide +kernel
theorem check_x : (checkB ⟨#[120]⟩ == 9) = true := by decide +kernel
theorem size_likes : (⟨#[99, 45, 108, 105, 107, 101, 115]⟩ : ByteArray).size ≤ 9223372036854775807 := by decide
theorem size_x : (⟨#[120]⟩ : ByteArray).size ≤ 9223372036854775807 := by decide

set_option maxHeartbeats 400000 in
theorem awake5_any (w : World) :
    Calls Try.prog 7 #[] w fun e w' => e = .returned (.bool true) ∧ Below w.heap.size w w' := by
  have a1 := kind_likes
  have a2 := check_x
  go_enter Try.func7, Try.ntmps7
  go_wp2_with fail
  refine (kind_any _ _ size_likes).mono ?_; rintro e w1 ⟨rfl, hb⟩
  go_wp2_with fail
  refine (check_any _ _ size_x).mono ?_; rintro e w2 ⟨rfl, hb2⟩
  go_wp2_with fail
  go_ret
  exact ⟨rfl, hb.trans (hb2.mono hb.size)⟩

end Go.Proofs.Ythhjlepldgplcaa
