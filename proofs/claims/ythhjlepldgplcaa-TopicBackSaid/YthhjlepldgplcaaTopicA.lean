/- Walks of package topic and of its reference: what each function answers. No condition but the sizes that a string has. -/
import Derived.Test.YthhjlepldgplcaaBase
namespace Go.Proofs.Ythhjlepldgplcaa
open Go.RowKit

def smallC (c : Int) : Bool := (decide (97 ≤ c) && decide (c ≤ 122)) || (decide (48 ≤ c) && decide (c ≤ 57)) || decide (c = 45)
theorem smallC_of {c : Int} {b : Bool} (h : b = smallC c) : Ending.returned (.bool b) = .returned (.bool (smallC c)) := by rw [h]

set_option maxHeartbeats 400000 in
theorem small_any (c : Int) (w : World) :
    Calls Try.prog 18 #[.int .i32 c] w fun e w' => e = .returned (.bool (smallC c)) ∧ w = w' := by
  go_enter Try.func18, Try.ntmps18
  go_wp2
  all_goals
    go_ret
    exact ⟨smallC_of (by simp [smallC] at *; omega), rfl⟩

def letterC (k : Int) : Int := if k = 1 then 99 else if k = 2 then 115 else if k = 3 then 108 else if k = 4 then 109 else if k = 5 then 114 else 0
set_option maxHeartbeats 400000 in
theorem letter_any (k : Int) (w : World) :
    Calls Try.prog 16 #[.int .i64 k] w fun e w' => e = .returned (.int .u8 (letterC k)) ∧ w = w' := by
  go_enter Try.func16, Try.ntmps16
  go_wp2
  all_goals
    go_ret
    exact ⟨ret_int (by simp [letterC] at *; omega), rfl⟩

def tailB (s : ByteArray) (i : Nat) : Bool := (List.range (s.size - i)).all fun j => smallC (bt s (i + j))
theorem tailB_iff (s : ByteArray) (i : Nat) : tailB s i = true ↔ ∀ j, i ≤ j → j < s.size → smallC (bt s j) = true := by
  simp only [tailB, List.all_eq_true, List.mem_range]
  constructor
  · intro h j h1 h2
    have := h (j - i) (by omega)
    rwa [show i + (j - i) = j by omega] at this
  · intro h j hj
    exact h _ (by omega) (by omega)
theorem tailB_end (s : ByteArray) (i : Nat) (h : s.size ≤ i) : tailB s i = true := (tailB_iff s i).2 fun j h1 h2 => by omega
theorem tailB_no (s : ByteArray) (i : Nat) (h : i < s.size) (h1 : smallC (bt s i) = false) : tailB s i = false := by
  cases e : tailB s i with
  | false => rfl
  | true => rw [(tailB_iff s i).1 e i (Nat.le_refl _) h] at h1; cases h1
theorem tailB_yes (s : ByteArray) (i : Nat) (h1 : smallC (bt s i) = true) : tailB s (i + 1) = tailB s i := by
  rw [Bool.eq_iff_iff, tailB_iff, tailB_iff]
  constructor
  · intro h j a b
    by_cases e : j = i
    · subst e; exact h1
    · exact h j (by omega) b
  · intro h j a b; exact h j (by omega) b

def formedB (s : ByteArray) : Bool := decide (2 ≤ s.size) && decide (s.size ≤ 12) && (bt s (s.size - 1) != 45) && tailB s 1

theorem smallC_high {c : Int} (h : 128 ≤ c) : smallC c = false := by unfold smallC; simp; omega
theorem get_extract1 (s : ByteArray) (i : Nat) (h : i < (s.extract 1 s.size).size) : (((s.extract 1 s.size)[i]'h).toNat : Int) = bt s (i + 1) := by
  have hs : i + 1 < s.size := by simp at h; omega
  rw [← bt_get hs]
  congr 2
  rw [ByteArray.getElem_extract]
  congr 1; omega
theorem decode_small (s : ByteArray) (i : Nat) (h : i < (s.extract 1 s.size).size) (hh : smallC (bt s (i + 1)) = true) :
    Utf8.decode (s.extract 1 s.size) i = ((bt s (i + 1)).toNat, 1) := by
  have e := get_extract1 s i h
  have hlt : (((s.extract 1 s.size)[i]'h).toNat) < 128 := by
    rcases Nat.lt_or_ge ((s.extract 1 s.size)[i]'h).toNat 128 with g | g
    · exact g
    · rw [smallC_high (by omega)] at hh; cases hh
  rw [decode_ascii _ i h hlt, ← e]; simp
theorem decode_notsmall (s : ByteArray) (i : Nat) (h : i < (s.extract 1 s.size).size) (hh : smallC (bt s (i + 1)) = false) :
    smallC ((Utf8.decode (s.extract 1 s.size) i).1 : Int) = false := by
  have e := get_extract1 s i h
  rcases Nat.lt_or_ge ((s.extract 1 s.size)[i]'h).toNat 128 with g | g
  · rw [decode_ascii _ i h g]; rw [← e] at hh; exact hh
  · have := (decode_high _ i h g).1
    exact smallC_high (by omega)

theorem formedB_short (s : ByteArray) (h : ¬ (2 ≤ s.size ∧ s.size ≤ 12)) : formedB s = false := by
  unfold formedB
  by_cases h1 : 2 ≤ s.size <;> by_cases h2 : s.size ≤ 12 <;> simp [h1, h2]; omega
theorem formedB_last (s : ByteArray) (h : bt s (s.size - 1) = 45) : formedB s = false := by
  unfold formedB; simp [h]
theorem formedB_tail (s : ByteArray) (h1 : 2 ≤ s.size) (h2 : s.size ≤ 12) (h : bt s (s.size - 1) ≠ 45) : formedB s = tailB s 1 := by
  unfold formedB; simp [h1, h2, h]
set_option maxHeartbeats 400000 in
theorem formed_long (s : ByteArray) (w : World) (h : 2 ≤ s.size) (h1 : s.size ≤ 12) (h2 : bt s (s.size - 1) ≠ 45) :
    Calls Try.prog 15 #[.string s] w fun e w' => e = .returned (.bool (formedB s)) ∧ Below w.heap.size w w' := by
  have h3 : (((s[s.size - 1]'(by omega)).toNat : Int) == 45) = false := by
    rw [beq_eq_false_iff_ne]; intro g; rw [bt_get (by omega)] at g; exact h2 g
  have hfin := formedB_tail s h h1 h2
  have H2 := Lib.hid hfin; clear h2 hfin
  have hI : ∀ (p : Nat), Below w.heap.size w (w.iter (s.extract 1 s.size) p) := fun p => (Below.refl _ _).alloc (Nat.le_refl _) _
  have HI := Lib.hid hI; clear hI
  go_enter Try.func15, Try.ntmps15
  go_wp2_with fail
  go_loopw [] (fun wr => ∃ i : Nat, i + 1 ≤ s.size ∧ wr = w.iter (s.extract 1 s.size) i ∧ Hid (tailB s (i + 1) = tailB s 1)) (fun wr => s.size - wr.iterPos w.heap.size)
  case atStart => exact ⟨0, by omega, rfl, rfl⟩
  case round =>
    obtain ⟨i, hi, rfl, hc⟩ := hrel
    have hsz : (s.extract 1 s.size).size = s.size - 1 := by simp
    by_cases hp : i < (s.extract 1 s.size).size
    · have hnx : ∀ ty, (Instr.next (.pointer (some ⟨w.heap.size, 0, none⟩)) true ty).run Try.prog (w.iter (s.extract 1 s.size) i) = _ := fun ty => run_next_any w (s.extract 1 s.size) i ty hp
      cases hb : smallC (bt s (i + 1)) with
      | true =>
        rw [decode_small s i hp hb] at hnx
        have e1 : (((bt s (i + 1)).toNat : Nat) : Int) = bt s (i + 1) := by have := bt_nonneg s (i + 1); omega
        simp only [e1] at hnx
        have Hb := Lib.hid hb
        go_wp2_with (go_at_call 18; refine (small_any _ _).mono ?_; rintro e w' ⟨rfl, rfl⟩)
        go_roundw
        case rel => exact ⟨i + 1, by omega, rfl, (tailB_yes s _ Hb.out).trans hc.out⟩
        case measure => simp; omega
      | false =>
        have hd := decode_notsmall s i hp hb
        go_wp2_with (go_at_call 18; refine (small_any _ _).mono ?_; rintro e w' ⟨rfl, rfl⟩)
        go_ret
        exact ⟨ret_bool (by rw [H2.out, ← hc.out, tailB_no s _ (by omega) hb]), HI.out _⟩
    · have hnx : ∀ ty, (Instr.next (.pointer (some ⟨w.heap.size, 0, none⟩)) true ty).run Try.prog (w.iter (s.extract 1 s.size) i) = _ := fun ty => run_next_end w (s.extract 1 s.size) i ty hp
      go_wp2_with fail
      go_ret
      exact ⟨ret_bool (by rw [H2.out, ← hc.out, tailB_end s _ (by omega)]), HI.out _⟩

set_option maxHeartbeats 400000 in
theorem formed_short (s : ByteArray) (w : World) (hs : s.size ≤ 9223372036854775807) (h : ¬ (2 ≤ s.size ∧ s.size ≤ 12)) :
    Calls Try.prog 15 #[.string s] w fun e w' => e = .returned (.bool (formedB s)) ∧ Below w.heap.size w w' := by
  have H2 := Lib.hid (formedB_short s h)
  by_cases h1 : 2 ≤ s.size
  · have h4 : 12 < s.size := by omega
    clear h
    go_enter Try.func15, Try.ntmps15
    go_wp2_with fail
    all_goals
      go_ret
      exact ⟨ret_bool H2.out.symm, Below.refl _ _⟩
  · clear h
    go_enter Try.func15, Try.ntmps15
    go_wp2_with fail
    all_goals
      go_ret
      exact ⟨ret_bool H2.out.symm, Below.refl _ _⟩

set_option maxHeartbeats 400000 in
theorem formed_last (s : ByteArray) (w : World) (h : 2 ≤ s.size) (h1 : s.size ≤ 12) (h2 : bt s (s.size - 1) = 45) :
    Calls Try.prog 15 #[.string s] w fun e w' => e = .returned (.bool (formedB s)) ∧ Below w.heap.size w w' := by
  have h3 : (((s[s.size - 1]'(by omega)).toNat : Int) == 45) = true := by
    rw [beq_iff_eq]; rw [bt_get (by omega)]; exact h2
  have H2 := Lib.hid (formedB_last s h2); clear h2
  go_enter Try.func15, Try.ntmps15
  go_wp2_with fail
  go_ret
  exact ⟨ret_bool H2.out.symm, Below.refl _ _⟩

theorem formed_any (s : ByteArray) (w : World) (hs : s.size ≤ 9223372036854775807) :
    Calls Try.prog 15 #[.string s] w fun e w' => e = .returned (.bool (formedB s)) ∧ Below w.heap.size w w' := by
  by_cases h : 2 ≤ s.size ∧ s.size ≤ 12
  · by_cases h2 : bt s (s.size - 1) = 45
    · exact formed_last s w h.1 h.2 h2
    · exact formed_long s w h.1 h.2 h2
  · exact formed_short s w hs h

/-- The kind of a letter. -/
def kindC (c : Int) : Int := if c = 99 then 1 else if c = 115 then 2 else if c = 108 then 3 else if c = 109 then 4 else if c = 114 then 5 else 0
/-- The kind of a name. -/
def kindB (s : ByteArray) : Int := if formedB s = true then kindC (bt s 0) else 0

theorem formedB_size {s : ByteArray} (h : formedB s = true) : 2 ≤ s.size ∧ s.size ≤ 12 := by
  unfold formedB at h; simp at h; omega
theorem kindC_hit {c k : Int} (h1 : 1 ≤ k) (h2 : k < 6) (h : letterC k = c) : kindC c = k := by
  subst h
  have : k = 1 ∨ k = 2 ∨ k = 3 ∨ k = 4 ∨ k = 5 := by omega
  rcases this with rfl | rfl | rfl | rfl | rfl <;> decide
theorem kindC_miss {c : Int} (h : ∀ j : Int, 1 ≤ j → j < 6 → letterC j ≠ c) : kindC c = 0 := by
  have a := h 1 (by omega) (by omega); have b := h 2 (by omega) (by omega); have d := h 3 (by omega) (by omega)
  have e := h 4 (by omega) (by omega); have f := h 5 (by omega) (by omega)
  simp [letterC] at a b d e f
  unfold kindC
  rw [if_neg (by omega), if_neg (by omega), if_neg (by omega), if_neg (by omega), if_neg (by omega)]

set_option maxHeartbeats 400000 in
theorem kind_no (s : ByteArray) (w : World) (hs : s.size ≤ 9223372036854775807) (h : formedB s = false) :
    Calls Try.prog 6 #[.string s] w fun e w' => e = .returned (.int .i64 (kindB s)) ∧ Below w.heap.size w w' := by
  have H : Hid (kindB s = 0) := by show kindB s = 0; unfold kindB; rw [h]; rfl
  go_enter Try.func6, Try.ntmps6
  go_wp2_with fail
  refine (formed_any _ _ hs).mono ?_; rintro e w1 ⟨rfl, hb⟩
  go_wp2_with fail
  go_ret
  exact ⟨ret_int H.out.symm, hb⟩

set_option maxHeartbeats 400000 in
theorem kind_yes (s : ByteArray) (w : World) (hs : s.size ≤ 9223372036854775807) (h : formedB s = true) :
    Calls Try.prog 6 #[.string s] w fun e w' => e = .returned (.int .i64 (kindB s)) ∧ Below w.heap.size w w' := by
  have H : Hid (kindB s = kindC (bt s 0)) := by show kindB s = kindC (bt s 0); unfold kindB; rw [h]; rfl
  have hsz := formedB_size h
  have h0 : (0 : Int) < s.size := by omega
  have hg : ((s[0]'(by omega)).toNat : Int) = bt s 0 := bt_get (by omega)
  go_enter Try.func6, Try.ntmps6
  go_wp2_with fail
  refine (formed_any _ _ hs).mono ?_; rintro e w1 ⟨rfl, hb⟩
  go_wp2_with fail
  go_loopw [3] (fun kv wr => ∃ k : Int, 1 ≤ k ∧ k ≤ 6 ∧ kv = .int .i64 k ∧ Below w.heap.size w wr ∧ Hid (∀ j : Int, 1 ≤ j → j < k → letterC j ≠ bt s 0)) (fun kv _ => (6 - intOf kv).toNat)
  case atStart => exact ⟨1, by omega, by omega, rfl, hb, fun j h1 h2 => by omega⟩
  case round =>
    obtain ⟨k, hk1, hk2, rfl, hb1, hj⟩ := hrel
    by_cases hk : k < 6
    · by_cases hl : letterC k = bt s 0
      · have hl' : (letterC k == bt s 0) = true := by rw [beq_iff_eq]; exact hl
        have Hl := Lib.hid hl; clear hl
        go_wp2_with fail
        go_quiet ((go_at_call 16; exact quiet_eq (letter_any _ _)))
        go_wp2_with fail
        go_ret
        exact ⟨ret_int (by rw [H.out, kindC_hit hk1 hk Hl.out]), below_drewN hb1 _⟩
      · have hl' : (letterC k == bt s 0) = false := by rw [beq_eq_false_iff_ne]; exact hl
        have Hl := Lib.hid hl; clear hl
        go_wp2_with fail
        go_quiet ((go_at_call 16; exact quiet_eq (letter_any _ _)))
        go_wp2_with fail
        go_roundw
        case rel => 
          refine ⟨k + 1, by omega, by omega, rfl, below_drewN hb1 _, fun j h1 h2 => ?_⟩
          by_cases e : j = k
          · subst e; exact Hl.out
          · exact hj.out j h1 (by omega)
        case measure => simp [intOf]; omega
    · go_wp2_with fail
      go_ret
      exact ⟨ret_int (by rw [H.out, kindC_miss (fun j h1 h2 => hj.out j h1 (by omega))]), hb1⟩

theorem kind_any (s : ByteArray) (w : World) (hs : s.size ≤ 9223372036854775807) :
    Calls Try.prog 6 #[.string s] w fun e w' => e = .returned (.int .i64 (kindB s)) ∧ Below w.heap.size w w' := by
  cases h : formedB s with
  | true => exact kind_yes s w hs h
  | false => exact kind_no s w hs h

/-- May it be a name? -/
def checkB (s : ByteArray) : Int := if kindB s = 0 then 9 else 0

set_option maxHeartbeats 400000 in
theorem check_any (s : ByteArray) (w : World) (hs : s.size ≤ 9223372036854775807) :
    Calls Try.prog 8 #[.string s] w fun e w' => e = .returned (.int .i64 (checkB s)) ∧ Below w.heap.size w w' := by
  by_cases h : kindB s = 0
  · have h' : (kindB s == 0) = true := by rw [beq_iff_eq]; exact h
    have H : Hid (checkB s = 9) := by show checkB s = 9; unfold checkB; rw [if_pos h]
    clear h
    go_enter Try.func8, Try.ntmps8
    go_wp2_with fail
    refine (kind_any _ _ hs).mono ?_; rintro e w1 ⟨rfl, hb⟩
    go_wp2_with fail
    go_ret
    exact ⟨ret_int H.out.symm, hb⟩
  · have h' : (kindB s == 0) = false := by rw [beq_eq_false_iff_ne]; exact h
    have H : Hid (checkB s = 0) := by show checkB s = 0; unfold checkB; rw [if_neg h]
    clear h
    go_enter Try.func8, Try.ntmps8
    go_wp2_with fail
    refine (kind_any _ _ hs).mono ?_; rintro e w1 ⟨rfl, hb⟩
    go_wp2_with fail
    go_ret
    exact ⟨ret_int H.out.symm, hb⟩

/-- A kind's letter, as a text. -/
def letterS (k : Int) : ByteArray := if letterC k = 0 then ⟨#[]⟩ else strOfNums [letterC k]
theorem letterS_size (k : Int) : (letterS k).size ≤ 1 := by
  unfold letterS; split
  · decide
  · rw [strOfNums_size]; simp
theorem letterC_range (k : Int) : 0 ≤ letterC k ∧ letterC k < 256 := by
  unfold letterC; repeat' split
  all_goals omega
set_option maxHeartbeats 400000 in
theorem letterT_any (k : Int) (w : World) :
    Calls Try.prog 13 #[.int .i64 k] w fun e w' => e = .returned (.string (letterS k)) ∧ Below w.heap.size w w' := by
  by_cases h : letterC k = 0
  · have h' : (letterC k == 0) = true := by rw [beq_iff_eq]; exact h
    have H : Hid (letterS k = ⟨#[]⟩) := by show letterS k = _; unfold letterS; rw [if_pos h]
    clear h
    go_enter Try.func13, Try.ntmps13
    go_wp2_with fail
    refine (letter_any _ _).mono ?_; rintro e w1 ⟨rfl, rfl⟩
    go_wp2_with fail
    go_ret
    exact ⟨ret_str H.out.symm, Below.refl _ _⟩
  · have h' : (letterC k == 0) = false := by rw [beq_eq_false_iff_ne]; exact h
    have H : Hid (letterS k = strOfNums [letterC k]) := by show letterS k = _; unfold letterS; rw [if_neg h]
    have hcv := run_convert_bytes_arg (P := Try.prog) (w.alloc (.cells #[.int .u8 (letterC k)] 5)) 24 5 Try.underlying24 Try.underlying5 w.heap.size 0 1 1 [letterC k] rfl
      (by
        intro i hi
        obtain rfl : i = 0 := by omega
        simp)
    clear h
    go_enter Try.func13, Try.ntmps13
    go_wp2_with fail
    refine (letter_any _ _).mono ?_; rintro e w1 ⟨rfl, rfl⟩
    go_wp2_with fail
    go_ret
    exact ⟨ret_str H.out.symm, (Below.refl _ _).alloc (Nat.le_refl _) _⟩

/-- A topic of a kind, and why it is none. -/
def nameS (k : Int) (rest : ByteArray) : ByteArray := if kindB (letterS k ++ rest) = 0 ∨ kindB (letterS k ++ rest) ≠ k then ⟨#[]⟩ else letterS k ++ rest
def nameE (k : Int) (rest : ByteArray) : Int := if kindB (letterS k ++ rest) = 0 ∨ kindB (letterS k ++ rest) ≠ k then 9 else 0

set_option maxHeartbeats 400000 in
theorem name_any (k : Int) (rest : ByteArray) (w : World) (hs : rest.size ≤ 9223372036854775806) :
    Calls Try.prog 9 #[.int .i64 k, .string rest] w fun e w' => e = .returned (.tuple #[.string (nameS k rest), .int .i64 (nameE k rest)]) ∧ Below w.heap.size w w' := by
  have hsz : (letterS k).size + rest.size ≤ 9223372036854775807 := by have := letterS_size k; omega
  have hsz' : (letterS k ++ rest).size ≤ 9223372036854775807 := by simpa using hsz
  by_cases h : kindB (letterS k ++ rest) = 0 ∨ kindB (letterS k ++ rest) ≠ k
  · have H1 : Hid (nameS k rest = ⟨#[]⟩) := if_pos h
    have H2 : Hid (nameE k rest = 9) := if_pos h
    have H : Hid _ := h
    clear h
    by_cases h0 : kindB (letterS k ++ rest) = 0
    · have h0' : (kindB (letterS k ++ rest) == 0) = true := by rw [beq_iff_eq]; exact h0
      clear h0
      go_enter Try.func9, Try.ntmps9
      go_wp2_with fail
      refine (letterT_any _ _).mono ?_; rintro e w1 ⟨rfl, hb⟩
      go_wp2_with fail
      refine (kind_any _ _ hsz').mono ?_; rintro e w2 ⟨rfl, hb2⟩
      go_wp2_with fail
      go_ret2
      exact ⟨by rw [H1.out, H2.out]; rfl, hb.trans (hb2.mono hb.size)⟩
    · have h0' : (kindB (letterS k ++ rest) == 0) = false := by rw [beq_eq_false_iff_ne]; exact h0
      have h1' : (kindB (letterS k ++ rest) != k) = true := by rw [bne_iff_ne]; exact H.out.resolve_left h0
      clear h0
      go_enter Try.func9, Try.ntmps9
      go_wp2_with fail
      refine (letterT_any _ _).mono ?_; rintro e w1 ⟨rfl, hb⟩
      go_wp2_with fail
      refine (kind_any _ _ hsz').mono ?_; rintro e w2 ⟨rfl, hb2⟩
      go_wp2_with fail
      go_ret2
      exact ⟨by rw [H1.out, H2.out]; rfl, hb.trans (hb2.mono hb.size)⟩
  · have H1 : Hid (nameS k rest = letterS k ++ rest) := if_neg h
    have H2 : Hid (nameE k rest = 0) := if_neg h
    have h0' : (kindB (letterS k ++ rest) == 0) = false := by rw [beq_eq_false_iff_ne]; exact fun g => h (.inl g)
    have h1' : (kindB (letterS k ++ rest) != k) = false := by rw [bne_eq_false_iff_eq]; exact Classical.not_not.1 fun g => h (.inr g)
    clear h
    go_enter Try.func9, Try.ntmps9
    go_wp2_with fail
    refine (letterT_any _ _).mono ?_; rintro e w1 ⟨rfl, hb⟩
    go_wp2_with fail
    refine (kind_any _ _ hsz').mono ?_; rintro e w2 ⟨rfl, hb2⟩
    go_wp2_with fail
    go_ret2
    exact ⟨by rw [H1.out, H2.out]; rfl, hb.trans (hb2.mono hb.size)⟩

end Go.Proofs.Ythhjlepldgplcaa
