/- The order of texts and ids: no walk. -/
import Derived.Test.YtlonihfhgfmplaaIds
import Derived.Lib.Bytealg
namespace Go.Proofs.Ytlonihfhgfmplaa
open Go.RowKit

/-- By bytes: -1, 0, 1. -/
abbrev cmpB := Lib.compareBytes

theorem cmpB_self : ∀ a : List UInt8, cmpB a a = 0
  | [] => rfl
  | c :: a => by
    show (if c < c then (-1 : Int) else if c < c then 1 else cmpB a a) = 0
    rw [if_neg (by simp), if_neg (by simp)]; exact cmpB_self a
theorem cmpB_eq : ∀ a b : List UInt8, cmpB a b = 0 → a = b
  | [], [], _ => rfl
  | [], _ :: _, h => by cases h
  | _ :: _, [], h => by cases h
  | c :: a, d :: b, h => by
    have h' : (if c < d then (-1 : Int) else if d < c then 1 else cmpB a b) = 0 := h
    by_cases h1 : c < d
    · rw [if_pos h1] at h'; cases h'
    · rw [if_neg h1] at h'
      by_cases h2 : d < c
      · rw [if_pos h2] at h'; cases h'
      · rw [if_neg h2] at h'
        have e : c = d := by
          simp only [UInt8.lt_iff_toNat_lt] at h1 h2
          exact UInt8.toNat_inj.1 (by omega)
        rw [e, cmpB_eq a b h']
theorem cmpB_zero (a b : List UInt8) : cmpB a b = 0 ↔ a = b := ⟨cmpB_eq a b, fun h => by rw [h]; exact cmpB_self b⟩
theorem cmpB_anti : ∀ a b : List UInt8, cmpB b a = - cmpB a b
  | [], [] => rfl
  | [], _ :: _ => rfl
  | _ :: _, [] => rfl
  | c :: a, d :: b => by
    show (if d < c then (-1 : Int) else if c < d then 1 else cmpB b a) = -(if c < d then (-1 : Int) else if d < c then 1 else cmpB a b)
    by_cases h1 : c < d
    · have h2 : ¬ d < c := by rw [UInt8.lt_iff_toNat_lt] at *; omega
      rw [if_neg h2, if_pos h1, if_pos h1]; rfl
    · by_cases h2 : d < c
      · rw [if_pos h2, if_neg h1, if_pos h2]
      · rw [if_neg h2, if_neg h1, if_neg h1, if_neg h2]; exact cmpB_anti a b
theorem cmpB_range : ∀ a b : List UInt8, cmpB a b = -1 ∨ cmpB a b = 0 ∨ cmpB a b = 1
  | [], [] => .inr (.inl rfl)
  | [], _ :: _ => .inl rfl
  | _ :: _, [] => .inr (.inr rfl)
  | c :: a, d :: b => by
    show (if c < d then (-1 : Int) else if d < c then 1 else cmpB a b) = -1 ∨ (if c < d then (-1 : Int) else if d < c then 1 else cmpB a b) = 0 ∨ (if c < d then (-1 : Int) else if d < c then 1 else cmpB a b) = 1
    by_cases h1 : c < d
    · rw [if_pos h1]; exact .inl rfl
    · by_cases h2 : d < c
      · rw [if_neg h1, if_pos h2]; exact .inr (.inr rfl)
      · rw [if_neg h1, if_neg h2]; exact cmpB_range a b
theorem cmpB_trans : ∀ a b c : List UInt8, cmpB a b < 0 → cmpB b c < 0 → cmpB a c < 0
  | [], [], _, h, _ => by cases h
  | [], _ :: _, [], _, h => by cases h
  | [], _ :: _, _ :: _, _, _ => by show (-1 : Int) < 0; omega
  | _ :: _, [], _, h, _ => by cases h
  | _ :: _, _ :: _, [], _, h => by cases h
  | x :: a, y :: b, z :: c, h1, h2 => by
    have h1' : (if x < y then (-1 : Int) else if y < x then 1 else cmpB a b) < 0 := h1
    have h2' : (if y < z then (-1 : Int) else if z < y then 1 else cmpB b c) < 0 := h2
    show (if x < z then (-1 : Int) else if z < x then 1 else cmpB a c) < 0
    simp only [UInt8.lt_iff_toNat_lt] at *
    by_cases p1 : x.toNat < y.toNat
    · by_cases q1 : y.toNat < z.toNat
      · rw [if_pos (by omega)]; omega
      · rw [if_neg q1] at h2'
        by_cases q2 : z.toNat < y.toNat
        · rw [if_pos q2] at h2'; omega
        · rw [if_pos (by omega)]; omega
    · rw [if_neg p1] at h1'
      by_cases p2 : y.toNat < x.toNat
      · rw [if_pos p2] at h1'; omega
      · rw [if_neg p2] at h1'
        by_cases q1 : y.toNat < z.toNat
        · rw [if_pos (by omega)]; omega
        · rw [if_neg q1] at h2'
          by_cases q2 : z.toNat < y.toNat
          · rw [if_pos q2] at h2'; omega
          · rw [if_neg q2] at h2'
            rw [if_neg (by omega), if_neg (by omega)]
            exact cmpB_trans a b c h1' h2'
theorem bytesLess_cmp : ∀ a b : List UInt8, Op.bytesLess a b = decide (cmpB a b < 0)
  | [], [] => rfl
  | [], _ :: _ => rfl
  | _ :: _, [] => rfl
  | c :: a, d :: b => by
    show (decide (c < d) || (c == d && Op.bytesLess a b)) = decide ((if c < d then (-1 : Int) else if d < c then 1 else cmpB a b) < 0)
    by_cases h1 : c < d
    · simp [h1]
    · by_cases h2 : d < c
      · have e : (c == d) = false := by
          rw [beq_eq_false_iff_ne]; rintro rfl; exact h1 h2
        simp [h1, h2, e]
      · have e : c = d := by
          simp only [UInt8.lt_iff_toNat_lt] at h1 h2
          exact UInt8.toNat_inj.1 (by omega)
        subst e
        simp [bytesLess_cmp a b]

/-- Texts and ids. -/
def cmpS (a b : ByteArray) : Int := cmpB a.toList b.toList
def cmpId (a b : Id32) : Int := cmpB a.l b.l
def cmpI (a b : Int) : Int := if a < b then -1 else if b < a then 1 else 0
def bltS (a b : ByteArray) : Bool := Op.bytesLess a.toList b.toList
theorem bltS_cmp (a b : ByteArray) : bltS a b = decide (cmpS a b < 0) := bytesLess_cmp _ _
theorem cmpS_zero (a b : ByteArray) : cmpS a b = 0 ↔ a = b := by unfold cmpS; rw [cmpB_zero, toList_inj]
theorem cmpS_self (a : ByteArray) : cmpS a a = 0 := cmpB_self _
theorem cmpS_anti (a b : ByteArray) : cmpS b a = - cmpS a b := cmpB_anti _ _
theorem cmpS_trans (a b c : ByteArray) : cmpS a b < 0 → cmpS b c < 0 → cmpS a c < 0 := cmpB_trans _ _ _
theorem cmpS_range (a b : ByteArray) : cmpS a b = -1 ∨ cmpS a b = 0 ∨ cmpS a b = 1 := cmpB_range _ _
theorem cmpId_zero (a b : Id32) : cmpId a b = 0 ↔ a = b := by
  unfold cmpId; rw [cmpB_zero]; exact ⟨Id32.ext', fun h => by rw [h]⟩
theorem cmpId_self (a : Id32) : cmpId a a = 0 := cmpB_self _
theorem cmpId_anti (a b : Id32) : cmpId b a = - cmpId a b := cmpB_anti _ _
theorem cmpId_trans (a b c : Id32) : cmpId a b < 0 → cmpId b c < 0 → cmpId a c < 0 := cmpB_trans _ _ _
theorem cmpId_range (a b : Id32) : cmpId a b = -1 ∨ cmpId a b = 0 ∨ cmpId a b = 1 := cmpB_range _ _
theorem cmpI_range (a b : Int) : cmpI a b = -1 ∨ cmpI a b = 0 ∨ cmpI a b = 1 := by
  unfold cmpI
  repeat' split
  all_goals simp
/-- The first that is not 0. -/
def orL : List Int → Int
  | [] => 0
  | a :: l => if a = 0 then orL l else a

end Go.Proofs.Ytlonihfhgfmplaa
