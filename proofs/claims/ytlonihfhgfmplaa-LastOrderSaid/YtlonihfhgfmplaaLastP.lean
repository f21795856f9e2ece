/- Registers of which the last one counts: the plain law: rows sorted by keys; no walk. -/
import Derived.Test.YtlonihfhgfmplaaLastA
import Derived.Test.YtlonihfhgfmplaaMap
namespace Go.Proofs.Ytlonihfhgfmplaa
open Go.RowKit

abbrev LRow := ByteArray × Setting
theorem cmpS_ne {a b : ByteArray} (h1 : ¬ cmpS a b < 0) (h2 : a ≠ b) : cmpS b a < 0 := by
  have := cmpS_anti a b
  have h3 : cmpS a b ≠ 0 := fun e => h2 ((cmpS_zero a b).1 e)
  omega
theorem cmpS_irr {a : ByteArray} : ¬ cmpS a a < 0 := by rw [cmpS_self]; omega
theorem cmpS_asym {a b : ByteArray} (h : cmpS a b < 0) : ¬ cmpS b a < 0 := by have := cmpS_anti a b; omega

/-- Rising keys. -/
def Rising : List LRow → Prop
  | [] => True
  | x :: l => (∀ y ∈ l, cmpS x.1 y.1 < 0) ∧ Rising l
/-- One setting more. -/
def insL : List LRow → ByteArray → Setting → List LRow
  | [], k, x => [(k, x)]
  | y :: l, k, x => if cmpS y.1 k < 0 then y :: insL l k x else if y.1 = k then (if 0 < cmpSet x y.2 then (k, x) :: l else y :: l) else (k, x) :: y :: l

theorem insL_keys : ∀ (l : List LRow) (k : ByteArray) (x : Setting), ∀ y ∈ insL l k x, y.1 = k ∨ ∃ z ∈ l, z.1 = y.1
  | [], k, x, y, hy => by simp [insL] at hy; left; rw [hy]
  | a :: l, k, x, y, hy => by
    unfold insL at hy
    split at hy
    · rcases List.mem_cons.1 hy with h | h
      · right; exact ⟨a, by simp, by rw [h]⟩
      · rcases insL_keys l k x y h with h | ⟨z, hz, e⟩
        · exact .inl h
        · exact .inr ⟨z, List.mem_cons.2 (.inr hz), e⟩
    · split at hy
      · split at hy
        · rcases List.mem_cons.1 hy with h | h
          · left; rw [h]
          · right; exact ⟨y, List.mem_cons.2 (.inr h), rfl⟩
        · right; exact ⟨y, hy, rfl⟩
      · rcases List.mem_cons.1 hy with h | h
        · left; rw [h]
        · right; exact ⟨y, h, rfl⟩
theorem insL_rising : ∀ (l : List LRow) (k : ByteArray) (x : Setting), Rising l → Rising (insL l k x)
  | [], k, x, _ => ⟨by simp, trivial⟩
  | a :: l, k, x, h => by
    unfold insL
    split
    · rename_i hlt
      refine ⟨fun y hy => ?_, insL_rising l k x h.2⟩
      rcases insL_keys l k x y hy with e | ⟨z, hz, e⟩
      · rw [e]; exact hlt
      · rw [← e]; exact h.1 z hz
    · rename_i hlt
      split
      · rename_i he
        split
        · exact ⟨fun y hy => by rw [← he]; exact h.1 y hy, h.2⟩
        · exact h
      · rename_i he
        have hka : cmpS k a.1 < 0 := cmpS_ne hlt he
        refine ⟨fun y hy => ?_, h⟩
        rcases List.mem_cons.1 hy with e | hy
        · rw [e]; exact hka
        · exact cmpS_trans _ _ _ hka (h.1 y hy)
theorem rising_nodup : ∀ {l : List LRow}, Rising l → (l.map (·.1)).Nodup
  | [], _ => by simp
  | a :: l, h => by
    rw [List.map_cons, List.nodup_cons]
    refine ⟨fun hm => ?_, rising_nodup h.2⟩
    obtain ⟨z, hz, e⟩ := List.mem_map.1 hm
    have := h.1 z hz
    rw [e] at this
    exact cmpS_irr this

/-- A key that is not there. -/
theorem insL_new : ∀ (l : List LRow) (k : ByteArray) (x : Setting), k ∉ l.map (·.1) → (insL l k x).Perm (l ++ [(k, x)])
  | [], _, _, _ => List.Perm.refl _
  | a :: l, k, x, h => by
    simp only [List.map_cons, List.mem_cons, not_or] at h
    unfold insL
    split
    · exact (insL_new l k x h.2).cons a
    · rw [if_neg (fun e => h.1 e.symm)]
      exact (List.perm_append_singleton (k, x) (a :: l)).symm
/-- A key that is there. -/
theorem insL_old : ∀ (l : List LRow) (k : ByteArray) (x was : Setting), Rising l → (k, was) ∈ l → insL l k x = if 0 < cmpSet x was then l.map (fun p => if p.1 = k then (k, x) else p) else l
  | [], _, _, _, _, h => by simp at h
  | a :: l, k, x, was, hr, hm => by
    unfold insL
    rcases List.mem_cons.1 hm with e | hm'
    · subst e
      rw [if_neg cmpS_irr, if_pos rfl]
      have hno : ∀ p ∈ l, p.1 ≠ k := fun p hp e => by
        have := hr.1 p hp
        rw [e] at this; exact cmpS_irr this
      split
      · rw [List.map_cons, if_pos rfl]
        congr 1
        have : l.map (fun p => if p.1 = k then (k, x) else p) = l := by
          conv => rhs; rw [← List.map_id l]
          exact List.map_congr_left fun p hp => by rw [if_neg (hno p hp)]; rfl
        rw [this]
      · rfl
    · have hlt : cmpS a.1 k < 0 := hr.1 _ hm'
      rw [if_pos hlt, insL_old l k x was hr.2 hm']
      have hne : a.1 ≠ k := fun e => by rw [e] at hlt; exact cmpS_irr hlt
      split
      · rw [List.map_cons, if_neg hne]
      · rfl

/-- May a setting be? -/
def checkE (k : ByteArray) (x : Setting) : Int := if 16 < k.size ∨ 16 < x.val.size then 3 else if x.n < 0 ∨ 2147483648 ≤ x.n then 5 else 0
def setL (l : List LRow) (k : ByteArray) (x : Setting) : List LRow := if checkE k x = 0 then insL l k x else l
/-- Rows that may be. -/
def RowsOk (l : List LRow) : Prop := Rising l ∧ ∀ p ∈ l, checkE p.1 p.2 = 0
theorem checkE_bd {k : ByteArray} {x : Setting} (h : checkE k x = 0) : k.size ≤ 16 ∧ x.val.size ≤ 16 ∧ 0 ≤ x.n ∧ x.n < 2147483648 := by
  unfold checkE at h
  split at h
  · omega
  · split at h
    · omega
    · omega
theorem insL_mem : ∀ (l : List LRow) (k : ByteArray) (x : Setting), ∀ y ∈ insL l k x, y = (k, x) ∨ y ∈ l
  | [], k, x, y, hy => by simp [insL] at hy; exact .inl hy
  | a :: l, k, x, y, hy => by
    unfold insL at hy
    split at hy
    · rcases List.mem_cons.1 hy with h | h
      · exact .inr (by rw [h]; simp)
      · rcases insL_mem l k x y h with h | h
        · exact .inl h
        · exact .inr (List.mem_cons.2 (.inr h))
    · split at hy
      · split at hy
        · rcases List.mem_cons.1 hy with h | h
          · exact .inl h
          · exact .inr (List.mem_cons.2 (.inr h))
        · exact .inr hy
      · rcases List.mem_cons.1 hy with h | h
        · exact .inl h
        · exact .inr h
theorem setL_ok {l : List LRow} (h : RowsOk l) (k : ByteArray) (x : Setting) : RowsOk (setL l k x) := by
  unfold setL
  split
  · rename_i hc
    refine ⟨insL_rising l k x h.1, fun p hp => ?_⟩
    rcases insL_mem l k x p hp with e | hp
    · rw [e]; exact hc
    · exact h.2 p hp
  · exact h
theorem insL_length (l : List LRow) (k : ByteArray) (x : Setting) : (insL l k x).length ≤ l.length + 1 := by
  induction l with
  | nil => simp [insL]
  | cons a l ih =>
    unfold insL
    repeat' split
    all_goals simp; try omega
theorem setL_length (l : List LRow) (k : ByteArray) (x : Setting) : (setL l k x).length ≤ l.length + 1 := by
  unfold setL; split
  · exact insL_length l k x
  · omega
/-- A key's row. -/
def getL (l : List LRow) (k : ByteArray) : Option Setting := (l.find? (fun p => decide (p.1 = k))).map (·.2)

end Go.Proofs.Ytlonihfhgfmplaa
