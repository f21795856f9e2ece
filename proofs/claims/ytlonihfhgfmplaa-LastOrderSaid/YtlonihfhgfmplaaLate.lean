/- The reference Latest: rows by rising keys, the latest of each. -/
import Derived.Test.YtlonihfhgfmplaaRef
import Derived.Test.YtlonihfhgfmplaaMany
namespace Go.Proofs.Ytlonihfhgfmplaa
open Go.RowKit

def insR : List Row → Row → List Row
  | [], x => [x]
  | y :: l, x => if cmpS y.key x.key < 0 then y :: insR l x else if y.key = x.key then (if laterB x y then x :: l else y :: l) else x :: y :: l
def latestR (l : List Row) : List Row := l.foldl insR []
def rowL (x : Row) : LRow := (x.key, rowS x)
theorem insR_map : ∀ (l : List Row) (x : Row), (insR l x).map rowL = insL (l.map rowL) x.key (rowS x)
  | [], _ => rfl
  | y :: l, x => by
    unfold insR insL
    simp only [List.map_cons]
    have e1 : (rowL y).1 = y.key := rfl
    have e2 : (rowL y).2 = rowS y := rfl
    rw [e1, e2]
    split
    · rw [List.map_cons, insR_map l x]
    · split
      · have h := laterB_eq x y
        by_cases hl : 0 < cmpSet (rowS x) (rowS y)
        · rw [if_pos hl, if_pos (by rw [h]; exact decide_eq_true hl)]; rename_i he; simp [rowL, he]
        · rw [if_neg hl, if_neg (by rw [h]; simp [hl])]; rfl
      · rfl
theorem insR_at : ∀ (l : List Row) (x : Row) (k : Nat), k ≤ l.length → (∀ j (hj : j < l.length), j < k → cmpS (l[j]).key x.key < 0) → (∀ hk : k < l.length, ¬ cmpS (l[k]).key x.key < 0) →
    insR l x = if h : k < l.length ∧ (l[k]?).map (·.key) = some x.key then (if laterB x (l[k]'h.1) then l.set k x else l) else l.take k ++ x :: l.drop k
  | [], x, k, hk, _, _ => by
    have : k = 0 := by simpa using hk
    subst this
    simp [insR]
  | y :: l, x, 0, _, _, h2 => by
    have h := h2 (by simp)
    simp only [List.getElem_cons_zero] at h
    unfold insR
    rw [if_neg h]
    by_cases he : y.key = x.key
    · rw [if_pos he, dif_pos ⟨by simp, by simp [he]⟩]; rfl
    · rw [if_neg he, dif_neg (by simp [he])]; rfl
  | y :: l, x, k + 1, hk, h1, h2 => by
    have h := h1 0 (by simp) (by omega)
    simp only [List.getElem_cons_zero] at h
    unfold insR
    rw [if_pos h]
    have ih := insR_at l x k (by simpa using hk) (fun j hj hjk => by have := h1 (j + 1) (by simpa using hj) (by omega); simpa using this) (fun hk' => by have := h2 (by simpa using hk'); simpa using this)
    rw [ih]
    by_cases hc : k < l.length ∧ (l[k]?).map (·.key) = some x.key
    · rw [dif_pos hc, dif_pos ⟨by simpa using hc.1, by simpa using hc.2⟩]
      simp only [List.getElem_cons_succ, List.set_cons_succ]
      split <;> rfl
    · rw [dif_neg hc, dif_neg (fun hh => hc ⟨by simpa using hh.1, by simpa using hh.2⟩)]
      simp
theorem insR_length (l : List Row) (x : Row) : (insR l x).length ≤ l.length + 1 := by
  induction l with
  | nil => simp [insR]
  | cons y l ih =>
    unfold insR
    repeat' split
    all_goals simp; try omega
theorem latestR_snoc (l : List Row) (x : Row) : latestR (l ++ [x]) = insR (latestR l) x := by simp [latestR]
theorem foldl_length : ∀ (l a : List Row), (l.foldl insR a).length ≤ a.length + l.length
  | [], a => by simp
  | x :: l, a => by
    have h1 := foldl_length l (insR a x)
    have h2 := insR_length a x
    simp only [List.foldl_cons, List.length_cons]; omega
theorem latestR_length (l : List Row) : (latestR l).length ≤ l.length := by have := foldl_length l []; simpa [latestR] using this

end Go.Proofs.Ytlonihfhgfmplaa
