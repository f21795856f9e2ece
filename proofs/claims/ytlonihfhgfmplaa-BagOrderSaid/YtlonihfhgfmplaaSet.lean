/- Rows sorted by a total order, each once: plain law; no walk. -/
import Derived.Test.YtlonihfhgfmplaaOrd
import Derived.Sort.LotA
namespace Go.Proofs.Ytlonihfhgfmplaa
open Go.RowKit Go.Sort

/-- A total order, as a number: below, equal, above. -/
structure TotC {α : Type} (c : α → α → Int) : Prop where
  zero : ∀ a b, c a b = 0 ↔ a = b
  anti : ∀ a b, c b a = - c a b
  trans : ∀ a b d, c a b < 0 → c b d < 0 → c a d < 0

theorem totS : TotC cmpS := ⟨cmpS_zero, cmpS_anti, cmpS_trans⟩
theorem totId : TotC cmpId := ⟨cmpId_zero, cmpId_anti, cmpId_trans⟩

section
variable {α : Type} {c : α → α → Int}

theorem TotC.irr (T : TotC c) (a : α) : ¬ c a a < 0 := by rw [(T.zero a a).2 rfl]; omega
theorem TotC.self (T : TotC c) (a : α) : c a a = 0 := (T.zero a a).2 rfl
theorem TotC.asym (T : TotC c) {a b : α} (h : c a b < 0) : ¬ c b a < 0 := by have := T.anti a b; omega
theorem TotC.ne (T : TotC c) {a b : α} (h : c a b < 0) : a ≠ b := fun e => by subst e; exact T.irr a h
theorem TotC.flip (T : TotC c) {a b : α} (h1 : ¬ c a b < 0) (h2 : a ≠ b) : c b a < 0 := by
  have h3 : c a b ≠ 0 := fun e => h2 ((T.zero a b).1 e)
  have := T.anti a b
  omega
theorem TotC.le_trans (T : TotC c) {a b d : α} (h1 : ¬ c b a < 0) (h2 : c b d < 0) : c a d < 0 := by
  by_cases e : a = b
  · subst e; exact h2
  · exact T.trans a b d (T.flip h1 (fun e' => e e'.symm)) h2

/-- Two orders in turn: the second where the first says equal. -/
def orC (a b : Int) : Int := if a = 0 then b else a
theorem TotC.pair {β : Type} {d : β → β → Int} (T : TotC c) (U : TotC d) : TotC (fun x y : α × β => orC (c x.1 y.1) (d x.2 y.2)) where
  zero a b := by
    unfold orC
    constructor
    · intro h
      split at h
      · rename_i h1; exact Prod.ext ((T.zero _ _).1 h1) ((U.zero _ _).1 h)
      · contradiction
    · intro h; subst h; rw [if_pos (T.self _)]; exact U.self _
  anti a b := by
    unfold orC
    have h1 := T.anti a.1 b.1
    have h2 := U.anti a.2 b.2
    split <;> split <;> omega
  trans a b e := by
    unfold orC
    intro h1 h2
    by_cases e1 : c a.1 b.1 = 0
    · rw [if_pos e1] at h1
      have q := (T.zero _ _).1 e1
      rw [q]
      by_cases e2 : c b.1 e.1 = 0
      · rw [if_pos e2] at h2 ⊢; exact U.trans _ _ _ h1 h2
      · rw [if_neg e2] at h2 ⊢; exact h2
    · rw [if_neg e1] at h1
      by_cases e2 : c b.1 e.1 = 0
      · have q := (T.zero _ _).1 e2
        rw [← q, if_neg e1]; exact h1
      · rw [if_neg e2] at h2
        have := T.trans _ _ _ h1 h2
        rw [if_neg (by omega)]; exact this
/-- An order of what is told by a one-to-one reading. -/
theorem TotC.of {β : Type} {d : β → β → Int} (T : TotC c) (f : β → α) (hf : ∀ x y, f x = f y → x = y) (hd : ∀ x y, d x y = c (f x) (f y)) : TotC d where
  zero a b := by rw [hd, T.zero]; exact ⟨hf a b, fun h => by rw [h]⟩
  anti a b := by rw [hd, hd]; exact T.anti _ _
  trans a b e := by rw [hd, hd, hd]; exact T.trans _ _ _

/-- Rising. -/
def Ris (c : α → α → Int) (l : List α) : Prop := l.Pairwise (fun x y => c x y < 0)
theorem Ris.nil : Ris c [] := List.Pairwise.nil
theorem ris_cons {x : α} {l : List α} : Ris c (x :: l) ↔ (∀ y ∈ l, c x y < 0) ∧ Ris c l := List.pairwise_cons
theorem Ris.filter {l : List α} (h : Ris c l) (p : α → Bool) : Ris c (l.filter p) := List.Pairwise.sublist List.filter_sublist h
theorem Ris.sub {l m : List α} (h : Ris c l) (hs : m.Sublist l) : Ris c m := List.Pairwise.sublist hs h
theorem Ris.nodup (T : TotC c) {l : List α} (h : Ris c l) : l.Nodup := List.Pairwise.imp (S := fun a b => a ≠ b) (fun {a b} h => T.ne h) h

/-- One more, each once. -/
def insC (c : α → α → Int) : List α → α → List α
  | [], x => [x]
  | y :: l, x => if c y x < 0 then y :: insC c l x else if c y x = 0 then y :: l else x :: y :: l
def sortC (c : α → α → Int) (l : List α) : List α := l.foldl (insC c) []

theorem mem_insC (T : TotC c) : ∀ {l : List α} {x z : α}, z ∈ insC c l x ↔ z = x ∨ z ∈ l
  | [], x, z => by simp [insC]
  | y :: l, x, z => by
    unfold insC
    split
    · rw [List.mem_cons, mem_insC T, List.mem_cons]
      constructor
      · rintro (h | h | h)
        · exact .inr (.inl h)
        · exact .inl h
        · exact .inr (.inr h)
      · rintro (h | h | h)
        · exact .inr (.inl h)
        · exact .inl h
        · exact .inr (.inr h)
    · split
      · rename_i h0
        have e : y = x := (T.zero y x).1 h0
        subst e
        simp only [List.mem_cons]
        constructor
        · rintro (h | h)
          · exact .inl h
          · exact .inr (.inr h)
        · rintro (h | h | h)
          · exact .inl h
          · exact .inl h
          · exact .inr h
      · simp only [List.mem_cons]
theorem ris_insC (T : TotC c) : ∀ {l : List α} {x : α}, Ris c l → Ris c (insC c l x)
  | [], x, _ => by simp [insC, Ris]
  | y :: l, x, h => by
    obtain ⟨h1, h2⟩ := ris_cons.1 h
    unfold insC
    split
    · rename_i hlt
      refine ris_cons.2 ⟨fun z hz => ?_, ris_insC T h2⟩
      rcases (mem_insC T).1 hz with e | hz
      · rw [e]; exact hlt
      · exact h1 z hz
    · rename_i hlt
      split
      · exact h
      · rename_i h0
        have hxy : c x y < 0 := by have := T.anti y x; omega
        refine ris_cons.2 ⟨fun z hz => ?_, h⟩
        rcases List.mem_cons.1 hz with e | hz
        · rw [e]; exact hxy
        · exact T.trans _ _ _ hxy (h1 z hz)
theorem foldl_insC (T : TotC c) : ∀ (l a : List α), Ris c a → Ris c (l.foldl (insC c) a) ∧ ∀ z, z ∈ l.foldl (insC c) a ↔ z ∈ a ∨ z ∈ l
  | [], a, h => ⟨h, fun z => by simp⟩
  | x :: l, a, h => by
    obtain ⟨h1, h2⟩ := foldl_insC T l (insC c a x) (ris_insC T h)
    refine ⟨h1, fun z => ?_⟩
    rw [List.foldl_cons, h2, mem_insC T, List.mem_cons]
    constructor
    · rintro ((h | h) | h)
      · exact .inr (.inl h)
      · exact .inl h
      · exact .inr (.inr h)
    · rintro (h | h | h)
      · exact .inl (.inr h)
      · exact .inl (.inl h)
      · exact .inr h
theorem ris_sortC (T : TotC c) (l : List α) : Ris c (sortC c l) := (foldl_insC T l [] Ris.nil).1
theorem mem_sortC (T : TotC c) {l : List α} {z : α} : z ∈ sortC c l ↔ z ∈ l := by
  have := (foldl_insC T l [] Ris.nil).2 z
  simpa [sortC] using this
theorem sortC_snoc (l : List α) (x : α) : sortC c (l ++ [x]) = insC c (sortC c l) x := by simp [sortC]
theorem insC_length (l : List α) (x : α) : (insC c l x).length ≤ l.length + 1 := by
  induction l with
  | nil => simp [insC]
  | cons y l ih =>
    unfold insC
    repeat' split
    all_goals simp; try omega
theorem sortC_length (l : List α) : (sortC c l).length ≤ l.length := by
  have h : ∀ (l a : List α), (l.foldl (insC c) a).length ≤ a.length + l.length := by
    intro l
    induction l with
    | nil => intro a; simp
    | cons x l ih =>
      intro a
      have h1 := ih (insC c a x)
      have h2 := insC_length (c := c) a x
      simp only [List.foldl_cons, List.length_cons]; omega
  simpa [sortC] using h l []

/-- Two rising lists of the same are one. -/
theorem ris_ext (T : TotC c) : ∀ {l m : List α}, Ris c l → Ris c m → (∀ z, z ∈ l ↔ z ∈ m) → l = m
  | [], [], _, _, _ => rfl
  | [], y :: m, _, _, h => absurd ((h y).2 (by simp)) (by simp)
  | x :: l, [], _, _, h => absurd ((h x).1 (by simp)) (by simp)
  | x :: l, y :: m, hl, hm, h => by
    obtain ⟨h1, h2⟩ := ris_cons.1 hl
    obtain ⟨k1, k2⟩ := ris_cons.1 hm
    have e : x = y := by
      rcases List.mem_cons.1 ((h x).1 (by simp)) with e | hx
      · exact e
      · rcases List.mem_cons.1 ((h y).2 (by simp)) with e | hy
        · exact e.symm
        · exact absurd (k1 x hx) (T.asym (h1 y hy))
    subst e
    congr 1
    refine ris_ext T h2 k2 fun z => ?_
    have hz := h z
    simp only [List.mem_cons] at hz
    constructor
    · intro hzl
      rcases hz.1 (.inr hzl) with e | e
      · subst e; exact absurd (h1 z hzl) (T.irr z)
      · exact e
    · intro hzm
      rcases hz.2 (.inr hzm) with e | e
      · subst e; exact absurd (k1 z hzm) (T.irr z)
      · exact e
theorem insC_old (T : TotC c) {l : List α} {x : α} (h : Ris c l) (hx : x ∈ l) : insC c l x = l :=
  ris_ext T (ris_insC T h) h fun z => by rw [mem_insC T]; exact ⟨fun h => h.elim (fun e => by rw [e]; exact hx) id, .inr⟩
theorem sortC_ris (T : TotC c) {l : List α} (h : Ris c l) : sortC c l = l := ris_ext T (ris_sortC T l) h fun _ => mem_sortC T
theorem sortC_congr (T : TotC c) {l m : List α} (h : ∀ z, z ∈ l ↔ z ∈ m) : sortC c l = sortC c m := ris_ext T (ris_sortC T l) (ris_sortC T m) fun z => by rw [mem_sortC T, mem_sortC T, h]
/-- Where a new one goes. -/
theorem insC_at : ∀ (l : List α) (x : α) (k : Nat), k ≤ l.length → (∀ j (hj : j < l.length), j < k → c l[j] x < 0) → (∀ hk : k < l.length, 0 < c l[k] x) → insC c l x = l.take k ++ x :: l.drop k
  | [], x, k, hk, _, _ => by
    have : k = 0 := by simpa using hk
    subst this; rfl
  | y :: l, x, 0, _, _, h2 => by
    have h := h2 (by simp)
    simp only [List.getElem_cons_zero] at h
    unfold insC
    rw [if_neg (by omega), if_neg (by omega)]; rfl
  | y :: l, x, k + 1, hk, h1, h2 => by
    have h := h1 0 (by simp) (by omega)
    simp only [List.getElem_cons_zero] at h
    unfold insC
    rw [if_pos h, insC_at l x k (by simpa using hk) (fun j hj hjk => by have := h1 (j + 1) (by simpa using hj) (by omega); simpa using this) (fun hk' => by have := h2 (by simpa using hk'); simpa using this)]
    rfl
/-- What is rising is so step by step. -/
theorem ris_step (T : TotC c) {l : List α} (h : ∀ i (hi : i + 1 < l.length), c l[i] l[i + 1] < 0) : Ris c l := by
  induction l with
  | nil => exact Ris.nil
  | cons x l ih =>
    have ih' := ih (fun i hi => by have := h (i + 1) (by simpa using hi); simpa using this)
    refine ris_cons.2 ⟨fun y hy => ?_, ih'⟩
    cases l with
    | nil => simp at hy
    | cons z l =>
      have h0 := h 0 (by simp)
      simp only [List.getElem_cons_zero, List.getElem_cons_succ] at h0
      rcases List.mem_cons.1 hy with e | hy
      · rw [e]; exact h0
      · exact T.trans _ _ _ h0 ((ris_cons.1 ih').1 y hy)
theorem ris_get {l : List α} (h : Ris c l) {i j : Nat} (hij : i < j) (hj : j < l.length) : c (l[i]'(by omega)) l[j] < 0 := List.pairwise_iff_getElem.1 h i j (by omega) hj hij

/-- core's sort of whatever order. -/
theorem mergeSort_ris (T : TotC c) {l m : List α} (h : Ris c l) (hp : m.Perm l) : m.mergeSort (fun x y => !decide (c y x < 0)) = l := by
  have htot : ∀ a b : α, ((!decide (c b a < 0)) || !decide (c a b < 0)) = true := fun a b => by
    by_cases h1 : c b a < 0
    · have := T.asym h1; simp [this]
    · simp [h1]
  have htr : ∀ a b d : α, (!decide (c b a < 0)) = true → (!decide (c d b < 0)) = true → (!decide (c d a < 0)) = true := fun a b d h1 h2 => by
    simp only [Bool.not_eq_true', decide_eq_false_iff_not] at h1 h2 ⊢
    intro h3
    exact h2 (T.le_trans (a := d) (b := a) (d := b) (T.asym h3) (by
      by_cases e : a = b
      · subst e; exact absurd h3 h2
      · exact T.flip h1 (fun e' => e e'.symm)))
  refine List.Perm.eq_of_pairwise (le := fun x y => (!decide (c y x < 0)) = true) ?_ (List.pairwise_mergeSort htr htot m) ?_ ((List.mergeSort_perm _ _).trans hp)
  · intro a b _ _ h1 h2
    simp only [Bool.not_eq_true', decide_eq_false_iff_not] at h1 h2
    exact Classical.byContradiction fun e => h1 (T.flip h2 e)
  · exact List.Pairwise.imp (fun h => by simpa using T.asym h) h
theorem swo_of (T : TotC c) : SWO (fun x y => decide (c x y < 0)) where
  irrefl x := by simpa using T.irr x
  trans x y z h1 h2 := by simp only [decide_eq_true_eq] at *; exact T.trans _ _ _ h1 h2
  ntrans x y z h1 h2 := by
    simp only [decide_eq_false_iff_not] at *
    intro h3
    exact h2 (T.le_trans (a := y) (b := x) (d := z) h1 h3)
end

end Go.Proofs.Ytlonihfhgfmplaa
