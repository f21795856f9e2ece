/- Plain law of bags: what calls make of them. No walk. -/
import Derived.Test.YtlonihfhgfmplaaBagI
namespace Go.Proofs.Ytlonihfhgfmplaa
open Go.RowKit

def addsOf (l : List Act) : List BRow := l.flatMap fun a => if isAdd a then (if 16 < a.val.size then [] else [⟨a.tag, a.val⟩]) else []
def gonesOf (l : List Act) : List BRow := l.flatMap fun a => if isAdd a then [] else (if 16 < a.val.size then [] else a.T.map fun t => ⟨t, a.val⟩)
def runS (s : BSt) (l : List Act) : BSt := l.foldl playS s
theorem runS_snoc (s : BSt) (l : List Act) (a : Act) : runS s (l ++ [a]) = playS (runS s l) a := by simp [runS]

/-- A state tells: these are gone; these were added and are not gone. -/
structure Tells (s : BSt) (adds gones : BRow → Prop) : Prop where
  risL : Ris cmpRow s.1
  risG : Ris cmpRow s.2
  live : ∀ z, z ∈ s.1 ↔ adds z ∧ ¬ gones z
  gone : ∀ z, z ∈ s.2 ↔ gones z
theorem Tells.uniq {s t : BSt} {p q : BRow → Prop} (h : Tells s p q) (k : Tells t p q) : s = t :=
  Prod.ext (ris_ext totRow h.risL k.risL fun z => (h.live z).trans (k.live z).symm) (ris_ext totRow h.risG k.risG fun z => (h.gone z).trans (k.gone z).symm)
theorem Tells.congr {s : BSt} {p q p' q' : BRow → Prop} (h : Tells s p q) (hp : ∀ z, p z ↔ p' z) (hq : ∀ z, q z ↔ q' z) : Tells s p' q' :=
  ⟨h.risL, h.risG, fun z => (h.live z).trans (by rw [hp, hq]), fun z => (h.gone z).trans (hq z)⟩
theorem Tells.none : Tells ([], []) (fun _ => False) (fun _ => False) := ⟨Ris.nil, Ris.nil, by simp, by simp⟩
theorem Tells.play {s : BSt} {p q : BRow → Prop} (h : Tells s p q) (a : Act) : Tells (playS s a) (fun z => p z ∨ z ∈ addsOf [a]) (fun z => q z ∨ z ∈ gonesOf [a]) := by
  obtain ⟨L, G⟩ := s
  unfold playS addsOf gonesOf
  simp only [List.flatMap_cons, List.flatMap_nil, List.append_nil]
  by_cases hk : isAdd a = true
  · simp only [hk, if_true]
    refine ⟨?_, h.risG, ?_, fun z => by simp [h.gone]⟩
    · unfold addB
      split
      · exact h.risL
      · split
        · exact h.risL
        · exact ris_insC totRow h.risL
    · intro z
      show z ∈ addB L G ⟨a.tag, a.val⟩ ↔ _
      have hl := h.live z
      have hg := h.gone
      simp only at hl hg
      unfold addB
      dsimp only
      split
      · simp [hl]
      · simp only [List.mem_singleton, List.not_mem_nil, or_false]
        split
        · rename_i hin
          rw [hl]
          constructor
          · rintro ⟨h1, h2⟩; exact ⟨.inl h1, h2⟩
          · rintro ⟨h1 | h1, h2⟩
            · exact ⟨h1, h2⟩
            · subst h1; exact absurd ((hg _).1 hin) h2
        · rename_i hin
          rw [mem_insC totRow, hl]
          constructor
          · rintro (h1 | ⟨h1, h2⟩)
            · subst h1; exact ⟨.inr rfl, fun h => hin ((hg _).2 h)⟩
            · exact ⟨.inl h1, h2⟩
          · rintro ⟨h1 | h1, h2⟩
            · exact .inr ⟨h1, h2⟩
            · exact .inl h1
  · simp only [hk]
    by_cases hl : 16 < a.val.size
    · simp only [hl, if_true, Bool.false_eq_true, if_false, List.not_mem_nil, or_false]
      exact h
    · simp only [hl, Bool.false_eq_true, if_false, List.not_mem_nil, or_false]
      refine ⟨ris_remL h.risL, ris_remG h.risG, fun z => ?_, fun z => ?_⟩
      · show z ∈ remL L a.val a.T ↔ _
        have h1 := h.live z
        simp only at h1
        rw [mem_remL, h1]
        constructor
        · rintro ⟨⟨h1, h2⟩, h3⟩
          refine ⟨h1, ?_⟩
          rintro (h4 | h4)
          · exact h2 h4
          · obtain ⟨t, ht, rfl⟩ := List.mem_map.1 h4
            exact h3 ⟨rfl, ht⟩
        · rintro ⟨h1, h2⟩
          exact ⟨⟨h1, fun h => h2 (.inl h)⟩, fun h => h2 (.inr (List.mem_map.2 ⟨z.tag, h.2, by cases z; simp_all⟩))⟩
      · show z ∈ remG G a.val a.T ↔ _
        have h1 := h.gone z
        simp only at h1
        rw [mem_remG, h1]
        refine or_congr Iff.rfl ⟨fun h => List.mem_map.2 ⟨z.tag, h.2, by cases z; simp_all⟩, fun h => ?_⟩
        obtain ⟨t, ht, rfl⟩ := List.mem_map.1 h
        exact ⟨rfl, ht⟩
theorem Tells.run {s : BSt} {p q : BRow → Prop} (h : Tells s p q) : ∀ l : List Act, Tells (runS s l) (fun z => p z ∨ z ∈ addsOf l) (fun z => q z ∨ z ∈ gonesOf l) := by
  intro l
  induction l generalizing s p q with
  | nil => exact h.congr (by simp [addsOf]) (by simp [gonesOf])
  | cons a l ih =>
    refine (ih (h.play a)).congr (fun z => ?_) (fun z => ?_)
    · simp only [addsOf, List.flatMap_cons, List.flatMap_nil, List.append_nil, List.mem_append, or_assoc]
    · simp only [gonesOf, List.flatMap_cons, List.flatMap_nil, List.append_nil, List.mem_append, or_assoc]
theorem run_tells (l : List Act) : Tells (runS ([], []) l) (· ∈ addsOf l) (· ∈ gonesOf l) := (Tells.none.run l).congr (by simp) (by simp)

/-- Few calls: few rows. -/
def FewActs (l : List Act) : Prop := l.length ≤ 30 ∧ ∀ a ∈ l, a.T.length ≤ 12 ∧ a.val.size ≤ 100
theorem flatMap_len {α β : Type} (f : α → List β) (k : Nat) : ∀ l : List α, (∀ a ∈ l, (f a).length ≤ k) → (l.flatMap f).length ≤ l.length * k
  | [], _ => by simp
  | a :: l, h => by
    have h1 := h a (by simp)
    have h2 := flatMap_len f k l (fun b hb => h b (by simp [hb]))
    simp only [List.flatMap_cons, List.length_append, List.length_cons, Nat.add_mul]
    omega
theorem addsOf_len {l : List Act} (h : FewActs l) : (addsOf l).length ≤ 30 := by
  have := flatMap_len (fun a : Act => if isAdd a then (if 16 < a.val.size then [] else [(⟨a.tag, a.val⟩ : BRow)]) else []) 1 l (fun a ha => by
    repeat' split
    all_goals simp)
  have h2 := h.1
  unfold addsOf; omega
theorem gonesOf_len {l : List Act} (h : FewActs l) : (gonesOf l).length ≤ 360 := by
  have := flatMap_len (fun a => if isAdd a then [] else (if 16 < a.val.size then [] else a.T.map fun t => (⟨t, a.val⟩ : BRow))) 12 l (fun a ha => by
    have := (h.2 a ha).1
    repeat' split
    all_goals simp; try omega)
  have h2 := h.1
  unfold gonesOf; omega
theorem Tells.lenL {s : BSt} {p q : BRow → Prop} (h : Tells s p q) {l : List BRow} (hl : ∀ z, p z → z ∈ l) : s.1.length ≤ l.length := nodup_len (h.risL.nodup totRow) fun z hz => hl z ((h.live z).1 hz).1
theorem Tells.lenG {s : BSt} {p q : BRow → Prop} (h : Tells s p q) {l : List BRow} (hl : ∀ z, q z → z ∈ l) : s.2.length ≤ l.length := nodup_len (h.risG.nodup totRow) fun z hz => hl z ((h.gone z).1 hz)
theorem few_take {l : List Act} (h : FewActs l) (k : Nat) : FewActs (l.take k) := ⟨by have := h.1; simp; omega, fun a ha => h.2 a (List.mem_of_mem_take ha)⟩
theorem run_len {l : List Act} (h : FewActs l) (k : Nat) : (runS ([], []) (l.take k)).1.length ≤ 30 ∧ (runS ([], []) (l.take k)).2.length ≤ 360 :=
  ⟨Nat.le_trans ((run_tells (l.take k)).lenL fun _ h => h) (addsOf_len (few_take h k)), Nat.le_trans ((run_tells (l.take k)).lenG fun _ h => h) (gonesOf_len (few_take h k))⟩

/-! ### What is removed -/
theorem mem_tagsOf {L : List BRow} {v : ByteArray} {t : Id32} : t ∈ tagsOf L v ↔ (⟨t, v⟩ : BRow) ∈ L := by
  unfold tagsOf
  rw [List.mem_map]
  constructor
  · rintro ⟨x, hx, rfl⟩
    obtain ⟨h1, h2⟩ := List.mem_filter.1 hx
    have : x.val = v := by simpa using h2
    subst this; exact h1
  · intro h; exact ⟨_, List.mem_filter.2 ⟨h, by simp⟩, rfl⟩
theorem remL_tags {L : List BRow} {v : ByteArray} : remL L v (tagsOf L v) = L.filter fun x => decide (x.val ≠ v) := by
  have hf : ∀ (tags : List Id32) (L : List BRow), remL L v tags = L.filter fun x => decide (¬ (x.val = v ∧ x.tag ∈ tags)) := by
    intro tags
    induction tags with
    | nil => intro L; exact (List.filter_eq_self.2 (by simp)).symm
    | cons t tags ih =>
      intro L
      show remL (L.filter fun y => decide (y ≠ (⟨t, v⟩ : BRow))) v tags = _
      rw [ih, List.filter_filter]
      refine List.filter_congr fun x _ => ?_
      rw [Bool.eq_iff_iff]
      simp only [Bool.and_eq_true, decide_eq_true_eq, List.mem_cons]
      constructor
      · rintro ⟨h1, h2⟩ ⟨e1, e2 | e2⟩
        · exact h2 (by cases x; simp_all)
        · exact h1 ⟨e1, e2⟩
      · intro h
        exact ⟨fun h1 => h ⟨h1.1, .inr h1.2⟩, fun e => h (by subst e; exact ⟨rfl, .inl rfl⟩)⟩
  rw [hf]
  refine List.filter_congr fun x hx => ?_
  rw [Bool.eq_iff_iff]
  simp only [decide_eq_true_eq]
  constructor
  · intro h e
    exact h ⟨e, mem_tagsOf.2 (by rw [← e]; exact hx)⟩
  · intro h h2; exact h h2.1
theorem tags_gone (L : List BRow) (v : ByteArray) : tagsOf (L.filter fun x => decide (x.val ≠ v)) v = [] := by
  unfold tagsOf
  rw [List.filter_filter, List.map_eq_nil_iff, List.filter_eq_nil_iff]
  intro x _ h
  simp at h
/-- The names that stay. -/
theorem list_gone (L : List BRow) (v : ByteArray) : listB (L.filter fun x => decide (x.val ≠ v)) = (listB L).filter fun s => decide (s ≠ v) := by
  refine ris_ext totS (ris_sortC totS _) ((ris_sortC totS _).filter _) fun z => ?_
  unfold listB
  rw [mem_sortC totS, List.mem_filter, mem_sortC totS]
  simp only [List.mem_map, List.mem_filter, decide_eq_true_eq]
  constructor
  · rintro ⟨x, ⟨h1, h2⟩, rfl⟩; exact ⟨⟨x, h1, rfl⟩, h2⟩
  · rintro ⟨⟨x, h1, rfl⟩, h2⟩; exact ⟨x, ⟨h1, h2⟩, rfl⟩

end Go.Proofs.Ytlonihfhgfmplaa
