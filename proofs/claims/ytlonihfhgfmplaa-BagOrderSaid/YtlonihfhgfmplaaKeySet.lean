/- Maps to bool that serve as sets: their keys, all true. No program is named here. -/
import Derived.Test.YtlonihfhgfmplaaRange
namespace Go.Proofs.Ytlonihfhgfmplaa
open Go.RowKit

section
variable {P : Program} {K T E' : TypeId} {κ : Type} {kv : κ → Value} {ok : κ → Prop} {w w' : World} {b : Nat} {L L' : List κ} {x : κ}

/-- Block b is a map that has just the keys L, all true. -/
def SetAt (w : World) (b : Nat) (kv : κ → Value) (ok : κ → Prop) (L : List κ) : Prop :=
  ∃ M es clk, MapAt w b kv Value.bool ok M es clk ∧ (∀ x, x ∈ M.map (·.1) ↔ x ∈ L) ∧ ∀ p ∈ M, p.2 = true

theorem SetAt.congr (h : SetAt w b kv ok L) (hl : ∀ x, x ∈ L ↔ x ∈ L') : SetAt w b kv ok L' := by
  obtain ⟨M, es, clk, hm, hk, ht⟩ := h
  exact ⟨M, es, clk, hm, fun x => (hk x).trans (hl x), ht⟩
theorem SetAt.lt (h : SetAt w b kv ok L) : b < w.heap.size := by
  obtain ⟨M, es, clk, hm, _⟩ := h; exact hm.lt
theorem SetAt.kept {S : List Nat} (h : SetAt w b kv ok L) (k : Keep S w w') (hb : b ∉ S) : SetAt w' b kv ok L := by
  obtain ⟨M, es, clk, hm, hk⟩ := h
  exact ⟨M, es, clk, hm.kept k hb, hk⟩
theorem SetAt.below (h : SetAt w b kv ok L) (k : Below w.heap.size w w') : SetAt w' b kv ok L := h.kept (Keep.of_below k) (by simp)
theorem SetAt.new (w : World) (b : Nat) (hb : b = w.heap.size) : SetAt (w.alloc (.map #[] 0)) b kv ok [] := ⟨[], #[], 0, MapAt.new w b hb, by simp, by simp⟩
theorem SetAt.hit (h : SetAt w b kv ok L) (E : KeyEnc P K kv ok) (ht : P.underlying T = some (.map K E')) (hk : ok x) (hx : x ∈ L) :
    (Instr.lookup T (.map (some b)) (kv x) false).run P w = .ok (.bool true) w := by
  obtain ⟨M, es, clk, hm, hks, htr⟩ := h
  obtain ⟨p, hp, rfl⟩ := List.mem_map.1 ((hks x).2 hx)
  have h1 : (p.1, true) ∈ M := by
    have := htr p hp
    rwa [show (p.1, true) = p from by cases p; simp_all]
  exact hm.hit E ht hk h1 false
theorem SetAt.miss (h : SetAt w b kv ok L) (E : KeyEnc P K kv ok) (ht : P.underlying T = some (.map K E')) (hz : ∀ w, (zeroValue E').run P w = .ok (.bool false) w) (hk : ok x) (hx : x ∉ L) :
    (Instr.lookup T (.map (some b)) (kv x) false).run P w = .ok (.bool false) w := by
  obtain ⟨M, es, clk, hm, hks, htr⟩ := h
  exact hm.miss E ht (hz w) hk (fun h => hx ((hks x).1 h)) false
theorem SetAt.put [DecidableEq κ] (h : SetAt w b kv ok L) (E : KeyEnc P K kv ok) (ht : P.underlying T = some (.map K E')) (hk : ok x) :
    ∃ w', (Instr.mapUpdate T (.map (some b)) (kv x) (.bool true)).run P w = .ok () w' ∧ SetAt w' b kv ok (x :: L) ∧ Keep [b] w w' := by
  obtain ⟨M, es, clk, hm, hks, htr⟩ := h
  obtain ⟨w', es', clk', hrun, hm', hkeep⟩ := hm.update (v := true) E ht hk
  refine ⟨w', hrun, ⟨_, es', clk', hm', ?_, ?_⟩, hkeep⟩
  · intro y
    unfold putL
    split
    · rename_i hin
      have e : (M.map fun p => if p.1 = x then (x, true) else p).map (·.1) = M.map (·.1) := by
        rw [List.map_map]
        refine List.map_congr_left fun p _ => ?_
        simp only [Function.comp_apply]
        split
        · rename_i h; exact h.symm
        · rfl
      rw [e, hks, List.mem_cons]
      exact ⟨.inr, fun h => h.elim (fun h => by subst h; exact (hks _).1 hin) id⟩
    · rw [List.map_append, List.mem_append, hks, List.mem_cons]
      simp only [List.map_cons, List.map_nil, List.mem_singleton]
      exact Or.comm
  · intro p hp
    unfold putL at hp
    split at hp
    · obtain ⟨q, hq, rfl⟩ := List.mem_map.1 hp
      split
      · rfl
      · exact htr q hq
    · rcases List.mem_append.1 hp with hp | hp
      · exact htr p hp
      · simp at hp; subst hp; rfl
theorem SetAt.del [DecidableEq κ] (h : SetAt w b kv ok L) (E : KeyEnc P K kv ok) (ht : P.underlying T = some (.map K E')) (hk : ok x) (ty : TypeId) :
    ∃ w', (Builtin.delete_ #[T, K] ty #[.map (some b), kv x]).run P w = .ok (.tuple #[]) w' ∧ SetAt w' b kv ok (L.filter fun y => decide (y ≠ x)) ∧ Keep [b] w w' := by
  obtain ⟨M, es, clk, hm, hks, htr⟩ := h
  obtain ⟨w', es', hrun, hm', hkeep⟩ := hm.delete (ty := ty) E ht hk
  refine ⟨w', hrun, ⟨_, es', clk, hm', ?_, ?_⟩, hkeep⟩
  · intro y
    simp only [List.mem_map, mem_delL, List.mem_filter, decide_eq_true_eq, ← hks]
    constructor
    · rintro ⟨p, ⟨h1, h2⟩, rfl⟩; exact ⟨⟨p, h1, rfl⟩, h2⟩
    · rintro ⟨⟨p, h1, rfl⟩, h2⟩; exact ⟨p, ⟨h1, h2⟩, rfl⟩
  · intro p hp
    exact htr p (mem_delL.1 hp).1
/-- A range loop over a set: the keys come in some order, each once. -/
def SetRange (w : World) (b r : Nat) (kv : κ → Value) (ok : κ → Prop) (L S : List κ) : Prop :=
  ∃ M Z, RangeAt w b r kv Value.bool ok M Z ∧ (∀ x, x ∈ M.map (·.1) ↔ x ∈ L) ∧ (∀ p ∈ M, p.2 = true) ∧ Z.map (·.1) = S ∧ (M.map (·.1)).Nodup
theorem SetRange.ne {r : Nat} {S : List κ} (h : SetRange w b r kv ok L S) : r ≠ b := by
  obtain ⟨M, Z, h, _⟩ := h; exact h.ne
theorem SetRange.lt {r : Nat} {S : List κ} (h : SetRange w b r kv ok L S) : r < w.heap.size ∧ b < w.heap.size := by
  obtain ⟨M, Z, h, _⟩ := h; exact h.lt
theorem SetRange.kept {r : Nat} {S : List κ} {A : List Nat} (h : SetRange w b r kv ok L S) (k : Keep A w w') (hb : b ∉ A) (hr : r ∉ A) : SetRange w' b r kv ok L S := by
  obtain ⟨M, Z, h, rest⟩ := h
  exact ⟨M, Z, h.kept k hb hr, rest⟩
theorem SetAt.range (h : SetAt w b kv ok L) (ht : P.underlying T = some (.map K E')) :
    ∃ w', (Instr.range T (.map (some b))).run P w = .ok (.pointer (some ⟨w.heap.size, 0, none⟩)) w' ∧ SetRange w' b w.heap.size kv ok L [] ∧ Below w.heap.size w w' ∧ w'.heap.size = w.heap.size + 1 := by
  obtain ⟨M, es, clk, hm, hks, htr⟩ := h
  obtain ⟨w', hrun, hr, hb, hs⟩ := hm.range ht
  exact ⟨w', hrun, ⟨M, [], hr, hks, htr, rfl, hm.nodup⟩, hb, hs⟩
theorem SetRange.next {r : Nat} {S : List κ} (h : SetRange w b r kv ok L S) (ty : TypeId) :
    ((∀ x, x ∈ S ↔ x ∈ L) ∧ S.Nodup ∧ (Instr.next (.pointer (some ⟨r, 0, none⟩)) false ty).run P w = .ok (.tuple #[.bool false]) w) ∨
    ∃ x w', x ∈ L ∧ x ∉ S ∧ (Instr.next (.pointer (some ⟨r, 0, none⟩)) false ty).run P w = .ok (.tuple #[.bool true, kv x, .bool true]) w' ∧ SetRange w' b r kv ok L (S ++ [x]) ∧ Keep [r] w w' ∧ w'.heap.size = w.heap.size ∧
      w'.rangeLeft b r < w.rangeLeft b r ∧ (Instr.entry (.pointer (some ⟨r, 0, none⟩))).run P w' = .ok (.tuple #[kv x, .bool true]) w' := by
  obtain ⟨M, Z, hR, hks, htr, rfl, hnd⟩ := h
  rcases hR.next (P := P) ty with ⟨hp, hrun⟩ | ⟨p, w', hpM, hpZ, hrun, hR', hk, hs, hl, hen⟩
  · refine .inl ⟨fun x => ?_, (hp.map (·.1)).nodup_iff.2 hnd, hrun⟩
    rw [(hp.map (·.1)).mem_iff, hks]
  · have hv := htr p hpM
    rw [hv] at hrun hen
    refine .inr ⟨p.1, w', (hks _).1 (List.mem_map.2 ⟨p, hpM, rfl⟩), ?_, hrun, ⟨M, Z ++ [p], hR', hks, htr, by simp, hnd⟩, hk, hs, hl, hen⟩
    intro hm
    obtain ⟨q, hq, he⟩ := List.mem_map.1 hm
    have hqM := hR.sub q hq
    obtain ⟨i, hi, hpi⟩ := List.mem_iff_getElem.1 hpM
    obtain ⟨j, hj, hqj⟩ := List.mem_iff_getElem.1 hqM
    have e1 : (M.map (·.1))[i]? = some p.1 := by rw [List.getElem?_map, List.getElem?_eq_getElem hi, hpi]; rfl
    have e2 : (M.map (·.1))[j]? = some p.1 := by rw [List.getElem?_map, List.getElem?_eq_getElem hj, hqj]; simp [he]
    have : i = j := nodup_inj hnd e1 e2
    subst this
    rw [hpi] at hqj
    subst hqj
    exact hpZ hq
end

end Go.Proofs.Ytlonihfhgfmplaa
