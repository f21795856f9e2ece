/- A range loop over a map, said of a plain list of keys and values; a deletion. No program is named here. -/
import Derived.Test.YtlonihfhgfmplaaMap
import Derived.Maps.Range
namespace Go.Proofs.Ytlonihfhgfmplaa
open Go.RowKit
open Go.ChangeMaps (setBlock)

section
variable {P : Program} {K : TypeId} {κ ν : Type} {kv : κ → Value} {vv : ν → Value} {ok : κ → Prop} {w : World} {b r : Nat} {M S : List (κ × ν)} {es : Array MapEntry} {clk : Nat}

theorem MapAt.nodupP (h : MapAt w b kv vv ok M es clk) : M.Nodup := by
  have := h.nodup
  exact List.Pairwise.of_map (·.1) (fun a b h e => h (by rw [e])) this

/-- A range loop over the map in block b, its iterator in block r: the entries S have come. -/
def RangeAt (w : World) (b r : Nat) (kv : κ → Value) (vv : ν → Value) (ok : κ → Prop) (M S : List (κ × ν)) : Prop :=
  ∃ es clk since seen c0, MapAt w b kv vv ok M es clk ∧ w.heap[r]? = some (.mapIter (some b) since seen c0) ∧ (∀ x ∈ es.toList, x.born < since) ∧ since ≤ c0 ∧ since ≤ clk ∧
    S.Nodup ∧ (∀ p ∈ S, p ∈ M) ∧ (∀ (j : Nat) (e : MapEntry) (p : κ × ν), es.toList[j]? = some e → M[j]? = some p → (p ∈ S ↔ seen.contains e.born = true))

theorem RangeAt.ne (h : RangeAt w b r kv vv ok M S) : r ≠ b := by
  obtain ⟨es, clk, since, seen, c0, hm, hr, _⟩ := h
  rintro rfl
  have := hm.heap
  rw [hr] at this; cases this
theorem RangeAt.lt (h : RangeAt w b r kv vv ok M S) : r < w.heap.size ∧ b < w.heap.size := by
  obtain ⟨es, clk, since, seen, c0, hm, hr, _⟩ := h
  exact ⟨(Array.getElem?_eq_some_iff.1 hr).1, hm.lt⟩
theorem RangeAt.kept {T : List Nat} {w' : World} (h : RangeAt w b r kv vv ok M S) (hk : Keep T w w') (hb : b ∉ T) (hr : r ∉ T) : RangeAt w' b r kv vv ok M S := by
  have hl := h.lt
  obtain ⟨es, clk, since, seen, c0, hm, hi, rest⟩ := h
  exact ⟨es, clk, since, seen, c0, hm.kept hk hb, (hk.block r hl.1 hr).trans hi, rest⟩
theorem rangeLeft_kept {T : List Nat} {w w' : World} {b r : Nat} (hk : Keep T w w') (hb : b ∉ T) (hr : r ∉ T) (hbl : b < w.heap.size) (hrl : r < w.heap.size) : w'.rangeLeft b r = w.rangeLeft b r := by
  unfold World.rangeLeft
  rw [hk.block b hbl hb, hk.block r hrl hr]
theorem RangeAt.sub (h : RangeAt w b r kv vv ok M S) : ∀ p ∈ S, p ∈ M := by
  obtain ⟨es, clk, since, seen, c0, hm, hr, _, _, _, _, hs, _⟩ := h; exact hs
theorem RangeAt.nodup (h : RangeAt w b r kv vv ok M S) : S.Nodup := by
  obtain ⟨es, clk, since, seen, c0, hm, hr, _, _, _, hs, _, _⟩ := h; exact hs
theorem nodup_len {α : Type} : ∀ {S M : List α}, S.Nodup → (∀ x ∈ S, x ∈ M) → S.length ≤ M.length
  | [], _, _, _ => Nat.zero_le _
  | x :: S, M, hn, hs => by
    rw [List.nodup_cons] at hn
    obtain ⟨A, B, rfl⟩ := List.append_of_mem (hs x (by simp))
    have := nodup_len (M := A ++ B) hn.2 (fun y hy => by
      have h1 := hs y (by simp [hy])
      rcases List.mem_append.1 h1 with h | h
      · exact List.mem_append.2 (.inl h)
      · rcases List.mem_cons.1 h with h | h
        · subst h; exact absurd hy hn.1
        · exact List.mem_append.2 (.inr h))
    simp at this ⊢; omega
theorem RangeAt.length (h : RangeAt w b r kv vv ok M S) : S.length ≤ M.length := nodup_len h.nodup h.sub

/-- 'range m'. -/
theorem MapAt.range {T E' : TypeId} (h : MapAt w b kv vv ok M es clk) (ht : P.underlying T = some (.map K E')) :
    ∃ w', (Instr.range T (.map (some b))).run P w = .ok (.pointer (some ⟨w.heap.size, 0, none⟩)) w' ∧ RangeAt w' b w.heap.size kv vv ok M [] ∧ Below w.heap.size w w' ∧ w'.heap.size = w.heap.size + 1 := by
  refine ⟨_, run_range_map w T K E' b es clk ht h.heap, ⟨es, clk, clk, #[], clk, h.kept (Keep.alloc _ _) (by simp), heap_alloc_new w _, h.clock, Nat.le_refl _, Nat.le_refl _, List.nodup_nil, by simp, ?_⟩, (Below.refl _ _).alloc (Nat.le_refl _) _, by simp⟩
  intro j e p _ _
  simp

/-- The step. -/
theorem RangeAt.next (h : RangeAt w b r kv vv ok M S) (ty : TypeId) :
    (S.Perm M ∧ (Instr.next (.pointer (some ⟨r, 0, none⟩)) false ty).run P w = .ok (.tuple #[.bool false]) w) ∨
    ∃ p w', p ∈ M ∧ p ∉ S ∧ (Instr.next (.pointer (some ⟨r, 0, none⟩)) false ty).run P w = .ok (.tuple #[.bool true, kv p.1, vv p.2]) w' ∧ RangeAt w' b r kv vv ok M (S ++ [p]) ∧ Keep [r] w w' ∧ w'.heap.size = w.heap.size ∧
      w'.rangeLeft b r < w.rangeLeft b r ∧ (Instr.entry (.pointer (some ⟨r, 0, none⟩))).run P w' = .ok (.tuple #[kv p.1, vv p.2]) w' := by
  have hne := h.ne
  obtain ⟨es, clk, since, seen, c0, hm, hr, hold, hsc, hsk, hnd, hsub, hiff⟩ := h
  rcases run_next_at (P := P) w ty r b since c0 seen es clk hr hm.heap hold hsc with ⟨h0, hrun⟩ | ⟨e, he, w1, hal, hrun⟩
  · refine .inl ⟨?_, hrun⟩
    refine (List.perm_ext_iff_of_nodup hnd hm.nodupP).2 fun p => ⟨hsub p, fun hp => ?_⟩
    obtain ⟨j, hj, rfl⟩ := List.mem_iff_getElem.1 hp
    obtain ⟨e, he, _, _⟩ := hm.at_ (List.getElem?_eq_getElem hj)
    exact (hiff j e _ he (List.getElem?_eq_getElem hj)).2 (all_seen es seen h0 e (List.mem_of_getElem? he))
  · obtain ⟨hem, hes⟩ := mem_left he
    obtain ⟨j, hj, rfl⟩ := List.mem_iff_getElem.1 hem
    have hje : es.toList[j]? = some es.toList[j] := List.getElem?_eq_getElem hj
    obtain ⟨p, hp, hk, hv⟩ := hm.at_key hje
    have hr1 : w1.heap[r]? = some (.mapIter (some b) since seen c0) := by rcases hal with rfl | rfl <;> exact hr
    have hb1 : w1.heap[b]? = some (.map es clk) := by rcases hal with rfl | rfl <;> exact hm.heap
    have hset := MapKept.heap_set (o' := .mapIter (some b) since (seen.push es.toList[j].born) clk) hr1
    have hkeep : Keep [r] w (setBlock w1 r (.mapIter (some b) since (seen.push es.toList[j].born) clk)) := by
      rcases hal with rfl | rfl
      · exact ⟨rfl, rfl, rfl, by simp [setBlock], fun k _ hn => hset.2 k (by simpa using hn)⟩
      · exact ⟨rfl, rfl, rfl, by simp [setBlock], fun k _ hn => hset.2 k (by simpa using hn)⟩
    have hm' : MapAt (setBlock w1 r (.mapIter (some b) since (seen.push es.toList[j].born) clk)) b kv vv ok M es clk := hm.kept hkeep (by simpa using fun e => hne e.symm)
    have hpS : p ∉ S := fun hm => by rw [(hiff j _ p hje hp).1 hm] at hes; cases hes
    refine .inr ⟨p, _, List.mem_of_getElem? hp, hpS, by rw [hrun, hk, hv], ⟨es, clk, since, seen.push es.toList[j].born, clk, hm', hset.1, hold, hsk, hsk, ?_, ?_, ?_⟩, hkeep, ?_, ?_, ?_⟩
    · rw [List.nodup_append]
      refine ⟨hnd, by simp, fun a ha c hc e => ?_⟩
      simp at hc
      subst hc; subst e
      exact hpS ha
    · intro q hq
      rcases List.mem_append.1 hq with hq | hq
      · exact hsub q hq
      · simp at hq; subst hq; exact List.mem_of_getElem? hp
    · intro j' e' p' he' hp'
      rw [contains_push, List.mem_append, Bool.or_eq_true, hiff j' e' p' he' hp']
      refine or_congr Iff.rfl ?_
      simp only [List.mem_singleton, beq_iff_eq]
      constructor
      · intro e1
        subst e1
        have : j' = j := nodup_inj hm.nodupP hp' hp
        subst this
        rw [hje] at he'; injection he' with he'
        rw [he']
      · intro e1
        have e2 : (es.toList.map (·.born))[j']? = some e'.born := by rw [List.getElem?_map, he']; rfl
        have e3 : (es.toList.map (·.born))[j]? = some e'.born := by rw [List.getElem?_map, hje, e1]; rfl
        have : j' = j := nodup_inj hm.born e2 e3
        subst this
        rw [hp] at hp'; injection hp' with hp'
        exact hp'.symm
    · rcases hal with rfl | rfl <;> simp [setBlock]
    · unfold World.rangeLeft
      have q1 : (setBlock w1 r (.mapIter (some b) since (seen.push es.toList[j].born) clk)).heap[b]? = some (.map es clk) := (hset.2 b (fun e => hne e.symm)).trans hb1
      have q2 : (setBlock w1 r (.mapIter (some b) since (seen.push es.toList[j].born) clk)).heap[r]? = some (.mapIter (some b) since (seen.push es.toList[j].born) clk) := hset.1
      rw [q1, q2, hm.heap, hr]
      exact left_shrinks es seen _ he
    · have := run_entry_at (P := P) (setBlock w1 r (.mapIter (some b) since (seen.push es.toList[j].born) clk)) r b since seen es clk es.toList[j] hset.1 (hset.2 b (fun e => hne e.symm) |>.trans hb1) hem hm.born
      rw [hk, hv] at this
      exact this

/-- A deletion. -/
def delL [DecidableEq κ] (M : List (κ × ν)) (k : κ) : List (κ × ν) := M.filter (fun p => decide (p.1 ≠ k))
theorem filter_erase [DecidableEq κ] : ∀ {M : List (κ × ν)}, (M.map (·.1)).Nodup → ∀ {j : Nat} {p : κ × ν}, M[j]? = some p → M.eraseIdx j = delL M p.1
  | [], _, j, p, h => by simp at h
  | x :: l, hn, j, p, h => by
    rw [List.map_cons, List.nodup_cons] at hn
    unfold delL
    cases j with
    | zero =>
      simp at h; subst h
      rw [List.eraseIdx_cons_zero, List.filter_cons, if_neg (by simp)]
      refine (List.filter_eq_self.2 fun y hy => ?_).symm
      simp only [decide_eq_true_eq]
      intro e
      exact hn.1 (List.mem_map.2 ⟨y, hy, e⟩)
    | succ j =>
      simp at h
      rw [List.eraseIdx_cons_succ, List.filter_cons, if_pos, filter_erase hn.2 h]
      · rfl
      · simp only [decide_eq_true_eq]
        intro e
        exact hn.1 (List.mem_map.2 ⟨p, List.mem_of_getElem? h, e.symm⟩)
theorem delL_none [DecidableEq κ] {M : List (κ × ν)} {k : κ} (h : k ∉ M.map (·.1)) : delL M k = M :=
  List.filter_eq_self.2 fun p hp => by
    simp only [decide_eq_true_eq]
    intro e
    exact h (List.mem_map.2 ⟨p, hp, e⟩)
theorem mem_delL [DecidableEq κ] {M : List (κ × ν)} {k : κ} {p : κ × ν} : p ∈ delL M k ↔ p ∈ M ∧ p.1 ≠ k := by simp [delL]
theorem map_eraseIdx' {α β : Type} (f : α → β) (l : List α) (j : Nat) : (l.eraseIdx j).map f = (l.map f).eraseIdx j := by
  induction l generalizing j with
  | nil => rfl
  | cons x l ih => cases j <;> simp [ih]

theorem MapAt.delete [DecidableEq κ] {T E' ty : TypeId} (h : MapAt w b kv vv ok M es clk) (E : KeyEnc P K kv ok) (ht : P.underlying T = some (.map K E')) {k : κ} (hk : ok k) :
    ∃ w' es', (Builtin.delete_ #[T, K] ty #[.map (some b), kv k]).run P w = .ok (.tuple #[]) w' ∧ MapAt w' b kv vv ok (delL M k) es' clk ∧ Keep [b] w w' := by
  obtain ⟨l, hl⟩ := E.key k hk
  rcases h.find E hk with ⟨hrun, hno⟩ | ⟨j, p, hrun, hp, hpk⟩
  · refine ⟨_, es, ?_, ⟨heap_setObj _ h.lt, ?_, ?_, ?_, ?_, h.born, h.clock⟩, keep_setObj w b _⟩
    · simp only [Builtin.delete_, List.getElem?_toArray, List.getElem?_cons_zero, List.getElem?_cons_succ, Sem.run_bind, run_underlying ht, Result.andThen_ok, run_getObj_map h.heap, E.law.check w es.isEmpty hl, hrun, run_setObj' h.heap, Sem.run_pure]
    all_goals rw [delL_none hno]
    · exact h.keys
    · exact h.vals
    · exact h.nodup
    · exact h.okk
  · obtain ⟨e0, he0, hek, hev⟩ := h.at_ hp
    have hjs : j < es.size := by
      have := (List.getElem?_eq_some_iff.1 he0).1
      simpa using this
    have hsub : (es.eraseIdxIfInBounds j).toList = es.toList.eraseIdx j := by
      unfold Array.eraseIdxIfInBounds
      rw [dif_pos hjs]; simp
    have hd : delL M k = M.eraseIdx j := by rw [filter_erase h.nodup hp, hpk]
    refine ⟨_, es.eraseIdxIfInBounds j, ?_, ⟨heap_setObj _ h.lt, ?_, ?_, ?_, ?_, ?_, ?_⟩, keep_setObj w b _⟩
    · simp only [Builtin.delete_, List.getElem?_toArray, List.getElem?_cons_zero, List.getElem?_cons_succ, Sem.run_bind, run_underlying ht, Result.andThen_ok, run_getObj_map h.heap, E.law.check w es.isEmpty hl, hrun, run_setObj' h.heap, Sem.run_pure]
    · rw [hsub, hd, map_eraseIdx', map_eraseIdx', h.keys]
    · rw [hsub, hd, map_eraseIdx', map_eraseIdx', h.vals]
    · rw [hd, map_eraseIdx']
      exact h.nodup.sublist (List.eraseIdx_sublist _ _)
    · rw [hd]
      exact fun q hq => h.okk q ((List.eraseIdx_sublist _ _).subset hq)
    · rw [hsub, map_eraseIdx']
      exact h.born.sublist (List.eraseIdx_sublist _ _)
    · rw [hsub]
      exact fun q hq => h.clock q ((List.eraseIdx_sublist _ _).subset hq)
end

end Go.Proofs.Ytlonihfhgfmplaa
