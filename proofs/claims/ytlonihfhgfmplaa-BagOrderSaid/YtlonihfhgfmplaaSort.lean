/- A slice of the call's own, sorted in place by the shelf's slices.SortFunc. No program is named here. -/
import Derived.Test.YtlonihfhgfmplaaSlice
import Derived.Test.YtlonihfhgfmplaaSet
import Derived.Test.YtlonihfhgfmplaaGr
import Derived.Shelf.SlSortCmp.NoneTotal
namespace Go.Proofs.Ytlonihfhgfmplaa
open Go.RowKit Go.Sort Go.Shelf

section
variable {α : Type} [Inhabited α] {enc : α → Array Value} {k : Nat}

theorem own_holds {w : World} {B : Nat} {E : TypeId} {g n cap : Nat} {L : List α} (hk : 0 < k) (hs : ∀ x, (enc x).size = k) (h : Own w B E k (some ⟨g, 0, none⟩) n cap (L.map enc)) :
    HoldsK (fun x => (enc x).toList) k w g 0 L.toArray := by
  intro j hj
  have hj' : j < L.length * k := by simpa using hj
  have hi : j / k < L.length := Nat.div_lt_of_lt_mul (by rw [Nat.mul_comm]; exact hj')
  have hr : j % k < k := Nat.mod_lt _ hk
  have he : j / k * k + j % k = j := by rw [Nat.mul_comm]; exact Nat.div_add_mod j k
  have hl : L.length = n := by simpa using h.len
  obtain ⟨g', o, e, hrow⟩ := h.slr.at_ (i := j / k) (by omega)
  injection e with e
  injection e with e1 e2
  subst e1; subst e2
  rw [List.getElem_map] at hrow
  have hc := rowAt_cell hrow hr
  rw [Nat.zero_add, he] at hc
  refine ⟨?_, ?_⟩
  · rw [Nat.zero_add, hc, get_flatK _ _ _ j (by simpa using hj'), getElem!_pos L.toArray (j / k) (by simpa using hi)]
    have hsz : j % k < (enc L[j / k]).toList.length := by simpa [hs] using hr
    rw [getElem!_pos _ (j % k) (by simpa using hsz)]
    simp [hs, hr]
  · obtain ⟨⟨_, h2⟩, _, _⟩ := h
    rcases h2 with ⟨h2, _⟩ | ⟨g', c, cur, hv, hb, hg, _⟩
    · cases h2
    · injection hv with hA
      injection hA with hA
      injection hA with hA
      subst hA
      simp [World.frozen?, hg]

/-- A row of cells laid over what a slice of the call's own holds. -/
theorem own_putF {w : World} {B : Nat} {E : TypeId} {g n n' cap : Nat} {L L' : List (Array Value)} (h : Own w B E k (some ⟨g, 0, none⟩) n cap L) (hn' : n' ≤ n) (m : Nat) (F : Array Value) (hF : F.size = n * k) (hL : F.toList.take (n' * k) = L'.flatMap Array.toList) (hl : L'.length = n') (hs : ∀ c ∈ L', c.size = k) (os : Array Obj) :
    Own (grow (putRow id (Sort.ahead w m) g 0 F) os) B E k (some ⟨g, 0, none⟩) n' cap L' ∧ Keep [g] w (grow (putRow id (Sort.ahead w m) g 0 F) os) := by
  obtain ⟨⟨_, h2⟩, _, _⟩ := h
  rcases h2 with ⟨h2, _⟩ | ⟨g', c, cur, hv, hb, hg, hnc, hcm, hcs, htake⟩
  · cases h2
  injection hv with hA _ hc
  injection hA with hA
  injection hA with hA
  subst hA; subst hc
  have hgl : g < w.heap.size := (Array.getElem?_eq_some_iff.1 hg).1
  have hheap : (grow (putRow id (Sort.ahead w m) g 0 F) os).heap[g]? = some (.cells (putCells id 0 F cur) E (0, 0)) := by
    rw [heap_grow_old _ _ (by simpa [putRow, mapBlock, Sort.ahead] using hgl)]
    show (w.heap.modify g _)[g]? = _
    rw [Array.getElem?_modify, if_pos rfl, hg]
    rfl
  have hle : n * k ≤ cur.size := by rw [hcs]; exact Nat.mul_le_mul_right k hnc
  have hle' : n' * k ≤ n * k := Nat.mul_le_mul_right k hn'
  refine ⟨⟨⟨?_, .inr ⟨g, cap, _, rfl, hb, hheap, by omega, hcm, ?_, ?_⟩⟩, hl, hs⟩, ?_⟩
  · rw [flat_len _ k hs, hl]
  · simp [putCells, hcs]
  · rw [← hL]
    apply List.ext_getElem?
    intro j
    by_cases hj : j < n' * k
    · rw [List.getElem?_take, List.getElem?_take, if_pos hj, if_pos hj, Array.getElem?_toList, Array.getElem?_toList]
      unfold putCells
      rw [Array.getElem?_mapIdx, Array.getElem?_eq_getElem (show j < cur.size by omega), Array.getElem?_eq_getElem (show j < F.size by omega)]
      simp only [Option.map_some, Nat.zero_le, true_and, Nat.zero_add, Nat.sub_zero, hF]
      rw [if_pos (by omega), getElem!_pos _ j (by omega)]; rfl
    · rw [List.getElem?_eq_none (by simp; omega), List.getElem?_eq_none (by simp; omega)]
  · refine ⟨rfl, rfl, rfl, ?_, fun x hx hn => ?_⟩
    · rw [size_grow]; simp [putRow, mapBlock, Sort.ahead]
    · rw [heap_grow_old _ _ (by simpa [putRow, mapBlock, Sort.ahead] using hx)]
      show (w.heap.modify g _)[x]? = _
      rw [Array.getElem?_modify, if_neg (by simpa [eq_comm] using hn)]

theorem own_sorted {w : World} {B : Nat} {E : TypeId} {g n cap : Nat} {L : List α} (hk : 0 < k) (hs : ∀ x, (enc x).size = k) (h : Own w B E k (some ⟨g, 0, none⟩) n cap (L.map enc)) (m : Nat) (L' : List α) (hl : L'.length = L.length) (os : Array Obj) :
    Own (sortWorldK (fun x => (enc x).toList) k w g 0 m L'.toArray os) B E k (some ⟨g, 0, none⟩) n cap (L'.map enc) ∧ Keep [g] w (sortWorldK (fun x => (enc x).toList) k w g 0 m L'.toArray os) := by
  have hn : L.length = n := by simpa using h.len
  have hsz : ∀ c ∈ L'.map enc, c.size = k := fun c hc => by obtain ⟨x, _, rfl⟩ := List.mem_map.1 hc; exact hs x
  have hflat : (L'.map enc).flatMap Array.toList = (flatK (fun x => (enc x).toList) k L'.toArray).toList := by
    apply List.ext_getElem?
    intro j
    have hfl := flat_len (L'.map enc) k hsz
    rw [List.length_map] at hfl
    by_cases hj : j < L'.length * k
    · have hi : j / k < L'.length := Nat.div_lt_of_lt_mul (by rw [Nat.mul_comm]; exact hj)
      have hr : j % k < k := Nat.mod_lt _ hk
      have he : j / k * k + j % k = j := by rw [Nat.mul_comm]; exact Nat.div_add_mod j k
      have e1 := flat_get (L'.map enc) k hsz (j / k) (j % k) (by simpa using hi) hr
      rw [he] at e1
      rw [e1]
      have hsz : j < (flatK (fun x => (enc x).toList) k L'.toArray).size := by simpa using hj
      rw [Array.getElem?_toList, Array.getElem?_eq_getElem hsz, ← getElem!_pos _ j hsz, get_flatK _ _ _ j (by simpa using hj), getElem!_pos L'.toArray (j / k) (by simpa using hi)]
      have hsz2 : j % k < (enc L'[j / k]).toList.length := by simpa [hs] using hr
      rw [List.getElem_map, List.getElem_toArray, getElem!_pos _ (j % k) hsz2]
      simp [hs, hr]
    · rw [List.getElem?_eq_none (by omega), List.getElem?_eq_none (by simpa using hj)]
  have hF : (flatK (fun x => (enc x).toList) k L'.toArray).size = n * k := by simp [hl, hn]
  exact own_putF h (Nat.le_refl _) m (flatK (fun x => (enc x).toList) k L'.toArray) hF (by rw [hflat, List.take_of_length_le (by simpa using Nat.le_of_eq hF)]) (by simp [hl, hn]) hsz os
end

section
variable {α : Type} [Inhabited α] {f : α → Value}
theorem own_holds1 {w : World} {B : Nat} {E : TypeId} {g n cap : Nat} {L : List α} (h : Own w B E 1 (some ⟨g, 0, none⟩) n cap (L.map fun x => #[f x])) : Holds f w g 0 L.toArray := by
  intro j hj
  have hj' : j < L.length := by simpa using hj
  have hl : L.length = n := by simpa using h.len
  obtain ⟨g', o, e, hrow⟩ := h.slr.at_ (i := j) (by omega)
  injection e with e
  injection e with e1 e2
  subst e1; subst e2
  rw [List.getElem_map] at hrow
  have hc := rowAt_cell hrow (j := 0) (by omega)
  refine ⟨?_, ?_⟩
  · rw [getElem!_pos L.toArray j (by simpa using hj')]
    simpa using hc
  · obtain ⟨⟨_, h2⟩, _, _⟩ := h
    rcases h2 with ⟨h2, _⟩ | ⟨g', c, cur, hv, hb, hg, _⟩
    · cases h2
    · injection hv with hA
      injection hA with hA
      injection hA with hA
      subst hA
      simp [World.frozen?, hg]
theorem putRow_id {w : World} {g : Nat} (d : Array α) : putRow f w g 0 d = putRow id w g 0 (d.map f) := by
  unfold putRow
  refine mapBlock_congr w g _ _ fun c e fr _ => ?_
  unfold putCells
  apply Array.ext
  · simp
  · intro i h1 h2
    simp only [Array.getElem_mapIdx, Array.size_map]
    split
    · rename_i h
      have hi : i - 0 < d.size := by omega
      rw [getElem!_pos d (i - 0) hi, getElem!_pos (d.map f) (i - 0) (by simpa using hi)]
      simp
    · rfl
/-- .. of one cell each; the slice may be cut. -/
theorem own_put1 {w : World} {B : Nat} {E : TypeId} {g n n' cap : Nat} {L : List (Array Value)} (h : Own w B E 1 (some ⟨g, 0, none⟩) n cap L) (hn' : n' ≤ n) (m : Nat) (D L' : List α) (hD : D.length = n) (hL : D.take n' = L') (os : Array Obj) :
    Own (grow (putRow f (Sort.ahead w m) g 0 D.toArray) os) B E 1 (some ⟨g, 0, none⟩) n' cap (L'.map fun x => #[f x]) ∧ Keep [g] w (grow (putRow f (Sort.ahead w m) g 0 D.toArray) os) := by
  rw [putRow_id]
  refine own_putF h hn' m _ (by simp [hD]) ?_ (by rw [List.length_map, ← hL, List.length_take]; omega) (fun c hc => by obtain ⟨x, _, rfl⟩ := List.mem_map.1 hc; rfl) os
  rw [← hL, Nat.mul_one]
  have e : ∀ l : List α, (l.map fun x => #[f x]).flatMap Array.toList = l.map f := fun l => by induction l <;> simp_all
  rw [e]
  simp [List.map_take]
end

end Go.Proofs.Ytlonihfhgfmplaa
