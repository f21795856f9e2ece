/- A slice inside of what came in. No program is named here. -/
import Derived.Test.YtlonihfhgfmplaaOpen
namespace Go.Proofs.Ytlonihfhgfmplaa
open Go.RowKit Go.WideShapes

theorem opens_slice {P : Program} {w : World} {T E : TypeId} {α : Type} {e : α → Array Value} {ok : α → Prop} {k : Nat} (u : P.underlying T = some (.slice E)) (o : Opens P w E e ok) (hk : P.cellsOf E = k) (hk0 : 0 < k) :
    Opens P w T (fun s : Option Addr × Nat × Nat × List α => #[.slice s.1 s.2.1 s.2.2.1]) (fun s => SlR w s.1 s.2.1 k (s.2.2.2.map e) ∧ s.2.1 ≤ s.2.2.1 ∧ s.2.2.1 ≤ maxLen) := by
  intro H enc base spare held fuel cs x h
  rcases Go.Deep.open_slice u h with ⟨h0, hx⟩ | ⟨a, len, cap', m, f, D, Pl, hcs, hb, hlc, hcm, hm, hx, hel⟩
  · exact ⟨(none, 0, 0, []), h0, ⟨rfl, fun h => (Nat.lt_irrefl 0 h).elim⟩, Nat.le_refl _, Nat.zero_le _⟩
  · have hnm : len ≤ m := by rw [hm]; split <;> omega
    have hall : ∀ i, i < len → ∃ x : α, w.cells? base (a.add (i * k)) k = some (e x).toList ∧ ok x := by
      intro i hi
      obtain ⟨cs', h1, h2⟩ := hel i (by omega)
      rw [hk] at h1
      obtain ⟨x, rfl, hx⟩ := o _ _ _ _ _ _ _ h2
      exact ⟨x, h1, hx⟩
    clear hel
    by_cases hn : len = 0
    · subst hn
      exact ⟨(some a, 0, cap', []), hcs, ⟨rfl, fun h => (Nat.lt_irrefl 0 h).elim⟩, by omega, by omega⟩
    · obtain ⟨x0, hx0, _⟩ := hall 0 (by omega)
      haveI : Inhabited α := ⟨x0⟩
      obtain ⟨R, hR⟩ := Go.Deep.choose_lt hall
      have hsp : a.spot = none := by
        unfold World.cells? at hx0
        split at hx0
        · have := mapM_some_get hx0 0 0 (by simp [hk0])
          have hlen : (e x0).toList.length = k := by simpa using mapM_some_length hx0
          rw [List.getElem?_eq_getElem (by omega)] at this
          have := World.cell?_spot this
          simpa [Addr.add] using this
        · cases hx0
      obtain ⟨g, o', sp⟩ := a
      simp only at hsp
      subst hsp
      refine ⟨(some ⟨g, o', none⟩, len, cap', (List.range len).map R), hcs, ⟨by simp, fun _ => ⟨g, o', rfl, ?_⟩⟩, by omega, by omega⟩
      intro i hi
      have hi' : i < len := by simpa using hi
      have h1 := (hR i hi').1
      have e1 : (⟨g, o', none⟩ : Addr).add (i * k) = ⟨g, o' + i * k, none⟩ := by
        unfold Addr.add; split
        · rename_i e; rw [e]; rfl
        · rfl
      rw [e1] at h1
      rw [rowAt_of_cells h1 hk0]
      simp

end Go.Proofs.Ytlonihfhgfmplaa
