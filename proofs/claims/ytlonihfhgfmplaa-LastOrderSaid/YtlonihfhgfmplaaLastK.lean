/- Package last: all keys, rising. -/
import Derived.Test.YtlonihfhgfmplaaLastC
import Derived.Test.YtlonihfhgfmplaaLayKeys
namespace Go.Proofs.Ytlonihfhgfmplaa
open Go.RowKit Go.Sort Go.Maps

def unitR (_ : Value) : Option (DataW Unit × List MemPlace) := some (.nil, [])

theorem LastAt.owns {w : World} {g b : Nat} {L : List LRow} (h : LastAt w g b L) (hn : L.length ≤ 1000000) :
    ∃ D0 : DataW Unit, w.ownsMap Try.prog 9 unitR b L.length D0 ∧ Maps.size D0 ≤ 1000000 ∧ (strKeys D0).Perm (L.map fun p => p.1.data.toList) := by
  obtain ⟨M, es, clk, hm, hp⟩ := h.map
  have hlen : es.size = L.length := by rw [hm.length, hp.length_eq]
  have hkey : ∀ e ∈ es.toList, ∃ k : ByteArray, e.key = .string k ∧ k.size ≤ maxLen := by
    intro e he
    obtain ⟨j, hj, rfl⟩ := List.mem_iff_getElem.1 he
    obtain ⟨p, hp, hk, _⟩ := hm.at_key (List.getElem?_eq_getElem hj)
    exact ⟨p.1, hk, hm.okk p (List.mem_of_getElem? hp)⟩
  have hrd : ∀ e ∈ es.toList, ∀ k : ByteArray, e.key = .string k → k.size ≤ maxLen → WideElems.rd Try.prog 9 unitR e = some (.string k.data.toList, .nil) := by
    intro e _ k hk hks
    simp [WideElems.rd, hk, keyOf, mapKey, Try.underlying9, hks, unitR]
  refine ⟨_, ⟨es, clk, hm.heap, ⟨?_, ?_, ?_⟩, by omega, rfl⟩, ?_, ?_⟩
  · simp only [maxLen]; omega
  · rw [MapKept.stamped_iff]
    refine ⟨hm.clock, hm.born, ?_⟩
    have hnd : (es.toList.map (·.key)).Pairwise (· ≠ ·) := by
      rw [hm.keys]
      have h2 := hm.nodup
      rw [List.Nodup, List.pairwise_map] at h2
      rw [List.pairwise_map]
      exact h2.imp fun h e => h (by injection e)
    rw [List.pairwise_map] at hnd
    exact hnd
  · intro e he
    obtain ⟨k, hk, hks⟩ := hkey e he
    exact ⟨_, hrd e he k hk hks⟩
  · show (List.foldr DataW.insert [] _).length ≤ _
    rw [(WideShapes.sorted_perm _).length_eq]
    simp; omega
  · have h1 : (strKeys (DataW.map (List.foldr DataW.insert [] (es.toList.map (WideElems.rg Try.prog 9 unitR))))).Perm ((es.toList.map (WideElems.rg Try.prog 9 unitR)).map fun p => strOf p.1) :=
      (WideShapes.sorted_perm _).map _
    refine h1.trans ?_
    have h2 : ((es.toList.map (WideElems.rg Try.prog 9 unitR)).map fun p => strOf p.1) = M.map fun p => p.1.data.toList := by
      rw [List.map_map]
      apply List.ext_getElem?
      intro n
      rw [List.getElem?_map, List.getElem?_map]
      cases he : es.toList[n]? with
      | none =>
        have : M[n]? = none := by
          rw [List.getElem?_eq_none_iff] at he ⊢
          have := hm.length
          simp at he; omega
        rw [this]; rfl
      | some e =>
        obtain ⟨p, hp', hk, _⟩ := hm.at_key he
        rw [hp']
        have hr := hrd e (List.mem_of_getElem? he) p.1 hk (hm.okk p (List.mem_of_getElem? hp'))
        simp [WideElems.rg_of hr, strOf]
    rw [h2]
    exact hp.map _

theorem leB_cmp (x y : List UInt8) : leB x y = true ↔ ¬ cmpB y x < 0 := by
  have h := bytesLess_eq y x
  rw [bytesLess_cmp] at h
  have h2 : (cmpB y x < 0) ↔ y < x := by simpa using h
  show decide (x ≤ y) = true ↔ _
  rw [decide_eq_true_eq, h2]
  exact Iff.rfl

theorem rising_sorted : ∀ {L : List LRow}, Rising L → (L.map fun p => p.1.data.toList).Pairwise (fun x y => leB x y = true)
  | [], _ => by simp
  | x :: l, h => by
    rw [List.map_cons, List.pairwise_cons]
    refine ⟨fun y hy => ?_, rising_sorted h.2⟩
    obtain ⟨z, hz, rfl⟩ := List.mem_map.1 hy
    rw [leB_cmp]
    have h1 := h.1 z hz
    have h2 := cmpS_asym h1
    unfold cmpS at h2
    rwa [ByteArray.toList_eq, ByteArray.toList_eq] at h2

theorem sorted_keys {L : List LRow} (h : Rising L) {ss : List (List UInt8)} (hp : ss.Perm (L.map fun p => p.1.data.toList)) :
    (ss.mergeSort (fun x y => decide (x ≤ y))).map encStr = L.map fun p => Value.string p.1 := by
  have e : ss.mergeSort leB = (L.map fun p => p.1.data.toList).mergeSort leB := mergeSort_of_perm hp
  have e2 : (L.map fun p => p.1.data.toList).mergeSort leB = L.map fun p => p.1.data.toList := List.mergeSort_of_pairwise (rising_sorted h)
  have e3 : ss.mergeSort (fun x y => decide (x ≤ y)) = L.map fun p => p.1.data.toList := e.trans e2
  rw [e3, List.map_map]
  rfl

set_option maxHeartbeats 1000000 in
theorem lkeys (w : World) (g b : Nat) (L : List LRow) (h : LastAt w g b L) (hn : L.length ≤ 1000000) :
    Calls Try.prog 47 #[.map (some b)] w fun e w' => ∃ v, e = .returned v ∧ w'.ownsRow w.heap.size 9 1 v L.length (L.map fun p => .string p.1) ∧ Below w.heap.size w w' := by
  obtain ⟨D0, hown, hsz, hperm⟩ := h.owns hn
  have c1 := callsIn_wide.1 (Try.maps_Keys_86 (some b) w)
  have c2 := callsIn_wide.1 (Try.slices_Sorted_keys_85_86 b L.length D0 unitR w hown (by simp only [maxLen]; omega) (by omega))
  go_enter Try.func47, Try.ntmps47
  go_wp2_with fail
  refine c1.mono ?_; rintro e w' ⟨rfl, rfl⟩
  go_wp2_with fail
  refine c2.mono ?_; rintro e w' ⟨v, ss, rfl, hS, hrow, hnil, hb⟩
  go_wp2_with fail
  go_ret
  have hSL := hS.trans hperm
  rw [sorted_keys h.rows.1 hSL] at hrow
  have hlen : ss.length = L.length := by rw [hSL.length_eq, List.length_map]
  rw [hlen] at hrow
  have hb0 : Below w.heap.size w (w.alloc (.cells #[.map (some b)] 47)) := (Below.refl _ _).alloc (Nat.le_refl _) _
  refine ⟨v, rfl, ?_, bel2 hb0 hb⟩
  obtain ⟨r1, r2⟩ := hrow
  refine ⟨r1, ?_⟩
  rcases r2 with r2 | ⟨q, cap, cur, hv, hq, rest⟩
  · exact .inl r2
  · exact .inr ⟨q, cap, cur, hv, by simp at hq; omega, rest⟩

end Go.Proofs.Ytlonihfhgfmplaa
