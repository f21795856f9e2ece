/- BagLoads: the walk. -/
import Derived.Test.YtlonihfhgfmplaaBLoad
import Derived.Test.YtlonihfhgfmplaaBPairs
namespace Go.Proofs.Ytlonihfhgfmplaa
open Go.RowKit

theorem live_self {A G : List BRow} (r : Ris cmpRow A) (ap : ∀ x ∈ A, x ∉ G) : liveR A G = A :=
  ris_ext totRow ((ris_sortC totRow A).filter _) r fun z => by
    unfold liveR
    rw [List.mem_filter, mem_sortC totRow, decide_eq_true_eq]
    exact ⟨fun h => h.1, fun h => ⟨h, ap z h⟩⟩
theorem rowsB_ge (L : List BRow) : L.length ≤ (rowsB L).length := by
  unfold rowsB
  rw [List.length_append]
  have : ∀ L : List BRow, L.length ≤ (L.flatMap rowB).length := by
    intro L
    induction L with
    | nil => simp
    | cons x L ih => rw [List.flatMap_cons, List.length_append, rowB_len, List.length_cons]; omega
  have := this L
  omega
theorem load_len {l : List UInt8} (h : loadB l = 0) : (partA l).rows.length ≤ l.length ∧ (partG l).rows.length ≤ l.length := by
  have h1 := congrArg List.length (load_put h)
  unfold putB at h1
  rw [List.length_append] at h1
  have h2 := rowsB_ge (partA l).rows
  have h3 := rowsB_ge (partG l).rows
  omega

set_option maxRecDepth 100000 in
set_option maxHeartbeats 4000000 in
theorem bagLoads_any (w : World) (s : ByteArray) (hs : s.size ≤ 9223372036854775807) :
    Calls Try.prog 11 #[.string s] w fun e w' => e = .returned (.bool true) ∧ Below w.heap.size w w' := by
  by_cases hbig : 3000 < s.size
  · go_enter Try.func11, Try.ntmps11
    go_wp2_with fail
    refine (awake_any _).mono ?_; rintro e w8 ⟨rfl, hb8⟩
    go_wp2_with fail
    go_ret
    exact ⟨rfl, hb8⟩
  · have hsl : s.size ≤ 1000000 := by omega
    have c1 := bload w s hsl
    have c2 := fun w1 => rload w1 s hsl
    obtain ⟨l, hl⟩ : ∃ l, s.data.toList = l := ⟨_, rfl⟩
    have hsb : (⟨l.toArray⟩ : ByteArray) = s := by rw [← hl]
    have hll : l.length = s.size := by rw [← hl]; exact Array.length_toList
    rw [hl] at c1
    simp only [hl] at c2
    have Hsb := Lib.hid hsb
    clear hl hsb
    cases hE : (loadB l == 0) with
    | false =>
      have hE' : loadB l ≠ 0 := by simpa using hE
      obtain ⟨E, hEe⟩ : ∃ E, loadB l = E := ⟨_, rfl⟩
      have c1' : Calls Try.prog 42 #[.string s] w fun e w' => e = .returned (.tuple #[.pointer none, .int .i64 E]) ∧ Below w.heap.size w w' := c1.mono fun e w' h => by
        obtain ⟨P, h, _, hP, hb⟩ := h
        rw [hP hE', hEe] at h
        exact ⟨h, hb⟩
      have c2' : ∀ w1, Calls Try.prog 43 #[.string s] w1 fun e w' => ∃ P, e = .returned (.tuple #[.pointer P, .int .i64 E]) ∧ Below w1.heap.size w1 w' := fun w1 => (c2 w1).mono fun e w' h => by
        obtain ⟨P, h, _, _, hb⟩ := h
        rw [hEe] at h
        exact ⟨P, h, hb⟩
      rw [hEe] at hE'
      have hEb : (E != 0) = true := by simpa using hE'
      have hEc : (E == 0) = false := by simpa using hE'
      clear hE hE' hEe c1 c2 hll
      go_enter Try.func11, Try.ntmps11
      go_wp2_with fail
      refine c1'.mono ?_; rintro e w1 ⟨rfl, hb1⟩
      clear c1'
      go_wp2_with fail
      refine (c2' _).mono ?_; rintro e w2 ⟨P, rfl, hb2⟩
      clear c2'
      go_wp2_with fail
      refine (awake_any _).mono ?_; rintro e w8 ⟨rfl, hb8⟩
      go_wp2_with fail
      go_ret
      exact ⟨rfl, bel2 (bel2 hb1 hb2) hb8⟩
    | true =>
      have hE' : loadB l = 0 := by simpa using hE
      have hput := load_put hE'
      obtain ⟨_, _, _, _, p5, _, p7⟩ := load_parts hE'
      have hlv := live_self p5 p7
      obtain ⟨hn1, hn2⟩ := load_len hE'
      have c1' : Calls Try.prog 42 #[.string s] w fun e w' => ∃ g bl bg, e = .returned (.tuple #[.pointer (some ⟨g, 0, none⟩), .int .i64 0]) ∧ BagAt w' g bl bg (partA l).rows (partG l).rows ∧ Below w.heap.size w w' := c1.mono fun e w' h => by
        obtain ⟨P, h, hP, _, hb⟩ := h
        obtain ⟨g, bl, bg, rfl, hB, _⟩ := hP hE'
        rw [hE'] at h
        exact ⟨g, bl, bg, h, hB, hb⟩
      have c2' : ∀ w1, Calls Try.prog 43 #[.string s] w1 fun e w' => ∃ g, e = .returned (.tuple #[.pointer (some ⟨g, 0, none⟩), .int .i64 0]) ∧ RefIn w' g (partA l).rows (partG l).rows ∧ Below w1.heap.size w1 w' := fun w1 => (c2 w1).mono fun e w' h => by
        obtain ⟨P, h, hP, _, hb⟩ := h
        obtain ⟨g, rfl, hR⟩ := hP hE'
        rw [hE'] at h
        exact ⟨g, h, hR, hb⟩
      obtain ⟨A, hA⟩ : ∃ A, (partA l).rows = A := ⟨_, rfl⟩
      obtain ⟨G, hG⟩ : ∃ G, (partG l).rows = G := ⟨_, rfl⟩
      rw [hA, hG] at hput hlv c1'
      rw [hA] at hn1
      rw [hG] at hn2
      simp only [hA, hG] at c2'
      have Hput := Lib.hid hput
      have Hlv := Lib.hid hlv
      have hA3 : A.length ≤ 3000 := by omega
      have hG3 : G.length ≤ 3000 := by omega
      have hlb := listB_len A
      obtain ⟨LB, hLB⟩ : ∃ LB, listB A = LB := ⟨_, rfl⟩
      rw [hLB] at hlb
      have HLB := Lib.hid hLB
      clear hE hE' c1 c2 hll hA hG hput hlv hn1 hn2 p5 p7 hLB
      go_enter Try.func11, Try.ntmps11
      go_wp2_with fail
      refine c1'.mono ?_; rintro e w1 ⟨g, bl, bg, rfl, hB1, hb1⟩
      clear c1'
      go_wp2_with fail
      refine (c2' _).mono ?_; rintro e w2 ⟨gx, rfl, hR2, hb2⟩
      have hB2 := hB1.below hb2
      have hw2 := bel2 hb1 hb2
      clear c2' hB1 hb1 hb2
      go_wp2_with fail
      refine (bput _ g bl bg A G hB2 (by omega) (by omega)).mono ?_; rintro e w3 ⟨rfl, hb3⟩
      rw [Hput.out, Hsb.out]
      have hB3 := hB2.below hb3
      have hR3 := hR2.below hb3
      have hw3 := bel2 hw2 hb3
      clear hB2 hR2 hw2 hb3
      go_wp2_with fail
      refine (blist _ g bl bg A G hB3 (by omega)).mono ?_; rintro e w4 ⟨A8, cap8, rfl, hown8, hb8⟩
      rw [HLB.out] at hown8 ⊢
      have hR4 := hR3.below hb8
      have hw4 := bel2 hw3 hb8
      clear hB3 hR3 hw3
      have cl := rlist_in w4 gx A G hR4 (by omega) (by omega)
      rw [Hlv.out, HLB.out] at cl
      go_wp2_with fail
      refine cl.mono ?_; rintro e w5 ⟨A9, cap9, rfl, hown9, hb9⟩
      have hp8 : PairsIn w5 A8 LB.length (LB.map pairV) := by
        have := (hown8.below hb9).slr
        unfold PairsIn
        rw [List.map_map]
        exact this
      have hp9 : PairsIn w5 A9 LB.length (LB.map pairV) := by
        have := hown9.slr
        unfold PairsIn
        rw [List.map_map]
        exact this
      have hw5 := bel2 hw4 hb9
      clear hown8 hown9 hR4 hw4 hb8 hb9 cl
      go_wp2_with fail
      refine (rpairs w5 _ _ _ _ _ _ _ _ hp8 hp9 (by omega) (by omega)).mono ?_; rintro e w6 ⟨rfl, hb6⟩
      rw [decide_eq_true rfl]
      have hw6 := bel2 hw5 hb6
      go_wp2_with fail
      refine (awake_any _).mono ?_; rintro e w11 ⟨rfl, hb11⟩
      go_wp2_with fail
      go_ret
      exact ⟨rfl, bel2 hw6 hb11⟩

end Go.Proofs.Ytlonihfhgfmplaa
