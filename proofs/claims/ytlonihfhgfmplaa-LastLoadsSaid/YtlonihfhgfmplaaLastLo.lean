/- LastLoads: the walk. -/
import Derived.Test.YtlonihfhgfmplaaLoad
import Derived.Test.YtlonihfhgfmplaaLastPl
import Derived.Test.YtlonihfhgfmplaaLdW
namespace Go.Proofs.Ytlonihfhgfmplaa
open Go.RowKit

set_option maxRecDepth 100000 in
set_option maxHeartbeats 4000000 in
theorem lastLoads_any (w : World) (s : ByteArray) (hs : s.size ≤ 9223372036854775807) :
    Calls Try.prog 6 #[.string s] w fun e w' => e = .returned (.bool true) ∧ Below w.heap.size w w' := by
  by_cases hbig : 3000 < s.size
  · go_enter Try.func6, Try.ntmps6
    go_wp2_with fail
    refine (awake_any _).mono ?_; rintro e w8 ⟨rfl, hb8⟩
    go_wp2_with fail
    go_ret
    exact ⟨rfl, hb8⟩
  · have hsl : s.size ≤ 1000000 := by omega
    have c1 := lload w s hs
    have c2 := fun w1 => rload w1 s hsl
    obtain ⟨l, hl⟩ : ∃ l, s.data.toList = l := ⟨_, rfl⟩
    have hsb : (⟨l.toArray⟩ : ByteArray) = s := by rw [← hl]
    have hlen := read_bound l
    have hll : l.length = s.size := by rw [← hl]; exact Array.length_toList
    rw [hl] at c1
    simp only [hl] at c2
    have Hsb := Lib.hid hsb
    clear hl hsb
    cases hE : (loadE l == 0) with
    | false =>
      have hE' : loadE l ≠ 0 := by simpa using hE
      obtain ⟨E, hEe⟩ : ∃ E, loadE l = E := ⟨_, rfl⟩
      have c1' : Calls Try.prog 24 #[.string s] w fun e w' => e = .returned (.tuple #[.pointer none, .int .i64 E]) ∧ Below w.heap.size w w' := c1.mono fun e w' h => by
        obtain ⟨h, hb⟩ := h
        rcases h with ⟨_, h⟩ | ⟨h, _⟩
        · rw [hEe] at h; exact ⟨h, hb⟩
        · exact absurd h hE'
      simp only [hEe] at c2
      rw [hEe] at hE'
      have hEb : (E != 0) = true := by simpa using hE'
      have hEc : (E == 0) = false := by simpa using hE'
      clear hE hE' hEe c1 hlen hll
      go_enter Try.func6, Try.ntmps6
      go_wp2_with fail
      refine c1'.mono ?_; rintro e w1 ⟨rfl, hb1⟩
      clear c1'
      go_wp2_with fail
      refine (c2 _).mono ?_; rintro e w2 ⟨A, cap, n, rfl, _, hb2⟩
      clear c2
      go_wp2_with fail
      refine (awake_any _).mono ?_; rintro e w8 ⟨rfl, hb8⟩
      go_wp2_with fail
      go_ret
      exact ⟨rfl, bel2 (bel2 hb1 hb2) hb8⟩
    | true =>
      have hE' : loadE l = 0 := by simpa using hE
      have hput := load_put hE'
      have hrow := load_rows hE'
      have hbd := hlen (load_parts hE').1
      have c1' : Calls Try.prog 24 #[.string s] w fun e w' => ∃ g b, e = .returned (.tuple #[.pointer (some ⟨g, 0, none⟩), .int .i64 0]) ∧ LastAt w' g b ((readRds l).rows.map rowL) ∧ Below w.heap.size w w' := c1.mono fun e w' h => by
        obtain ⟨h, hb⟩ := h
        rcases h with ⟨h, _⟩ | ⟨_, g, b, he, hL, _⟩
        · exact absurd hE' h
        · exact ⟨g, b, he, hL, hb⟩
      obtain ⟨R, hR⟩ : ∃ R, (readRds l).rows = R := ⟨_, rfl⟩
      simp only [hE', hR] at c2
      rw [hR] at hput hrow hbd
      simp only [hR] at c1'
      have hRl : R.length ≤ 3000 := by omega
      have hlat := latestR_rising hrow.1
      have Hput := Lib.hid hput
      have Hlat := Lib.hid hlat
      clear hE hE' c1 hlen hll hR hput hrow hlat hbd
      go_enter Try.func6, Try.ntmps6
      go_wp2_with fail
      refine c1'.mono ?_; rintro e w1 ⟨g, b, rfl, hL1, hb1⟩
      clear c1'
      go_wp2_with fail
      refine (c2 _).mono ?_; rintro e w2 ⟨A, cap, n, rfl, hrs, hb2⟩
      have hs2 : RowsIn w2 A n R := hrs trivial
      have hL2 := hL1.below hb2
      have hw2 := bel2 hb1 hb2
      have hn := RowsIn.len hs2
      subst hn
      clear c2 hrs hL1 hb1 hb2
      have hO : (R.map rowL).length ≤ 1000000 := by rw [List.length_map]; omega
      go_wp2_with fail
      refine (lput _ _ _ _ hL2 hO).mono ?_; rintro e w3 ⟨rfl, hb3⟩
      rw [Hput.out, Hsb.out]
      have hL3 := hL2.below hb3
      have hs3 : RowsIn w3 A R.length R := SlR.below hs2 hb3
      have hw3 := bel2 hw2 hb3
      clear hL2 hs2 hw2 hb3
      go_wp2_with fail
      refine (llist _ _ _ _ hL3 hO).mono ?_; rintro e w8 ⟨A8, cap8, rfl, hown8, hb8⟩
      rw [List.length_map] at hown8 ⊢
      have hs8 : RowsIn w8 A R.length R := SlR.below hs3 hb8
      have hw8 := bel2 hw3 hb8
      go_wp2_with fail
      refine (rlist w8 A R.length cap R hs8 (by omega)).mono ?_; rintro e w9 ⟨A9, cap9, rfl, hown9, hb9⟩
      have hown9' := hown9.slr
      rw [Hlat.out] at hown9'
      rw [Hlat.out]
      rw [List.length_map] at hown9' ⊢
      have hp8 : PairsIn w9 A8 R.length (R.map pairR) := by
        have := (hown8.below hb9).slr
        have e : listC (R.map rowL) = (R.map pairR).map pairC := by unfold listC; rw [List.map_map, List.map_map]; rfl
        rwa [e] at this
      have hp9 : PairsIn w9 A9 R.length (R.map pairR) := hown9'
      have hw9 := bel2 hw8 hb9
      clear hown8 hown9 hown9' hs8 hs3 hL3 hw3 hb8 hw8 hb9
      go_wp2_with fail
      refine (rpairs w9 _ _ _ _ _ _ _ _ hp8 hp9 (by omega) (by omega)).mono ?_; rintro e w10 ⟨rfl, hb10⟩
      have hdt : decide (R.map pairR = R.map pairR) = true := decide_eq_true rfl
      rw [hdt]
      have hw10 := bel2 hw9 hb10
      clear hdt
      go_wp2_with fail
      refine (awake_any _).mono ?_; rintro e w11 ⟨rfl, hb11⟩
      go_wp2_with fail
      go_ret
      exact ⟨rfl, bel2 hw10 hb11⟩

end Go.Proofs.Ytlonihfhgfmplaa
