/- The reference of bags: Load. -/
import Derived.Test.YtlonihfhgfmplaaBRis
import Derived.Test.YtlonihfhgfmplaaBRL
namespace Go.Proofs.Ytlonihfhgfmplaa
open Go.RowKit

theorem longB_app (A G : List BRow) : longB (A ++ G) = (longB A || longB G) := by simp [longB]
theorem bothB_drop {A G : List BRow} {j : Nat} (h : j < A.length) : bothB (A.drop j) G = (decide (A[j] ∈ G) || bothB (A.drop (j + 1)) G) := by
  rw [List.drop_eq_getElem_cons h]; rfl
theorem longB_drop {A : List BRow} {j : Nat} (h : j < A.length) : longB (A.drop j) = (decide (16 < (A[j]).val.size) || longB (A.drop (j + 1))) := by
  rw [List.drop_eq_getElem_cons h]; rfl

theorem build_ref2 (w : World) (A A' : Option Addr) (n c n' c' : Nat) : (Instr.build 74 #[(0, .slice A n c), (1, .slice A' n' c')]).run Try.prog w = .ok (.agg #[.slice A n c, .slice A' n' c']) w := by kernel_rfl

set_option maxRecDepth 100000 in
set_option maxHeartbeats 4000000 in
theorem rload (w : World) (s : ByteArray) (hs : s.size ≤ 1000000) :
    Calls Try.prog 43 #[.string s] w fun e w' => ∃ P, e = .returned (.tuple #[.pointer P, .int .i64 (loadB s.data.toList)]) ∧ (loadB s.data.toList = 0 → ∃ g, P = some ⟨g, 0, none⟩ ∧ RefIn w' g (partA s.data.toList).rows (partG s.data.toList).rows) ∧ (loadB s.data.toList ≠ 0 → P = none) ∧ Below w.heap.size w w' := by
  obtain ⟨l, hl⟩ : ∃ l, s.data.toList = l := ⟨_, rfl⟩
  have hsl : s = mkB l := by rw [← hl]; rfl
  have hll : l.length ≤ 1000000 := by rw [← hl]; exact hs
  rw [hl]
  subst hsl
  clear hl hs
  have hb0 : Below w.heap.size w (w.alloc (.cells (rrC ⟨mkB l, 0⟩) 114)) := (Below.refl _ _).alloc (Nat.le_refl _) _
  have hr0 : RrAt (w.alloc (.cells (rrC ⟨mkB l, 0⟩) 114)) w.heap.size l 0 := ⟨by omega, heap_alloc_new w _⟩
  have c0 := rread _ _ l 0 hr0
  have hpG : partG l = readB (partA l).l (partA l).e := rfl
  have hpA : partA l = readB l 0 := rfl
  have hld : loadB l = if (partG l).e ≠ 0 then (partG l).e
    else if longB (partA l).rows = true ∨ longB (partG l).rows = true then 3
    else if endE (partG l).l (partG l).e ≠ 0 ∨ risB (partA l).rows = false ∨ risB (partG l).rows = false then 4
    else if bothB (partA l).rows (partG l).rows = true then 4 else 0 := rfl
  obtain ⟨PG, hPG⟩ : ∃ PG, partG l = PG := ⟨_, rfl⟩
  obtain ⟨PA, hPA⟩ : ∃ PA, partA l = PA := ⟨_, rfl⟩
  rw [hPG, hPA] at hpG
  rw [hPA] at hpA
  rw [hPG, hPA] at hld ⊢
  rw [← hpA] at c0
  clear hPA hPG
  obtain ⟨A, l1, e1⟩ := PA
  obtain ⟨G, l2, e2⟩ := PG
  dsimp only at *
  have Hld := Lib.hid hld
  have Hpg := Lib.hid hpG
  clear hld hpG hpA
  go_enter Try.func43, Try.ntmps43
  go_wp2_with fail
  refine c0.mono ?_; rintro e w1 ⟨Aa, ca, rfl, hownA, hr1, hk1, hfA, hnA⟩
  have hb1 : Below w.heap.size w w1 := hb0.trans (hk1.below (by simp) (by simp))
  obtain ⟨g, hg⟩ : ∃ g, w.heap.size = g := ⟨_, rfl⟩
  rw [hg] at hr1 hk1 ⊢
  have Hg := Lib.hid hg
  have hgA : ∀ x ∈ blk Aa, x ∉ [g] := fun x hx => by have := (hownA.at_base hx).1; simp at this ⊢; omega
  have c1 := rread w1 g l1 e1 hr1
  rw [← Hpg.out] at c1
  dsimp only at c1
  clear hg c0 hr0 hb0 hk1
  go_wp2_with fail
  refine c1.mono ?_; rintro e w2 ⟨Ag, cg, rfl, hownG, hr2, hk2, hfG, hnG⟩
  have hslA : RowsIn w2 Aa A.length A := (hownA.kept hk2 hgA).slr
  have hslG : RowsIn w2 Ag G.length G := hownG.slr
  have hcA : Aa = none → ca = 0 := fun e => (hownA.cap_le.2 e).2
  have hcG : Ag = none → cg = 0 := fun e => (hownG.cap_le.2 e).2
  have hb2 : Below w.heap.size w w2 := hb1.trans (hk2.below hb1.size (by simp; have := Hg.out; omega))
  clear c1 hr1 hk2 hownA hownG hgA hb1 hfA hfG
  obtain ⟨d0, d1, _⟩ := rr_cells hr2
  by_cases he : e2 = 0
  · subst he
    have hld2 := Hld.out
    rw [if_neg (by simp)] at hld2
    have Hld2 := Lib.hid hld2
    clear hld2 Hld
    have hown0 := Own.empty w2 w2.heap.size 130 33 (Nat.le_refl _)
    have hBW : Below w2.heap.size w2 (w2.alloc (.cells #[] 130)) := (Below.refl _ _).alloc (Nat.le_refl _) _
    have hsA0 : RowsIn (w2.alloc (.cells #[] 130)) Aa A.length A := SlR.below hslA hBW
    have o1 := onesR A
    have o2 := onesR G
    go_wp2_with (at_builtin; first
      | (refine L_appends einfoRRow rfl hown3 rfl hsG3 hcG o2 (by omega) (by omega) (by omega) ?_; intro A4 c4 w4 hown4 hk4 hsub4)
      | (refine L_appends einfoRRow rfl hown0 rfl hsA0 hcA o1 (by omega) (by omega) (by simp) ?_; intro A3 c3 w3 hown3 hk3 hsub3; rw [Nat.zero_add, List.nil_append] at hown3; have hb3 : Below w2.heap.size w2 w3 := hBW.trans (hk3.below (by simp) (by simp [blk])); have hsG3 : RowsIn w3 Ag G.length G := SlR.below hslG hb3; have hsz3 := hb3.size))
    rw [← List.map_append] at hown4
    have hb4 : Below w2.heap.size w2 w4 := hb3.trans (hk4.below hb3.size (fun x hx => (hown3.at_base hx).1))
    have hsL4 : RowsIn w4 A4 (A.length + G.length) (A ++ G) := hown4.slr
    have hsA4 : RowsIn w4 Aa A.length A := SlR.below hslA hb4
    have hsG4 : RowsIn w4 Ag G.length G := SlR.below hslG hb4
    have hr4 := hr2.below hb4
    have hb04 := bel2 hb2 hb4
    have hlR : (A ++ G).length = A.length + G.length := List.length_append
    have hlg : longB (A ++ G) = (longB A || longB G) := longB_app A G
    obtain ⟨R, hR⟩ : ∃ R, A ++ G = R := ⟨_, rfl⟩
    rw [hR] at hsL4 hlR hlg
    obtain ⟨m, hm⟩ : ∃ m, A.length + G.length = m := ⟨_, rfl⟩
    rw [hm] at hsL4 hlR ⊢
    have Hlg := Lib.hid hlg
    have HlR := Lib.hid hlR
    have hmm : m ≤ 8589934592 := by omega
    clear hown4 hk4 hsub4 hown3 hk3 hsub3 hown0 hBW hsA0 hslA hslG hr2 hb2 hb3 hsG3 d0 d1 o1 o2 hR hm hlg hlR hb4 hsz3
    go_wp2_with fail
    obtain ⟨wo, rfl⟩ : ∃ wo : World, wo = w4 := ⟨_, rfl⟩
    go_loopw [8] (fun i wr => ∃ j : Nat, j ≤ m ∧ i = .int .i64 j ∧ Hid (longB R = longB (R.drop j)) ∧ Below wo.heap.size wo wr) (fun i _ => m - (intOf i).toNat)
    case atStart => exact ⟨0, Nat.zero_le _, rfl, (show _ = _ from rfl), Below.refl _ _⟩
    case round =>
      obtain ⟨j, hj, rfl, hlo, hbr⟩ := hrel
      by_cases hlt : j < m
      · have hjR : j < R.length := by rw [HlR.out]; exact hlt
        obtain ⟨q, o, rfl, -, -, hv⟩ := RowsIn.get (SlR.below hsL4 hbr) hlt hjR
        have hlo2 : longB R = (decide (16 < (R[j]'hjR).val.size) || longB (R.drop (j + 1))) := hlo.out.trans (longB_drop hjR)
        obtain ⟨x, hx⟩ : ∃ x, (R[j]'hjR).val = x := ⟨_, rfl⟩
        rw [hx] at hv hlo2
        clear hx hlo hjR
        by_cases hc : 16 < x.size
        · have hld3 := Hld2.out
          rw [decide_eq_true hc, Bool.true_or] at hlo2
          rw [if_pos (by have := Hlg.out; rw [hlo2] at this; simpa using this.symm)] at hld3
          have Hld3 := Lib.hid hld3
          have hc2 : (16 : Int) < x.size := by omega
          clear hld3 hlo2
          go_wp2_with fail
          go_ret2
          exact ⟨none, by rw [Hld3.out]; rfl, fun h0 => absurd (Hld3.out.symm.trans h0) (by omega), fun _ => rfl, bel2 hb04 hbr⟩
        · rw [decide_eq_false hc, Bool.false_or] at hlo2
          have Hlo := Lib.hid hlo2
          have hc2 : ¬ (16 : Int) < x.size := by omega
          clear hlo2
          go_wp2_with fail
          go_roundw
          case rel => exact ⟨j + 1, by omega, by go_num, Hlo, hbr⟩
          case measure => simp [intOf]; omega
      · have hl0 : longB R = false := by rw [hlo.out, List.drop_eq_nil_of_le (by rw [HlR.out]; omega)]; rfl
        have hlg2 := Hlg.out
        rw [hl0] at hlg2
        have hld3 := Hld2.out
        rw [if_neg (by have := hlg2.symm; simp at this; simp [this])] at hld3
        have Hld3 := Lib.hid hld3
        have hsA5 : RowsIn wr Aa A.length A := SlR.below hsA4 hbr
        have hsG5 : RowsIn wr Ag G.length G := SlR.below hsG4 hbr
        have hr5 := hr4.below hbr
        have hb05 := bel2 hb04 hbr
        clear hl0 hlg2 hld3 Hld2 hlo hsA4 hsG4 hr4 hb04 hbr hsL4 Hlg
        have hcr := fun w' (h' : RowsIn w' Aa A.length A) => rrising w' Aa A.length ca A h' (by omega)
        have hcg2 := fun w' (h' : RowsIn w' Ag G.length G) => rrising w' Ag G.length cg G h' (by omega)
        by_cases he0 : endE l2 0 = 0
        · have He0 := Lib.hid he0
          cases hrA : risB A with
          | false =>
            have HrA := Lib.hid hrA
            rw [hrA] at hcr
            clear hcg2
            have hld4 := Hld3.out
            rw [if_pos (by simp [hrA])] at hld4
            have Hld4 := Lib.hid hld4
            clear hld4
            go_wp2_with fail
            refine (rr_end _ g l2 0 hr5).mono ?_; rintro e w5 ⟨rfl, hb5⟩
            rw [He0.out]
            have hsA6 : RowsIn w5 Aa A.length A := SlR.below hsA5 hb5
            have hsG6 : RowsIn w5 Ag G.length G := SlR.below hsG5 hb5
            have hb6 := bel2 hb05 hb5
            go_wp2_with fail
            refine (hcr _ hsA6).mono ?_; rintro e w6 ⟨rfl, hb7⟩
            go_wp2_with fail
            go_ret2
            exact ⟨none, by rw [Hld4.out]; rfl, fun h0 => absurd (Hld4.out.symm.trans h0) (by omega), fun _ => rfl, bel2 hb6 hb7⟩
          | true =>
            rw [hrA] at hcr
            cases hrG : risB G with
            | false =>
              rw [hrG] at hcg2
              have hld4 := Hld3.out
              rw [if_pos (by simp [hrG])] at hld4
              have Hld4 := Lib.hid hld4
              clear hld4
              go_wp2_with fail
              refine (rr_end _ g l2 0 hr5).mono ?_; rintro e w5 ⟨rfl, hb5⟩
              rw [He0.out]
              have hsA6 : RowsIn w5 Aa A.length A := SlR.below hsA5 hb5
              have hsG6 : RowsIn w5 Ag G.length G := SlR.below hsG5 hb5
              have hb6 := bel2 hb05 hb5
              go_wp2_with fail
              refine (hcr _ hsA6).mono ?_; rintro e w6 ⟨rfl, hb7⟩
              have hsG7 : RowsIn w6 Ag G.length G := SlR.below hsG6 hb7
              go_wp2_with fail
              refine (hcg2 _ hsG7).mono ?_; rintro e w7 ⟨rfl, hb8⟩
              go_wp2_with fail
              go_ret2
              exact ⟨none, by rw [Hld4.out]; rfl, fun h0 => absurd (Hld4.out.symm.trans h0) (by omega), fun _ => rfl, bel2 (bel2 hb6 hb7) hb8⟩
            | true =>
              rw [hrG] at hcg2
              have hld4 := Hld3.out
              rw [if_neg (by simp [hrA, hrG, he0])] at hld4
              have Hld4 := Lib.hid hld4
              clear hld4 Hld3 he0 hrA hrG
              go_wp2_with fail
              refine (rr_end _ g l2 0 hr5).mono ?_; rintro e w5 ⟨rfl, hb5⟩
              rw [He0.out]
              have hsA6 : RowsIn w5 Aa A.length A := SlR.below hsA5 hb5
              have hsG6 : RowsIn w5 Ag G.length G := SlR.below hsG5 hb5
              have hb6 := bel2 hb05 hb5
              clear hsA5 hsG5 hb05 hb5 hr5
              go_wp2_with fail
              refine (hcr _ hsA6).mono ?_; rintro e w6 ⟨rfl, hb7⟩
              have hsA7 : RowsIn w6 Aa A.length A := SlR.below hsA6 hb7
              have hsG7 : RowsIn w6 Ag G.length G := SlR.below hsG6 hb7
              go_wp2_with fail
              refine (hcg2 _ hsG7).mono ?_; rintro e w7 ⟨rfl, hb8⟩
              have hsA8 : RowsIn w7 Aa A.length A := SlR.below hsA7 hb8
              have hsG8 : RowsIn w7 Ag G.length G := SlR.below hsG7 hb8
              have hb9 := bel2 (bel2 hb6 hb7) hb8
              clear hsA6 hsG6 hsA7 hsG7 hb6 hb7 hb8 hcr hcg2
              go_wp2_with fail
              obtain ⟨wp, rfl⟩ : ∃ wp : World, wp = w7 := ⟨_, rfl⟩
              go_loopw [9] (fun i wr => ∃ j : Nat, j ≤ A.length ∧ i = .int .i64 j ∧ Hid (bothB A G = bothB (A.drop j) G) ∧ Below wp.heap.size wp wr) (fun i _ => A.length - (intOf i).toNat)
              case atStart => exact ⟨0, Nat.zero_le _, rfl, (show _ = _ from rfl), Below.refl _ _⟩
              case round =>
                obtain ⟨j, hj, rfl, hbo, hbr⟩ := hrel
                have hsA9 : RowsIn wr Aa A.length A := SlR.below hsA8 hbr
                have hsG9 : RowsIn wr Ag G.length G := SlR.below hsG8 hbr
                by_cases hlt : j < A.length
                · obtain ⟨q, o, rfl, hrow, -, -⟩ := RowsIn.get hsA9 hlt hlt
                  have hbo2 : bothB A G = (decide (A[j]'hlt ∈ G) || bothB (A.drop (j + 1)) G) := hbo.out.trans (bothB_drop hlt)
                  obtain ⟨x, hx⟩ : ∃ x, A[j]'hlt = x := ⟨_, rfl⟩
                  rw [hx] at hrow hbo2
                  clear hx hbo
                  have c2 := rin wr Ag G.length cg G x hsG9 (by omega)
                  by_cases hin : x ∈ G
                  · rw [decide_eq_true hin] at c2 hbo2
                    have hld5 := Hld4.out
                    rw [if_pos (by rw [hbo2]; rfl)] at hld5
                    have Hld5 := Lib.hid hld5
                    clear hld5 hbo2 hin
                    go_wp2_with fail
                    refine c2.mono ?_; rintro e w8 ⟨rfl, hb10⟩
                    go_wp2_with fail
                    go_ret2
                    exact ⟨none, by rw [Hld5.out]; rfl, fun h0 => absurd (Hld5.out.symm.trans h0) (by omega), fun _ => rfl, bel2 (bel2 hb9 hbr) hb10⟩
                  · rw [decide_eq_false hin] at c2 hbo2
                    rw [Bool.false_or] at hbo2
                    have Hbo := Lib.hid hbo2
                    clear hbo2 hin
                    go_wp2_with fail
                    refine c2.mono ?_; rintro e w8 ⟨rfl, hb10⟩
                    have hb11 := bel2 hbr hb10
                    clear c2
                    go_wp2_with fail
                    go_roundw
                    case rel => exact ⟨j + 1, by omega, by go_num, Hbo, hb11⟩
                    case measure => simp [intOf]; omega
                · have hbo2 : bothB A G = false := by rw [hbo.out, List.drop_eq_nil_of_le (by omega)]; rfl
                  have hld5 := Hld4.out
                  rw [if_neg (by rw [hbo2]; simp)] at hld5
                  have Hld5 := Lib.hid hld5
                  clear hld5 hbo2 hbo
                  have hbld := build_ref2 wr Aa Ag A.length ca G.length cg
                  have hbx : Below wr.heap.size wr (wr.alloc (.cells #[.slice Aa A.length ca, .slice Ag G.length cg] 74)) := (Below.refl _ _).alloc (Nat.le_refl _) _
                  have hRI : RefIn (wr.alloc (.cells #[.slice Aa A.length ca, .slice Ag G.length cg] 74)) wr.heap.size A G := ⟨_, _, _, _, _, _, heap_alloc_new wr _, SlR.below hsA9 hbx, SlR.below hsG9 hbx⟩
                  have HRI := Lib.hid hRI
                  clear hRI
                  go_wp2_with fail
                  go_ret2
                  exact ⟨_, by rw [Hld5.out]; rfl, fun _ => ⟨_, rfl, HRI.out⟩, fun h0 => absurd Hld5.out h0, bel2 (bel2 hb9 hbr) hbx⟩
        · have hel : endE l2 0 = 4 := by
            unfold endE at he0 ⊢
            rw [if_pos rfl] at he0 ⊢
            split
            · rename_i h; rw [if_pos h] at he0; exact absurd rfl he0
            · rfl
          have He0 := Lib.hid hel
          clear hcr hcg2
          have hld4 := Hld3.out
          rw [if_pos (by simp [hel])] at hld4
          have Hld4 := Lib.hid hld4
          clear hld4
          go_wp2_with fail
          refine (rr_end _ g l2 0 hr5).mono ?_; rintro e w5 ⟨rfl, hb5⟩
          rw [He0.out]
          have hsA6 : RowsIn w5 Aa A.length A := SlR.below hsA5 hb5
          have hsG6 : RowsIn w5 Ag G.length G := SlR.below hsG5 hb5
          have hb6 := bel2 hb05 hb5
          go_wp2_with fail
          skip
          go_ret2
          exact ⟨none, by rw [Hld4.out]; rfl, fun h0 => absurd (Hld4.out.symm.trans h0) (by omega), fun _ => rfl, hb6⟩
  · have heb : (e2 == 0) = false := by simpa using he
    have hen : (e2 != 0) = true := by simpa using he
    have hld2 := Hld.out
    rw [if_pos he] at hld2
    have Hld2 := Lib.hid hld2
    have He := Lib.hid he
    clear hld2 Hld he
    go_upto_region 5 with fail
    refine wp_region_lex (Bel w2) false (by kernel_rfl) (by kernel_rfl) (by kernel_rfl) (bel_drew w2) ?_
    have hne := bel_some w2
    have hS := bel_drew w2
    have b1 := sub_cell d1
    repeat (refine wpLx_loose ?_ ?_; (focus (simp only [chainOp]; done)); intro K hK; go_simp; refine hK _ ?_; clear hK K)
    refine wpLx_nil ?_
    intro hS
    go_wp2_with fail
    go_ret2
    exact ⟨none, by rw [Hld2.out]; rfl, fun h0 => absurd (Hld2.out.symm.trans h0) He.out, fun _ => rfl, hb2.drew⟩

end Go.Proofs.Ytlonihfhgfmplaa
