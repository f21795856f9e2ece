/- Package bag: Load. -/
import Derived.Test.YtlonihfhgfmplaaBRLoad
namespace Go.Proofs.Ytlonihfhgfmplaa
open Go.RowKit

structure RawBag (w : World) (g bl bg : Nat) (L G : List BRow) : Prop where
  blk : w.heap[g]? = some (.cells #[.map (some bl), .map (some bg)] 80 (0, 0))
  live : RowSet w bl L
  gone : RowSet w bg G
  ne : bl ≠ bg
theorem BagAt.raw {w : World} {g bl bg : Nat} {L G : List BRow} (h : BagAt w g bl bg L G) : RawBag w g bl bg L G := ⟨h.blk, h.live, h.gone, h.ne⟩
theorem RawBag.nel {w : World} {g bl bg : Nat} {L G : List BRow} (h : RawBag w g bl bg L G) : g ≠ bl := set_ne h.live h.blk
theorem RawBag.neg {w : World} {g bl bg : Nat} {L G : List BRow} (h : RawBag w g bl bg L G) : g ≠ bg := set_ne h.gone h.blk
theorem RawBag.lt {w : World} {g bl bg : Nat} {L G : List BRow} (h : RawBag w g bl bg L G) : g < w.heap.size ∧ bl < w.heap.size ∧ bg < w.heap.size :=
  ⟨(Array.getElem?_eq_some_iff.1 h.blk).1, h.live.lt, h.gone.lt⟩
theorem RawBag.kept {w w' : World} {g bl bg : Nat} {L G : List BRow} {S : List Nat} (h : RawBag w g bl bg L G) (k : Keep S w w') (hg : g ∉ S) (hl : bl ∉ S) (hb : bg ∉ S) : RawBag w' g bl bg L G :=
  ⟨(k.block g h.lt.1 hg).trans h.blk, h.live.kept k hl, h.gone.kept k hb, h.ne⟩
theorem RawBag.below {w w' : World} {g bl bg : Nat} {L G : List BRow} (h : RawBag w g bl bg L G) (k : Below w.heap.size w w') : RawBag w' g bl bg L G := h.kept (Keep.of_below k) (by simp) (by simp) (by simp)
theorem RawBag.cell0 {w : World} {g bl bg : Nat} {L G : List BRow} (h : RawBag w g bl bg L G) : w.cell? ⟨g, 0, none⟩ = some (.map (some bl)) := by rw [cell_of_row w g 0 _ _ _ h.blk]; rfl
theorem RawBag.cell1 {w : World} {g bl bg : Nat} {L G : List BRow} (h : RawBag w g bl bg L G) : w.cell? ⟨g, 1, none⟩ = some (.map (some bg)) := by rw [cell_of_row w g 1 _ _ _ h.blk]; rfl

set_option maxRecDepth 100000 in
set_option maxHeartbeats 4000000 in
theorem bload (w : World) (s : ByteArray) (hs : s.size ≤ 1000000) :
    Calls Try.prog 42 #[.string s] w fun e w' => ∃ P, e = .returned (.tuple #[.pointer P, .int .i64 (loadB s.data.toList)]) ∧ (loadB s.data.toList = 0 → ∃ g bl bg, P = some ⟨g, 0, none⟩ ∧ BagAt w' g bl bg (partA s.data.toList).rows (partG s.data.toList).rows ∧ w.heap.size ≤ g ∧ w.heap.size ≤ bl ∧ w.heap.size ≤ bg) ∧ (loadB s.data.toList ≠ 0 → P = none) ∧ Below w.heap.size w w' := by
  obtain ⟨l, hl⟩ : ∃ l, s.data.toList = l := ⟨_, rfl⟩
  have hsl : s = mkB l := by rw [← hl]; rfl
  have hll : l.length ≤ 1000000 := by rw [← hl]; exact hs
  have cop := rd_open s w (by omega)
  rw [hl] at cop ⊢
  subst hsl
  clear hl hs
  have hpt := fun h : loadB l = 0 => load_parts h
  have hpG : partG l = readB (partA l).l (partA l).e := rfl
  have hpA : partA l = readB l 0 := rfl
  have hld : loadB l = if (partG l).e ≠ 0 then (partG l).e
    else if longB (partA l).rows = true ∨ longB (partG l).rows = true then 3
    else if endE (partG l).l (partG l).e ≠ 0 ∨ risB (partA l).rows = false ∨ risB (partG l).rows = false then 4
    else if bothB (partA l).rows (partG l).rows = true then 4 else 0 := rfl
  obtain ⟨PG, hPG⟩ : ∃ PG, partG l = PG := ⟨_, rfl⟩
  obtain ⟨PA, hPA⟩ : ∃ PA, partA l = PA := ⟨_, rfl⟩
  rw [hPG, hPA] at hpG
  rw [hPA] at hpA
  rw [hPG, hPA] at hld ⊢
  rw [hPG, hPA] at hpt
  clear hPA hPG
  obtain ⟨A, l1, e1⟩ := PA
  obtain ⟨G, l2, e2⟩ := PG
  dsimp only at *
  have Hld := Lib.hid hld
  have Hpg := Lib.hid hpG
  have Hpa := Lib.hid hpA
  have Hpt := Lib.hid hpt
  clear hld hpG hpA hpt
  obtain ⟨g, hg⟩ : ∃ g, w.heap.size = g := ⟨_, rfl⟩
  rw [hg] at cop ⊢
  have Hg := Lib.hid hg
  clear hg
  go_enter Try.func42, Try.ntmps42
  go_wp2_with fail
  refine cop.mono ?_; rintro e w0 ⟨rfl, hr0, hb0⟩
  have c0 := bread w0 g l 0 hr0
  rw [← Hpa.out] at c0
  dsimp only at c0
  have hg0 : g < w0.heap.size := hr0.lt
  clear cop hr0
  go_wp2_with fail
  refine c0.mono ?_; rintro e w1 ⟨Aa, ca, rfl, hownA, hr1, hk1, hfA, hnA⟩
  have hb1 : Below g w w1 := hb0.trans (hk1.below (by omega) (by simp))
  have hgA : ∀ x ∈ blk Aa, x ∉ [g] := fun x hx => by have := (hownA.at_base hx).1; simp; omega
  have c1 := bread w1 g l1 e1 hr1
  rw [← Hpg.out] at c1
  dsimp only at c1
  clear c0 hb0 hk1
  go_wp2_with fail
  refine c1.mono ?_; rintro e w2 ⟨Ag, cg, rfl, hownG, hr2, hk2, hfG, hnG⟩
  have hslA : RowsIn w2 Aa A.length A := (hownA.kept hk2 hgA).slr
  have hslG : RowsIn w2 Ag G.length G := hownG.slr
  have hb2 : Below g w w2 := hb1.trans (hk2.below (by have := hb1.size; have := Hg.out; omega) (by simp))
  have hAb : Hid (∀ x ∈ blk Aa, x < w2.heap.size) := fun x hx => by have := (hownA.at_base hx).2; have := hk2.size; omega
  have hGb : Hid (∀ x ∈ blk Ag, x < w2.heap.size) := fun x hx => (hownG.at_base hx).2
  clear c1 hr1 hk2 hownA hownG hgA hb1 hfA hfG hg0
  by_cases he : e2 = 0
  · subst he
    have hld2 := Hld.out
    rw [if_neg (by simp)] at hld2
    have Hld2 := Lib.hid hld2
    clear hld2 Hld
    have cA := fun w' (h' : RowsIn w' Aa A.length A) => bcontains w' Aa A.length ca A h' (by omega)
    have cG := fun w' (h' : RowsIn w' Ag G.length G) => bcontains w' Ag G.length cg G h' (by omega)
    cases hlA : longB A with
    | true =>
      rw [hlA] at cA
      have hld3 := Hld2.out
      rw [if_pos (.inl hlA)] at hld3
      have Hld3 := Lib.hid hld3
      clear hld3 Hld2 hlA cG
      go_wp2_with fail
      refine (rd_err _ g l2 0 hr2).mono ?_; rintro e w3 ⟨rfl, rfl⟩
      go_wp2_with fail
      refine (cA _ hslA).mono ?_; rintro e w4 ⟨rfl, hb4⟩
      go_wp2_with fail
      go_ret2
      exact ⟨none, by rw [Hld3.out]; rfl, fun h0 => absurd (Hld3.out.symm.trans h0) (by omega), fun _ => rfl, hb2.trans (hb4.mono (by have := hb2.size; have := Hg.out; omega))⟩
    | false =>
      rw [hlA] at cA
      cases hlG : longB G with
      | true =>
        rw [hlG] at cG
        have hld3 := Hld2.out
        rw [if_pos (.inr hlG)] at hld3
        have Hld3 := Lib.hid hld3
        clear hld3 Hld2 hlA hlG
        go_wp2_with fail
        refine (rd_err _ g l2 0 hr2).mono ?_; rintro e w3 ⟨rfl, rfl⟩
        go_wp2_with fail
        refine (cA _ hslA).mono ?_; rintro e w4 ⟨rfl, hb4⟩
        have hslG4 : RowsIn w4 Ag G.length G := SlR.below hslG hb4
        go_wp2_with fail
        refine (cG _ hslG4).mono ?_; rintro e w5 ⟨rfl, hb5⟩
        go_wp2_with fail
        go_ret2
        exact ⟨none, by rw [Hld3.out]; rfl, fun h0 => absurd (Hld3.out.symm.trans h0) (by omega), fun _ => rfl, hb2.trans ((bel2 hb4 hb5).mono (by have := hb2.size; have := Hg.out; omega))⟩
      | false =>
        rw [hlG] at cG
        have hld3 := Hld2.out
        rw [if_neg (by simp [hlA, hlG])] at hld3
        have Hld3 := Lib.hid hld3
        have HsA := Lib.hid (longB_false.1 hlA)
        have HsG := Lib.hid (longB_false.1 hlG)
        clear hld3 Hld2 hlA hlG
        go_wp2_with fail
        refine (rd_err _ g l2 0 hr2).mono ?_; rintro e w3 ⟨rfl, rfl⟩
        go_wp2_with fail
        refine (cA _ hslA).mono ?_; rintro e w4 ⟨rfl, hb4⟩
        have hslG4 : RowsIn w4 Ag G.length G := SlR.below hslG hb4
        go_wp2_with fail
        refine (cG _ hslG4).mono ?_; rintro e w5 ⟨rfl, hb5⟩
        have hsA5 : RowsIn w5 Aa A.length A := SlR.below (SlR.below hslA hb4) hb5
        have hsG5 : RowsIn w5 Ag G.length G := SlR.below hslG4 hb5
        have hr5 := (hr2.below hb4).below hb5
        have hb05 : Below g w w5 := hb2.trans ((bel2 hb4 hb5).mono (by have := hb2.size; have := Hg.out; omega))
        have hgw : g ≤ w5.heap.size := by have := hb05.size; have := Hg.out; omega
        have hs25 := (bel2 hb4 hb5).size
        clear hslA hslG hslG4 hr2 hb2 hb4 hb5 cA cG
        have hcr := fun w' (h' : RowsIn w' Aa A.length A) => brising w' Aa A.length ca A h' (by omega)
        have hcg2 := fun w' (h' : RowsIn w' Ag G.length G) => brising w' Ag G.length cg G h' (by omega)
        by_cases he0 : endE l2 0 = 0
        · have He0 := Lib.hid he0
          cases hrA : risB A with
          | false =>
            rw [hrA] at hcr
            clear hcg2
            have hld4 := Hld3.out
            rw [if_pos (by simp [hrA])] at hld4
            have Hld4 := Lib.hid hld4
            clear hld4
            go_wp2_with fail
            refine (rd_end _ g l2 0 hr5).mono ?_; rintro e w6 ⟨rfl, hb5⟩
            rw [He0.out]
            have hsA6 : RowsIn w6 Aa A.length A := SlR.below hsA5 hb5
            have hsG6 : RowsIn w6 Ag G.length G := SlR.below hsG5 hb5
            have hb6 : Below g w w6 := hb05.trans (hb5.mono hgw)
            go_wp2_with fail
            refine (hcr _ hsA6).mono ?_; rintro e w7 ⟨rfl, hb7⟩
            go_wp2_with fail
            go_ret2
            exact ⟨none, by rw [Hld4.out]; rfl, fun h0 => absurd (Hld4.out.symm.trans h0) (by omega), fun _ => rfl, hb6.trans (hb7.mono (by have := hb6.size; have := Hg.out; omega))⟩
          | true =>
            rw [hrA] at hcr
            cases hrG : risB G with
            | false =>
              rw [hrG] at hcg2
              have hld4 := Hld3.out
              rw [if_pos (by simp [hrG])] at hld4
              have Hld4 := Lib.hid hld4
              clear hld4
              go_wp2_with fail
              refine (rd_end _ g l2 0 hr5).mono ?_; rintro e w6 ⟨rfl, hb5⟩
              rw [He0.out]
              have hsA6 : RowsIn w6 Aa A.length A := SlR.below hsA5 hb5
              have hsG6 : RowsIn w6 Ag G.length G := SlR.below hsG5 hb5
              have hb6 : Below g w w6 := hb05.trans (hb5.mono hgw)
              go_wp2_with fail
              refine (hcr _ hsA6).mono ?_; rintro e w7 ⟨rfl, hb7⟩
              have hsG7 : RowsIn w7 Ag G.length G := SlR.below hsG6 hb7
              go_wp2_with fail
              refine (hcg2 _ hsG7).mono ?_; rintro e w8 ⟨rfl, hb8⟩
              go_wp2_with fail
              go_ret2
              exact ⟨none, by rw [Hld4.out]; rfl, fun h0 => absurd (Hld4.out.symm.trans h0) (by omega), fun _ => rfl, hb6.trans ((bel2 hb7 hb8).mono (by have := hb6.size; have := Hg.out; omega))⟩
            | true =>
              rw [hrG] at hcg2
              have hld4 := Hld3.out
              rw [if_neg (by simp [hrA, hrG, he0])] at hld4
              have Hld4 := Lib.hid hld4
              clear hld4 Hld3 he0 hrA hrG
              go_wp2_with fail
              refine (rd_end _ g l2 0 hr5).mono ?_; rintro e w6 ⟨rfl, hb6⟩
              rw [He0.out]
              have hsA6 : RowsIn w6 Aa A.length A := SlR.below hsA5 hb6
              have hsG6 : RowsIn w6 Ag G.length G := SlR.below hsG5 hb6
              go_wp2_with fail
              refine (hcr _ hsA6).mono ?_; rintro e w7 ⟨rfl, hb7⟩
              have hsA7 : RowsIn w7 Aa A.length A := SlR.below hsA6 hb7
              have hsG7 : RowsIn w7 Ag G.length G := SlR.below hsG6 hb7
              go_wp2_with fail
              refine (hcg2 _ hsG7).mono ?_; rintro e w8 ⟨rfl, hb8⟩
              have hsA8 : RowsIn w8 Aa A.length A := SlR.below hsA7 hb8
              have hsG8 : RowsIn w8 Ag G.length G := SlR.below hsG7 hb8
              have hb58 := bel2 (bel2 hb6 hb7) hb8
              have hb08 : Below g w w8 := hb05.trans (hb58.mono hgw)
              have hgw8 : g ≤ w8.heap.size := by have := hb58.size; omega
              have hs28 : w2.heap.size ≤ w8.heap.size := by have := hb58.size; omega
              clear hsA5 hsG5 hsA6 hsG6 hsA7 hsG7 hb05 hb58 hb6 hb7 hb8 hcr hcg2 hr5 hgw
              go_wp2_with fail
              refine (bnew _).mono ?_; rintro e w9 ⟨gb, bl, bg, rfl, hB9, hgb, hgl, hgg, hb9⟩
              have hR9 := hB9.raw
              have hsA9 : RowsIn w9 Aa A.length A := SlR.below hsA8 hb9
              have hsG9 : RowsIn w9 Ag G.length G := SlR.below hsG8 hb9
              have hb09 : Below g w w9 := hb08.trans (hb9.mono hgw8)
              have hgb' : g ≤ gb := by omega
              have hgl' : g ≤ bl := by omega
              have hgg' : g ≤ bg := by omega
              have Hgb := Lib.hid (show ∀ x, x ∈ [bl, bg] → g ≤ x by simp; omega)
              have hnl := hR9.nel
              have hng := hR9.neg
              have hAn : Hid (∀ x ∈ blk Aa, x ∉ [bl, bg]) := fun x hx => by have := hAb.out x hx; simp; omega
              have hGn : Hid (∀ x ∈ blk Ag, x ∉ [bl, bg]) := fun x hx => by have := hGb.out x hx; simp; omega
              clear hB9 hsA8 hsG8 hb08 hb9 hgb hgl hgg hgw8 hAb hGb hs28 hs25
              go_wp2_with fail
              obtain ⟨wo, rfl⟩ : ∃ wo : World, wo = w9 := ⟨_, rfl⟩
              go_loopw [42] (fun i wr => ∃ j : Nat, j ≤ G.length ∧ i = .int .i64 j ∧ RawBag wr gb bl bg [] (G.take j) ∧ Keep [bl, bg] wo wr) (fun i _ => G.length - (intOf i).toNat)
              case atStart => exact ⟨0, Nat.zero_le _, rfl, hR9, Keep.refl _ _⟩
              case round =>
                clear hR9
                obtain ⟨j, hj, rfl, hR, hkr⟩ := hrel
                have hlt' := hR.lt
                by_cases hlt : j < G.length
                · have hsGr : RowsIn wr Ag G.length G := SlR.kept hsG9 hkr hGn.out
                  obtain ⟨q, o, rfl, hrow, -, -⟩ := RowsIn.get hsGr hlt hlt
                  have htk : G.take (j + 1) = G.take j ++ [G[j]'hlt] := by rw [List.take_add_one, List.getElem?_eq_getElem hlt]; rfl
                  have hsm := HsG.out _ (List.getElem_mem hlt)
                  obtain ⟨x, hx⟩ : ∃ x, G[j]'hlt = x := ⟨_, rfl⟩
                  rw [hx] at hrow htk hsm
                  have Htk := Lib.hid htk
                  have Hsm := Lib.hid hsm
                  clear hx htk hsm hsGr
                  have hb1 : Below wr.heap.size wr (wr.alloc (.cells (bRowC x) 120)) := (Below.refl _ _).alloc (Nat.le_refl _) _
                  have h1 := hR.below hb1
                  have hrow1 : rowAt (wr.alloc (.cells (bRowC x) 120)) wr.heap.size 0 33 = some (bRowC x) := by simp [go_sem]
                  go_upto_region 16 with fail
                  obtain ⟨W1, hW1⟩ : ∃ W1, W1 = (wr.alloc (.cells (bRowC x) 120)) := ⟨_, rfl⟩
                  rw [← hW1] at h1 hrow1 hb1 ⊢
                  obtain ⟨w2', hrun, hG2, hk2⟩ := rput (x := x) (h1.gone.kept (Keep.drew W1) (by simp)) Hsm.out
                  have hgb2 : gb ∉ [bg] := by simp; exact hng
                  have hc1 := h1.cell1
                  clear hW1
                  refine wp_region_lex (Kp [bg] W1) false (by kernel_rfl) (by kernel_rfl) (by kernel_rfl) (kp_drew [bg] W1) ?_
                  have hne := kp_some [bg] W1
                  have hS := kp_drew [bg] W1
                  have b1 := ksub_cell hc1 hgb2
                  have b2 := ksub_row hrow1 (S := [bg]) (by simp; omega)
                  repeat (refine wpLx_loose ?_ ?_; (focus (simp only [chainOp]; done)); intro K hK; go_simp; refine hK _ ?_; clear hK K)
                  refine wpLx_chain ?_ ?_ ?_
                  focus (exact hS)
                  focus (simp only [chainOp]; done)
                  intro K hK
                  go_simp
                  refine step_keep (kp_next hS hk2 (by simp)) (fun hS => ?_)
                  refine hK _ _ ?_
                  clear hK K
                  refine wpLx_nil ?_
                  intro hS
                  have hS' : Keep [bg] W1 w2' := hS
                  have hlg : bl ∉ [bg] := by simp; exact h1.ne
                  have hkW2 : Keep [bg] wr w2' := Keep.trans ((Keep.of_below hb1).mono (S' := [bg]) (by simp)) hS' (fun x hx => .inl hx)
                  have hkn : Keep [bl, bg] wo w2' := Keep.trans hkr (hkW2.mono (S' := [bl, bg]) (by simp)) (fun x hx => .inl hx)
                  have hRn : RawBag w2' gb bl bg [] (G.take (j + 1)) := by
                    rw [Htk.out]
                    refine ⟨(hS'.block gb h1.lt.1 hgb2).trans h1.blk, h1.live.kept hS' hlg, hG2.congr fun y => ?_, h1.ne⟩
                    rw [List.mem_append, List.mem_singleton, List.mem_cons, or_comm]
                  clear b1 b2 hk2 hrun hne hS hS' hc1 hrow1 hb1 hkW2
                  go_wp2_with fail
                  go_roundw
                  case rel => exact ⟨j + 1, by omega, by go_num, hRn, hkn⟩
                  case measure => simp [intOf]; omega
                · have hR2 : RawBag wr gb bl bg [] G := by
                    have := hR
                    rwa [List.take_of_length_le (by omega)] at this
                  have hsA10 : RowsIn wr Aa A.length A := SlR.kept hsA9 hkr hAn.out
                  have hb10 : Below g w wr := hb09.trans (hkr.below (by have := hb09.size; have := Hg.out; omega) Hgb.out)
                  clear hR hkr hsA9 hsG9 hb09 hlt'
                  go_wp2_with fail
                  obtain ⟨wp, rfl⟩ : ∃ wp : World, wp = wr := ⟨_, rfl⟩
                  go_loopw [54] (fun i wr => ∃ j : Nat, j ≤ A.length ∧ i = .int .i64 j ∧ RawBag wr gb bl bg (A.take j) G ∧ Hid (bothB A G = bothB (A.drop j) G) ∧ Keep [bl, bg] wp wr) (fun i _ => A.length - (intOf i).toNat)
                  case atStart => exact ⟨0, Nat.zero_le _, rfl, hR2, (show _ = _ from rfl), Keep.refl _ _⟩
                  case round =>
                    clear hR2
                    obtain ⟨j, hj, rfl, hR, hbo, hkr⟩ := hrel
                    have hlt' := hR.lt
                    by_cases hlt : j < A.length
                    · have hsAr : RowsIn wr Aa A.length A := SlR.kept hsA10 hkr hAn.out
                      obtain ⟨q, o, rfl, hrow, -, -⟩ := RowsIn.get hsAr hlt hlt
                      have htk : A.take (j + 1) = A.take j ++ [A[j]'hlt] := by rw [List.take_add_one, List.getElem?_eq_getElem hlt]; rfl
                      have hsm := HsA.out _ (List.getElem_mem hlt)
                      have hbo2 : bothB A G = (decide (A[j]'hlt ∈ G) || bothB (A.drop (j + 1)) G) := hbo.out.trans (bothB_drop hlt)
                      obtain ⟨x, hx⟩ : ∃ x, A[j]'hlt = x := ⟨_, rfl⟩
                      rw [hx] at hrow htk hsm hbo2
                      have Htk := Lib.hid htk
                      have Hsm := Lib.hid hsm
                      clear hx htk hsm hsAr hbo
                      have hb1 : Below wr.heap.size wr (wr.alloc (.cells (bRowC x) 120)) := (Below.refl _ _).alloc (Nat.le_refl _) _
                      have h1 := hR.below hb1
                      have hrow1 : rowAt (wr.alloc (.cells (bRowC x) 120)) wr.heap.size 0 33 = some (bRowC x) := by simp [go_sem]
                      go_upto_region 21 with fail
                      obtain ⟨W1, hW1⟩ : ∃ W1, W1 = (wr.alloc (.cells (bRowC x) 120)) := ⟨_, rfl⟩
                      rw [← hW1] at h1 hrow1 hb1 ⊢
                      have hc1 := h1.cell1
                      clear hW1
                      by_cases hin : x ∈ G
                      · rw [decide_eq_true hin, Bool.true_or] at hbo2
                        have hld5 := Hld4.out
                        rw [if_pos hbo2] at hld5
                        have Hld5 := Lib.hid hld5
                        have hk : ∀ y : Subtype (Bel W1), (Instr.lookup 78 (.map (some bg)) (.agg (bRowC x)) false).run Try.prog y.1 = .ok (.bool true) y.1 := fun y => rhit (h1.gone.below y.2) Hsm.out hin
                        clear hld5 hbo2 hin
                        refine wp_region_lex (Bel W1) false (by kernel_rfl) (by kernel_rfl) (by kernel_rfl) (bel_drew W1) ?_
                        have hne := bel_some W1
                        have hS := bel_drew W1
                        have b1 := sub_cell hc1; have b2 := sub_row hrow1
                        repeat (refine wpLx_loose ?_ ?_; (focus (simp only [chainOp]; done)); intro K hK; go_simp; refine hK _ ?_; clear hK K)
                        refine wpLx_nil ?_
                        intro hS
                        go_wp2_with fail
                        go_ret2
                        exact ⟨none, by rw [Hld5.out]; rfl, fun h0 => absurd (Hld5.out.symm.trans h0) (by omega), fun _ => rfl, hb10.trans ((hkr.below (by have := hb10.size; have := Hg.out; omega) Hgb.out).trans ((bel2 hb1 hS).mono (by have := hb10.size; have := hkr.size; have := Hg.out; omega)))⟩
                      · rw [decide_eq_false hin, Bool.false_or] at hbo2
                        have Hbo := Lib.hid hbo2
                        have hk : ∀ y : Subtype (Bel W1), (Instr.lookup 78 (.map (some bg)) (.agg (bRowC x)) false).run Try.prog y.1 = .ok (.bool false) y.1 := fun y => rmiss (h1.gone.below y.2) Hsm.out hin
                        clear hbo2 hin
                        refine wp_region_lex (Bel W1) false (by kernel_rfl) (by kernel_rfl) (by kernel_rfl) (bel_drew W1) ?_
                        have hne := bel_some W1
                        have hS := bel_drew W1
                        have b1 := sub_cell hc1; have b2 := sub_row hrow1
                        repeat (refine wpLx_loose ?_ ?_; (focus (simp only [chainOp]; done)); intro K hK; go_simp; refine hK _ ?_; clear hK K)
                        refine wpLx_nil ?_
                        intro hS
                        have hbd := bel_drew W1
                        have h2 := h1.below hbd
                        have hrow2 : rowAt W1.drew wr.heap.size 0 33 = some (bRowC x) := hrow1
                        clear b1 b2 hk hne hS hc1 hrow1
                        go_upto_region 23 with fail
                        obtain ⟨W2, hW2⟩ : ∃ W2, W2 = W1.drew := ⟨_, rfl⟩
                        rw [← hW2] at h2 hrow2 hbd ⊢
                        have hc0 := h2.cell0
                        obtain ⟨w2', hrun, hL2, hk2⟩ := rput (x := x) (h2.live.kept (Keep.drew W2) (by simp)) Hsm.out
                        have hgb2 : gb ∉ [bl] := by simp; exact hnl
                        clear hW2
                        refine wp_region_lex (Kp [bl] W2) false (by kernel_rfl) (by kernel_rfl) (by kernel_rfl) (kp_drew [bl] W2) ?_
                        have hne := kp_some [bl] W2
                        have hS := kp_drew [bl] W2
                        have b1 := ksub_cell hc0 hgb2
                        have b2 := ksub_row hrow2 (S := [bl]) (by simp; omega)
                        repeat (refine wpLx_loose ?_ ?_; (focus (simp only [chainOp]; done)); intro K hK; go_simp; refine hK _ ?_; clear hK K)
                        refine wpLx_chain ?_ ?_ ?_
                        focus (exact hS)
                        focus (simp only [chainOp]; done)
                        intro K hK
                        go_simp
                        refine step_keep (kp_next hS hk2 (by simp)) (fun hS => ?_)
                        refine hK _ _ ?_
                        clear hK K
                        refine wpLx_nil ?_
                        intro hS
                        have hS' : Keep [bl] W2 w2' := hS
                        have hlg : bg ∉ [bl] := by simp; exact fun e => h2.ne e.symm
                        have hkW2 : Keep [bl] wr w2' := Keep.trans ((Keep.of_below (bel2 hb1 hbd)).mono (S' := [bl]) (by simp)) hS' (fun x hx => .inl hx)
                        have hkn : Keep [bl, bg] wp w2' := Keep.trans hkr (hkW2.mono (S' := [bl, bg]) (by simp)) (fun x hx => .inl hx)
                        have hRn : RawBag w2' gb bl bg (A.take (j + 1)) G := by
                          rw [Htk.out]
                          refine ⟨(hS'.block gb h2.lt.1 hgb2).trans h2.blk, hL2.congr fun y => ?_, h2.gone.kept hS' hlg, h2.ne⟩
                          rw [List.mem_append, List.mem_singleton, List.mem_cons, or_comm]
                        clear b1 b2 hk2 hrun hne hS hS' hc0 hrow2 hb1 hkW2 hbd
                        go_wp2_with fail
                        go_roundw
                        case rel => exact ⟨j + 1, by omega, by go_num, hRn, Hbo, hkn⟩
                        case measure => simp [intOf]; omega
                    · have hR3 : RawBag wr gb bl bg A G := by
                        have := hR
                        rwa [List.take_of_length_le (by omega)] at this
                      have hbo2 : bothB A G = false := by rw [hbo.out, List.drop_eq_nil_of_le (by omega)]; rfl
                      have hld5 := Hld4.out
                      rw [if_neg (by rw [hbo2]; simp)] at hld5
                      obtain ⟨_, p2, p3, _, p5, p6, p7⟩ := Hpt.out hld5
                      have hBf : BagAt wr gb bl bg A G := ⟨hR3.blk, hR3.live, hR3.gone, hR3.ne, p5, p6, p2, p3, p7⟩
                      have Hld5 := Lib.hid hld5
                      have HBf := Lib.hid hBf
                      have hb11 : Below g w wr := hb10.trans (hkr.below (by have := hb10.size; have := Hg.out; omega) Hgb.out)
                      clear p2 p3 p5 p6 p7 hBf hld5 hbo2 hR3 hR hbo hkr
                      go_wp2_with fail
                      go_ret2
                      exact ⟨some ⟨gb, 0, none⟩, by rw [Hld5.out]; rfl, fun _ => ⟨gb, bl, bg, rfl, HBf.out, hgb', hgl', hgg'⟩, fun h0 => absurd Hld5.out h0, hb11⟩
        · have hel : endE l2 0 = 4 := by
            unfold endE at he0 ⊢
            rw [if_pos rfl] at he0 ⊢
            split
            · rename_i h; rw [if_pos h] at he0; exact absurd rfl he0
            · rfl
          have He0 := Lib.hid hel
          clear hcr hcg2
          have hld4 := Hld3.out
          rw [if_pos (by simp [hel])] at hld4
          have Hld4 := Lib.hid hld4
          clear hld4
          go_wp2_with fail
          refine (rd_end _ g l2 0 hr5).mono ?_; rintro e w6 ⟨rfl, hb5⟩
          rw [He0.out]
          have hsA6 : RowsIn w6 Aa A.length A := SlR.below hsA5 hb5
          have hsG6 : RowsIn w6 Ag G.length G := SlR.below hsG5 hb5
          have hb6 : Below g w w6 := hb05.trans (hb5.mono hgw)
          go_wp2_with fail
          go_ret2
          exact ⟨none, by rw [Hld4.out]; rfl, fun h0 => absurd (Hld4.out.symm.trans h0) (by omega), fun _ => rfl, hb6⟩
  · have heb : (e2 == 0) = false := by simpa using he
    have hen : (e2 != 0) = true := by simpa using he
    have hld2 := Hld.out
    rw [if_pos he] at hld2
    have Hld2 := Lib.hid hld2
    have He := Lib.hid he
    clear hld2 Hld he
    go_wp2_with fail
    refine (rd_err _ g l2 e2 hr2).mono ?_; rintro e w3 ⟨rfl, rfl⟩
    go_wp2_with fail
    refine (rd_err _ g l2 e2 hr2).mono ?_; rintro e w3 ⟨rfl, rfl⟩
    go_wp2_with fail
    go_ret2
    exact ⟨none, by rw [Hld2.out]; rfl, fun h0 => absurd (Hld2.out.symm.trans h0) He.out, fun _ => rfl, hb2⟩

end Go.Proofs.Ytlonihfhgfmplaa
