/- The reference of bags: List: the walk. -/
import Derived.Test.YtlonihfhgfmplaaBRC
namespace Go.Proofs.Ytlonihfhgfmplaa
open Go.RowKit

abbrev OwnW (w : World) (B : Nat) (A : Option Addr) (cap : Nat) (R : List ByteArray) : Prop := Own w B 42 2 A R.length cap (R.map pairW)
theorem OwnW.get {w : World} {A : Option Addr} {n : Nat} {R : List ByteArray} (h : SlR w A n 2 (R.map pairW)) {i : Nat} (hi : i < n) (hR : i < R.length) :
    ∃ g o, A = some ⟨g, o, none⟩ ∧ w.cell? ⟨g, o + i * 2, none⟩ = some (.string R[i]) := by
  obtain ⟨g, o, e, hr⟩ := SlR.at_ h hi
  rw [List.getElem_map] at hr
  refine ⟨g, o, e, ?_⟩
  have := rowAt_cell hr (j := 0) (by omega)
  unfold pairW at this
  rwa [pairC_g0] at this

set_option maxRecDepth 100000 in
set_option maxHeartbeats 4000000 in
theorem rlist_in (w : World) (g : Nat) (X G : List BRow) (h : RefIn w g X G) (hX : X.length ≤ 100000) (hG : G.length ≤ 100000) :
    Calls Try.prog 37 #[.pointer (some ⟨g, 0, none⟩)] w fun e w' => ∃ A cap, e = .returned (.slice A (listB (liveR X G)).length cap) ∧ OwnW w' w.heap.size A cap (listB (liveR X G)) ∧ Below w.heap.size w w' := by
  have c1 := rlive_in w g X G h hX hG
  have hll := liveR_len X G
  obtain ⟨Z, hZ⟩ : ∃ Z, liveR X G = Z := ⟨_, rfl⟩
  rw [hZ] at c1 hll ⊢
  clear hZ h
  go_enter Try.func37, Try.ntmps37
  go_wp2_with fail
  refine c1.mono ?_; rintro e w1 ⟨RA, rc, rfl, hrow, hb1⟩
  have hslZ : RowsIn w1 RA Z.length Z := hrow.slr
  clear hrow c1
  go_wp2_with fail
  go_loopw [3, 5] (fun out i wr => ∃ (k : Nat) (A1 : Option Addr) (cap1 : Nat), k ≤ Z.length ∧ i = .int .i64 k ∧ out = .slice A1 (listB (Z.take k)).length cap1 ∧ OwnW wr w1.heap.size A1 cap1 (listB (Z.take k)) ∧ Below w1.heap.size w1 wr) (fun _ i _ => Z.length - (intOf i).toNat)
  case atStart => exact ⟨0, none, 0, Nat.zero_le _, rfl, rfl, Own.nil _ _ _ _, Below.refl _ _⟩
  case round =>
    obtain ⟨k, A1, cap1, hk, rfl, rfl, hown, hb⟩ := hrel
    by_cases hlt : k < Z.length
    · obtain ⟨q, o, rfl, _, _, hrv⟩ := RowsIn.get (SlR.below hslZ hb) hlt hlt
      have htk := listB_take Z k hlt
      have hol : (listB (Z.take k)).length ≤ 1000000 := by have := listB_len (Z.take k); simp at this; omega
      have hris : Ris cmpS (listB (Z.take k)) := ris_sortC totS _
      obtain ⟨O, hO⟩ : ∃ O, listB (Z.take k) = O := ⟨_, rfl⟩
      obtain ⟨x, hx⟩ : ∃ x, (Z[k]'hlt).val = x := ⟨_, rfl⟩
      rw [hx] at hrv htk
      rw [hO] at htk hol hown hris ⊢
      have Htk := Lib.hid htk
      clear hx hO htk
      obtain ⟨WR, rfl⟩ : ∃ WR, WR = wr := ⟨wr, rfl⟩
      have hsl : SlR WR A1 O.length 2 (O.map pairW) := hown.slr
      go_wp2_with fail
      go_loopw [6] (fun j wj => ∃ m : Nat, m ≤ O.length ∧ j = .int .i64 m ∧ Hid (∀ i (hi : i < O.length), i < m → cmpS O[i] x < 0) ∧ Below WR.heap.size WR wj) (fun j _ => O.length - (intOf j).toNat)
      case atStart => exact ⟨0, Nat.zero_le _, rfl, (show ∀ i (hi : i < O.length), i < 0 → _ from fun i _ h => absurd h (by omega)), Below.refl _ _⟩
      case round =>
        obtain ⟨m, hmO, rfl, hlow, hbj⟩ := hrel
        have hrj : wr.cell? ⟨q, o + k * 33 + 32, none⟩ = some (.string x) := (hbj.cell (p := ⟨q, o + k * 33 + 32, none⟩) (World.block_lt_of_cell? WR _ hrv)).trans hrv
        by_cases hmlt : m < O.length
        · obtain ⟨g2, og, rfl, hrO⟩ := OwnW.get (SlR.below hsl hbj) hmlt hmlt
          obtain rfl : og = 0 := by
            rcases hown.addr with e | ⟨g', e⟩
            · cases e
            · injection e with e; injection e
          rw [Nat.zero_add] at hrO
          have hmem : O[m] ∈ O := List.getElem_mem _
          obtain ⟨y, hy⟩ : ∃ y, O[m]'hmlt = y := ⟨_, rfl⟩
          rw [hy] at hrO hmem
          have Hy := Lib.hid hy
          have Hmem := Lib.hid hmem
          clear hy hmem
          cases hbl : bltS y x with
          | true =>
            have hbl' : Op.bytesLess y.toList x.toList = true := hbl
            have hyx : cmpS y x < 0 := by have := bltS_cmp y x; rw [hbl] at this; simpa using this.symm
            have Hyx := Lib.hid hyx
            clear hyx hbl
            go_upto_region 7 with fail
            refine wp_region_lex (Bel wr) false (by kernel_rfl) (by kernel_rfl) (by kernel_rfl) (bel_drew wr) ?_
            have hne := bel_some wr
            have hS := bel_drew wr
            have b1 := sub_cell hrj; have b2 := sub_cell hrO
            repeat (refine wpLx_loose ?_ ?_; (focus (simp only [chainOp]; done)); intro K hK; go_simp; refine hK _ ?_; clear hK K)
            refine wpLx_nil ?_
            intro hS
            clear b1 b2 hne hS hbl'
            go_wp2_with fail
            go_roundw
            case rel =>
              refine ⟨m + 1, by omega, by go_num, (show ∀ i (hi : i < O.length), i < m + 1 → cmpS O[i] x < 0 from fun i hi hlt => ?_), hbj.drew⟩
              by_cases e : i = m
              · subst e; rw [Hy.out]; exact Hyx.out
              · exact hlow.out i hi (by omega)
            case measure => simp [intOf]; omega
          | false =>
            have hbl' : Op.bytesLess y.toList x.toList = false := hbl
            have hyx : ¬ cmpS y x < 0 := by have := bltS_cmp y x; rw [hbl] at this; simpa using this.symm
            by_cases he : y = x
            · have hat := insC_old totS hris (x := x) (by rw [← he]; exact Hmem.out)
              have Hat := Lib.hid hat
              have h1 : (y.toList == x.toList) = true := by rw [he]; simp
              clear hat hyx he hbl
              go_upto_region 7 with fail
              refine wp_region_lex (Bel wr) false (by kernel_rfl) (by kernel_rfl) (by kernel_rfl) (bel_drew wr) ?_
              have hne := bel_some wr
              have hS := bel_drew wr
              have b1 := sub_cell hrj; have b2 := sub_cell hrO
              repeat (refine wpLx_loose ?_ ?_; (focus (simp only [chainOp]; done)); intro K hK; go_simp; refine hK _ ?_; clear hK K)
              refine wpLx_nil ?_
              intro hS
              clear b1 b2 hne hS hbl'
              go_upto_region 9 with fail
              refine wp_region_lex (Bel wr.drew) false (by kernel_rfl) (by kernel_rfl) (by kernel_rfl) (bel_drew wr.drew) ?_
              have hne := bel_some wr.drew
              have hS := bel_drew wr.drew
              have b1 := sub_cell (W := wr.drew) hrj; have b2 := sub_cell (W := wr.drew) hrO
              repeat (refine wpLx_loose ?_ ?_; (focus (simp only [chainOp]; done)); intro K hK; go_simp; refine hK _ ?_; clear hK K)
              refine wpLx_nil ?_
              intro hS
              clear b1 b2 hne hS h1
              have hbz := hbj.drew.drew
              have hown1 := hown.below hbz
              have hbb := hb.trans (hbz.mono hb.size)
              go_wp2_with fail
              go_roundw
              case rel => exact ⟨k + 1, _, cap1, by omega, by go_num, by rw [Htk.out, Hat.out], by rw [Htk.out, Hat.out]; exact hown1, hbb⟩
              case measure => simp [intOf]; omega
            · have hat := insC_at (c := cmpS) O x m hmO hlow.out (fun hk' => by
                rw [Hy.out]
                have h1 : cmpS y x ≠ 0 := fun e => he ((totS.zero _ _).1 e)
                omega)
              have Hat := Lib.hid hat
              have h1 : (y.toList == x.toList) = false := by rw [beq_eq_false_iff_ne]; exact fun e => he (toList_inj.1 e)
              clear hat hyx he hbl
              go_upto_region 7 with fail
              refine wp_region_lex (Bel wr) false (by kernel_rfl) (by kernel_rfl) (by kernel_rfl) (bel_drew wr) ?_
              have hne := bel_some wr
              have hS := bel_drew wr
              have b1 := sub_cell hrj; have b2 := sub_cell hrO
              repeat (refine wpLx_loose ?_ ?_; (focus (simp only [chainOp]; done)); intro K hK; go_simp; refine hK _ ?_; clear hK K)
              refine wpLx_nil ?_
              intro hS
              clear b1 b2 hne hS hbl'
              go_upto_region 9 with fail
              refine wp_region_lex (Bel wr.drew) false (by kernel_rfl) (by kernel_rfl) (by kernel_rfl) (bel_drew wr.drew) ?_
              have hne := bel_some wr.drew
              have hS := bel_drew wr.drew
              have b1 := sub_cell (W := wr.drew) hrj; have b2 := sub_cell (W := wr.drew) hrO
              repeat (refine wpLx_loose ?_ ?_; (focus (simp only [chainOp]; done)); intro K hK; go_simp; refine hK _ ?_; clear hK K)
              refine wpLx_nil ?_
              intro hS
              clear b1 b2 hne hS h1
              have hbz := hbj.drew.drew
              have hownw := hown.below hbz
              have hBw := hb.trans (hbz.mono hb.size)
              have hrw : wr.drew.drew.cell? ⟨q, o + k * 33 + 32, none⟩ = some (.string x) := hrj
              clear hrO hrj hbj hbz hsl hown
              obtain ⟨W, hW⟩ : ∃ W, wr.drew.drew = W := ⟨_, rfl⟩
              rw [hW] at hownw hBw hrw ⊢
              clear hW
              obtain ⟨A1, hA1⟩ : ∃ A1, (some ⟨g2, 0, none⟩ : Option Addr) = A1 := ⟨_, rfl⟩
              rw [hA1] at hownw ⊢
              clear hA1
              have hown0 := Own.empty W W.heap.size 42 2 (Nat.le_refl _)
              have hBW : Below W.heap.size W (W.alloc (.cells #[] 42)) := (Below.refl _ _).alloc (Nat.le_refl _) _
              have hcapO := hownw.cap_le
              have hlo : ∀ w0 : World, (slS 38 (.slice A1 O.length cap1) none (some (.int .i64 m)) none).run Try.prog w0 = .ok (.slice A1 m cap1) w0 := fun w0 => run_slS_lo einfoPair w0 A1 O.length cap1 m (by omega)
              obtain ⟨Ah, ch, hhi, hhs, hhf⟩ := hownw.hi (P := Try.prog) einfoPair (m := m) hmO
              have hslo : SlR (W.alloc (.cells #[] 42)) A1 m 2 ((O.map pairW).take m) := (hownw.below hBW).slr.take_ hmO
              have hf1 : A1 = none → cap1 = 0 := fun e => (hcapO.2 e).2
              have hrone : ∀ r ∈ (O.map pairW).take m, ∀ u ∈ r.toList, u.oneCell' = true := fun r hr => by obtain ⟨y', _, rfl⟩ := List.mem_map.1 (List.mem_of_mem_take hr); exact pairW_one _
              have hrone2 : ∀ r ∈ (O.map pairW).drop m, ∀ u ∈ r.toList, u.oneCell' = true := fun r hr => by obtain ⟨y', _, rfl⟩ := List.mem_map.1 (List.mem_of_mem_drop hr); exact pairW_one _
              go_upto_region 11 with (at_builtin; refine L_appends einfoPair rfl hown0 rfl hslo hf1 hrone (by omega) (by omega) (by simp) ?_; intro A2 cap2 w2 hown2 hk2 hsub2)
              simp only [Nat.zero_add, List.nil_append] at hown2
              have hwW : Below W.heap.size W w2 := hBW.trans (hk2.below (by simp) (by simp [blk]))
              have hrw2 : w2.cell? ⟨q, o + k * 33 + 32, none⟩ = some (.string x) := (hwW.cell (p := ⟨q, o + k * 33 + 32, none⟩) (World.block_lt_of_cell? W _ hrw)).trans hrw
              have hB3 : Below w2.heap.size w2 (w2.alloc (.cells (pairC ⟨x, ⟨#[]⟩⟩) 42)) := (Below.refl _ _).alloc (Nat.le_refl _) _
              have hown3 := hown2.below hB3
              have hrow3 : rowAt (w2.alloc (.cells (pairC ⟨x, ⟨#[]⟩⟩) 42)) w2.heap.size 0 2 = some (pairC ⟨x, ⟨#[]⟩⟩) := by simp [go_sem]
              have hsz2 := hwW.size
              go_upto_region 12 with (at_builtin; refine L_append einfoPair rfl hown3 rfl hrow3 (pairC_one _) (by omega) (by omega) (by simp; omega) ?_; intro A4 cap4 w4 hown4 hk4 hsub4)
              have hwW4 : Below W.heap.size W w4 := (hwW.trans (hB3.mono hsz2)).trans (hk4.below (by simp; omega) (fun x hx => (hown2.at_base hx).1))
              have hs4 := hhs w4 ((hownw.below hwW4).slr)
              have hsz4 := hwW4.size
              clear hown3 hrow3 hB3 hown0 hBW hslo hrw2 hlo hcapO
              go_upto_region 13 with (at_builtin; refine L_appends einfoPair rfl hown4 rfl hs4 hhf hrone2 (by omega) (by omega) (by omega) ?_; intro A5 cap5 w5 hown5 hk5 hsub5)
              have hwW5 : Below W.heap.size W w5 := hwW4.trans (hk5.below (by omega) (fun x hx => (hown4.at_base hx).1))
              have hBW5 := hBw.trans (hwW5.mono hBw.size)
              have hO5 : (O.map pairW).take m ++ [pairC ⟨x, ⟨#[]⟩⟩] ++ (O.map pairW).drop m = (listB (Z.take (k + 1))).map pairW := by rw [Htk.out, Hat.out]; simp [List.map_take, List.map_drop, pairW, pairV]
              have hL5 : (listB (Z.take (k + 1))).length = m + 1 + (O.length - m) := by rw [Htk.out, Hat.out]; simp; omega
              rw [hO5] at hown5
              have hown6 := hown5.mono hBw.size
              have HL := Lib.hid hL5
              clear hown5 hown4 hown2 hO5 hL5 hs4 hhi
              go_wp2_with fail
              go_roundw
              case rel => exact ⟨k + 1, A5, cap5, by omega, by go_num, (by rw [HL.out]), (show Own _ _ _ _ _ _ _ _ by rw [HL.out]; exact hown6), hBW5⟩
              case measure => simp [intOf]; omega
        · have hd : decide (m < O.length) = false := by simpa using hmlt
          have hat := insC_at (c := cmpS) O x m hmO hlow.out (fun hk' => absurd hk' hmlt)
          have Hat := Lib.hid hat
          clear hat
          go_upto_region 7 with fail
          refine wp_region_lex (Bel wr) false (by kernel_rfl) (by kernel_rfl) (by kernel_rfl) (bel_drew wr) ?_
          have hne := bel_some wr
          have hS := bel_drew wr
          repeat (refine wpLx_loose ?_ ?_; (focus (simp only [chainOp]; done)); intro K hK; go_simp; refine hK _ ?_; clear hK K)
          refine wpLx_nil ?_
          intro hS
          clear hne hS
          go_upto_region 9 with fail
          refine wp_region_lex (Bel wr.drew) false (by kernel_rfl) (by kernel_rfl) (by kernel_rfl) (bel_drew wr.drew) ?_
          have hne := bel_some wr.drew
          have hS := bel_drew wr.drew
          repeat (refine wpLx_loose ?_ ?_; (focus (simp only [chainOp]; done)); intro K hK; go_simp; refine hK _ ?_; clear hK K)
          refine wpLx_nil ?_
          intro hS
          clear hne hS hd
          have hbz := hbj.drew.drew
          have hownw := hown.below hbz
          have hBw := hb.trans (hbz.mono hb.size)
          have hrw : wr.drew.drew.cell? ⟨q, o + k * 33 + 32, none⟩ = some (.string x) := hrj
          clear hrj hbj hbz hsl hown hmlt
          obtain ⟨W, hW⟩ : ∃ W, wr.drew.drew = W := ⟨_, rfl⟩
          rw [hW] at hownw hBw hrw ⊢
          clear hW
          have hown0 := Own.empty W W.heap.size 42 2 (Nat.le_refl _)
          have hBW : Below W.heap.size W (W.alloc (.cells #[] 42)) := (Below.refl _ _).alloc (Nat.le_refl _) _
          have hcapO := hownw.cap_le
          have hlo : ∀ w0 : World, (slS 38 (.slice A1 O.length cap1) none (some (.int .i64 m)) none).run Try.prog w0 = .ok (.slice A1 m cap1) w0 := fun w0 => run_slS_lo einfoPair w0 A1 O.length cap1 m (by omega)
          obtain ⟨Ah, ch, hhi, hhs, hhf⟩ := hownw.hi (P := Try.prog) einfoPair (m := m) hmO
          have hslo : SlR (W.alloc (.cells #[] 42)) A1 m 2 ((O.map pairW).take m) := (hownw.below hBW).slr.take_ hmO
          have hf1 : A1 = none → cap1 = 0 := fun e => (hcapO.2 e).2
          have hrone : ∀ r ∈ (O.map pairW).take m, ∀ u ∈ r.toList, u.oneCell' = true := fun r hr => by obtain ⟨y', _, rfl⟩ := List.mem_map.1 (List.mem_of_mem_take hr); exact pairW_one _
          have hrone2 : ∀ r ∈ (O.map pairW).drop m, ∀ u ∈ r.toList, u.oneCell' = true := fun r hr => by obtain ⟨y', _, rfl⟩ := List.mem_map.1 (List.mem_of_mem_drop hr); exact pairW_one _
          go_upto_region 11 with (at_builtin; refine L_appends einfoPair rfl hown0 rfl hslo hf1 hrone (by omega) (by omega) (by simp) ?_; intro A2 cap2 w2 hown2 hk2 hsub2)
          simp only [Nat.zero_add, List.nil_append] at hown2
          have hwW : Below W.heap.size W w2 := hBW.trans (hk2.below (by simp) (by simp [blk]))
          have hrw2 : w2.cell? ⟨q, o + k * 33 + 32, none⟩ = some (.string x) := (hwW.cell (p := ⟨q, o + k * 33 + 32, none⟩) (World.block_lt_of_cell? W _ hrw)).trans hrw
          have hB3 : Below w2.heap.size w2 (w2.alloc (.cells (pairC ⟨x, ⟨#[]⟩⟩) 42)) := (Below.refl _ _).alloc (Nat.le_refl _) _
          have hown3 := hown2.below hB3
          have hrow3 : rowAt (w2.alloc (.cells (pairC ⟨x, ⟨#[]⟩⟩) 42)) w2.heap.size 0 2 = some (pairC ⟨x, ⟨#[]⟩⟩) := by simp [go_sem]
          have hsz2 := hwW.size
          go_upto_region 12 with (at_builtin; refine L_append einfoPair rfl hown3 rfl hrow3 (pairC_one _) (by omega) (by omega) (by simp; omega) ?_; intro A4 cap4 w4 hown4 hk4 hsub4)
          have hwW4 : Below W.heap.size W w4 := (hwW.trans (hB3.mono hsz2)).trans (hk4.below (by simp; omega) (fun x hx => (hown2.at_base hx).1))
          have hs4 := hhs w4 ((hownw.below hwW4).slr)
          have hsz4 := hwW4.size
          clear hown3 hrow3 hB3 hown0 hBW hslo hrw2 hlo hcapO
          go_upto_region 13 with (at_builtin; refine L_appends einfoPair rfl hown4 rfl hs4 hhf hrone2 (by omega) (by omega) (by omega) ?_; intro A5 cap5 w5 hown5 hk5 hsub5)
          have hwW5 : Below W.heap.size W w5 := hwW4.trans (hk5.below (by omega) (fun x hx => (hown4.at_base hx).1))
          have hBW5 := hBw.trans (hwW5.mono hBw.size)
          have hO5 : (O.map pairW).take m ++ [pairC ⟨x, ⟨#[]⟩⟩] ++ (O.map pairW).drop m = (listB (Z.take (k + 1))).map pairW := by rw [Htk.out, Hat.out]; simp [List.map_take, List.map_drop, pairW, pairV]
          have hL5 : (listB (Z.take (k + 1))).length = m + 1 + (O.length - m) := by rw [Htk.out, Hat.out]; simp; omega
          rw [hO5] at hown5
          have hown6 := hown5.mono hBw.size
          have HL := Lib.hid hL5
          clear hown5 hown4 hown2 hO5 hL5 hs4 hhi
          go_wp2_with fail
          go_roundw
          case rel => exact ⟨k + 1, A5, cap5, by omega, by go_num, (by rw [HL.out]), (show Own _ _ _ _ _ _ _ _ by rw [HL.out]; exact hown6), hBW5⟩
          case measure => simp [intOf]; omega
    · have hke : Z.take k = Z := List.take_of_length_le (by omega)
      rw [hke] at hown ⊢
      clear hke
      obtain ⟨F, hF⟩ : ∃ F, listB Z = F := ⟨_, rfl⟩
      rw [hF] at hown ⊢
      have HF := Lib.hid hF
      clear hF
      go_wp2_with fail
      go_ret
      exact ⟨A1, cap1, by rw [HF.out]; rfl, by rw [HF.out]; exact hown.mono hb1.size, bel2 hb1 hb⟩

theorem rlist (w : World) (g : Nat) (X G : List BRow) (h : RefAt w g X G) (hX : X.length ≤ 100000) (hG : G.length ≤ 100000) :
    Calls Try.prog 37 #[.pointer (some ⟨g, 0, none⟩)] w fun e w' => ∃ A cap, e = .returned (.slice A (listB (liveR X G)).length cap) ∧ OwnW w' w.heap.size A cap (listB (liveR X G)) ∧ Below w.heap.size w w' := rlist_in w g X G h.refIn hX hG

end Go.Proofs.Ytlonihfhgfmplaa
