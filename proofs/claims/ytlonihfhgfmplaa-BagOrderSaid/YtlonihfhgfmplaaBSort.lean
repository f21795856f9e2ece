/- The reference of bags: rows sorted, each once: the walk. -/
import Derived.Test.YtlonihfhgfmplaaBRef
namespace Go.Proofs.Ytlonihfhgfmplaa
open Go.RowKit

abbrev OwnR (w : World) (B : Nat) (A : Option Addr) (cap : Nat) (R : List BRow) : Prop := Own w B 130 33 A R.length cap (R.map bRowC)

set_option maxRecDepth 100000 in
set_option maxHeartbeats 4000000 in
theorem rsorted (w : World) (A : Option Addr) (n cap : Nat) (R : List BRow) (h : RowsIn w A n R) (hn : n ≤ 1000000) :
    Calls Try.prog 73 #[.slice A n cap] w fun e w' => ∃ A' cap', e = .returned (.slice A' (sortC cmpRow R).length cap') ∧ OwnR w' w.heap.size A' cap' (sortC cmpRow R) ∧ Below w.heap.size w w' := by
  have hlen := h.len
  go_enter Try.func73, Try.ntmps73
  go_wp2_with fail
  go_loopw [3, 4] (fun out i wr => ∃ (k : Nat) (A1 : Option Addr) (cap1 : Nat), k ≤ n ∧ i = .int .i64 k ∧ out = .slice A1 (sortC cmpRow (R.take k)).length cap1 ∧ OwnR wr w.heap.size A1 cap1 (sortC cmpRow (R.take k)) ∧ Below w.heap.size w wr) (fun _ i _ => n - (intOf i).toNat)
  case atStart => exact ⟨0, none, 0, Nat.zero_le _, rfl, rfl, Own.nil _ _ _ _, Below.refl _ _⟩
  case round =>
    obtain ⟨k, A1, cap1, hk, rfl, rfl, hown, hb⟩ := hrel
    by_cases hlt : k < n
    · obtain ⟨q, o, rfl, hr, _, _⟩ := RowsIn.get (SlR.below h hb) hlt (by omega)
      have htk : sortC cmpRow (R.take (k + 1)) = insC cmpRow (sortC cmpRow (R.take k)) R[k] := by
        rw [List.take_add_one, List.getElem?_eq_getElem (by omega), Option.toList_some, sortC_snoc]
      have hol : (sortC cmpRow (R.take k)).length ≤ 1000000 := by have := sortC_length (c := cmpRow) (R.take k); simp at this; omega
      have hris := ris_sortC totRow (R.take k)
      obtain ⟨O, hO⟩ : ∃ O, sortC cmpRow (R.take k) = O := ⟨_, rfl⟩
      obtain ⟨x, hx⟩ : ∃ x, R[k]'(by omega) = x := ⟨_, rfl⟩
      rw [hx] at hr htk
      rw [hO] at htk hol hown hris ⊢
      have Htk := Lib.hid htk
      clear hx hO htk
      obtain ⟨WR, rfl⟩ : ∃ WR, WR = wr := ⟨wr, rfl⟩
      have hsl : RowsIn WR A1 O.length O := hown.slr
      have c1 := rin WR A1 O.length cap1 O x hsl (by omega)
      by_cases hin : x ∈ O
      · rw [decide_eq_true hin] at c1
        have hat := insC_old totRow hris hin
        have Hat := Lib.hid hat
        clear hat hin
        go_wp2_with fail
        refine c1.mono ?_; rintro e w1 ⟨rfl, hb1⟩
        have hown1 := hown.below hb1
        have hbb := hb.trans (hb1.mono hb.size)
        clear c1
        go_wp2_with fail
        go_roundw
        case rel => exact ⟨k + 1, A1, cap1, by omega, by go_num, by rw [Htk.out, Hat.out], by rw [Htk.out, Hat.out]; exact hown1, hbb⟩
        case measure => simp [intOf]; omega
      · rw [decide_eq_false hin] at c1
        have Hin := Lib.hid hin
        clear hin
        go_wp2_with fail
        refine c1.mono ?_; rintro e w1 ⟨rfl, hb1⟩
        have hown1 := hown.below hb1
        have hbb := hb.trans (hb1.mono hb.size)
        have hr1 : rowAt w1 q (o + k * 33) 33 = some (bRowC x) := (rowAt_of_block (hb1.block q (rowAt_lt hr)) _ _).trans hr
        have hsl1 : RowsIn w1 A1 O.length O := hown1.slr
        clear c1 hr hown hb hb1 hsl
        go_wp2_with fail
        go_loopw [5] (fun j wj => ∃ m : Nat, m ≤ O.length ∧ j = .int .i64 m ∧ Hid (∀ i (hi : i < O.length), i < m → cmpRow O[i] x < 0) ∧ Below w1.heap.size w1 wj) (fun j _ => O.length - (intOf j).toNat)
        case atStart => exact ⟨0, Nat.zero_le _, rfl, (show ∀ i (hi : i < O.length), i < 0 → _ from fun i _ h => absurd h (by omega)), Below.refl _ _⟩
        case round =>
          obtain ⟨m, hmO, rfl, hlow, hbj⟩ := hrel
          have hrj : rowAt wr q (o + k * 33) 33 = some (bRowC x) := (rowAt_of_block (hbj.block q (rowAt_lt hr1)) _ _).trans hr1
          by_cases hmlt : m < O.length
          · obtain ⟨g, og, rfl, hrO, _, _⟩ := RowsIn.get (SlR.below hsl1 hbj) hmlt (by omega)
            obtain rfl : og = 0 := by
              rcases hown1.addr with e | ⟨g', e⟩
              · cases e
              · injection e with e; injection e
            rw [Nat.zero_add] at hrO
            have hmem : O[m] ∈ O := List.getElem_mem _
            obtain ⟨y, hy⟩ : ∃ y, O[m]'hmlt = y := ⟨_, rfl⟩
            rw [hy] at hrO hmem
            have Hy := Lib.hid hy
            have Hmem := Lib.hid hmem
            clear hy hmem
            have c2 := rless y x wr.drew
            by_cases hyx : cmpRow y x < 0
            · rw [decide_eq_true hyx] at c2
              have Hyx := Lib.hid hyx
              clear hyx
              go_upto_region 7 with fail
              refine wp_region_lex (Bel wr) false (by kernel_rfl) (by kernel_rfl) (by kernel_rfl) (bel_drew wr) ?_
              have hne := bel_some wr
              have hS := bel_drew wr
              have b1 := sub_row hrj; have b2 := sub_row hrO
              repeat (refine wpLx_loose ?_ ?_; (focus (simp only [chainOp]; done)); intro K hK; go_simp; refine hK _ ?_; clear hK K)
              refine wpLx_chain ?_ ?_ ?_
              focus (exact hS)
              focus (simp only [chainOp]; done)
              intro K hK
              go_simp
              refine (c2).mono ?_
              rintro e w' ⟨rfl, hb⟩
              replace hS := bel_next hS hb
              refine ⟨_, rfl, hS, hK _ _ ?_⟩
              clear hK K hb
              repeat (refine wpLx_loose ?_ ?_; (focus (simp only [chainOp]; done)); intro K hK; go_simp; refine hK _ ?_; clear hK K)
              refine wpLx_nil ?_
              intro hS
              have hS' : Below wr.heap.size wr w' := hS
              have hbz := bel2 hbj hS'
              clear b1 b2 hne hS c2
              go_wp2_with fail
              go_roundw
              case rel =>
                refine ⟨m + 1, by omega, by go_num, (show ∀ i (hi : i < O.length), i < m + 1 → cmpRow O[i] x < 0 from fun i hi hlt => ?_), hbz⟩
                by_cases e : i = m
                · subst e; rw [Hy.out]; exact Hyx.out
                · exact hlow.out i hi (by omega)
              case measure => simp [intOf]; omega
            · rw [decide_eq_false hyx] at c2
              have hat := insC_at (c := cmpRow) O x m hmO hlow.out (fun hk' => by
                rw [Hy.out]
                have h1 : cmpRow y x ≠ 0 := fun e => Hin.out (by rw [← (totRow.zero _ _).1 e]; exact Hmem.out)
                omega)
              have Hat := Lib.hid hat
              clear hyx hat
              go_upto_region 7 with fail
              refine wp_region_lex (Bel wr) false (by kernel_rfl) (by kernel_rfl) (by kernel_rfl) (bel_drew wr) ?_
              have hne := bel_some wr
              have hS := bel_drew wr
              have b1 := sub_row hrj; have b2 := sub_row hrO
              repeat (refine wpLx_loose ?_ ?_; (focus (simp only [chainOp]; done)); intro K hK; go_simp; refine hK _ ?_; clear hK K)
              refine wpLx_chain ?_ ?_ ?_
              focus (exact hS)
              focus (simp only [chainOp]; done)
              intro K hK
              go_simp
              refine (c2).mono ?_
              rintro e w' ⟨rfl, hb⟩
              replace hS := bel_next hS hb
              refine ⟨_, rfl, hS, hK _ _ ?_⟩
              clear hK K hb
              repeat (refine wpLx_loose ?_ ?_; (focus (simp only [chainOp]; done)); intro K hK; go_simp; refine hK _ ?_; clear hK K)
              refine wpLx_nil ?_
              intro hS
              have hS' : Below wr.heap.size wr w' := hS
              have hbz := bel2 hbj hS'
              have hBw := hbb.trans (hbz.mono hbb.size)
              have hownw := hown1.below hbz
              have hrw : rowAt w' q (o + k * 33) 33 = some (bRowC x) := (rowAt_of_block (hbz.block q (rowAt_lt hr1)) _ _).trans hr1
              clear b1 b2 hne hS c2 hS' hbz hrO hrj hbj
              obtain ⟨W, rfl⟩ : ∃ W, W = w' := ⟨w', rfl⟩
              obtain ⟨A1, hA1⟩ : ∃ A1, (some ⟨g, 0, none⟩ : Option Addr) = A1 := ⟨_, rfl⟩
              rw [hA1] at hownw ⊢
              clear hA1
              have hown0 := Own.empty W W.heap.size 130 33 (Nat.le_refl _)
              have hBW : Below W.heap.size W (W.alloc (.cells #[] 130)) := (Below.refl _ _).alloc (Nat.le_refl _) _
              have hcapO := hownw.cap_le
              have hlo : ∀ w0 : World, (slS 72 (.slice A1 O.length cap1) none (some (.int .i64 m)) none).run Try.prog w0 = .ok (.slice A1 m cap1) w0 := fun w0 => run_slS_lo einfoRRow w0 A1 O.length cap1 m (by omega)
              obtain ⟨Ah, ch, hhi, hhs, hhf⟩ := hownw.hi (P := Try.prog) einfoRRow (m := m) hmO
              have hslo : SlR (W.alloc (.cells #[] 130)) A1 m 33 ((O.map bRowC).take m) := (hownw.below hBW).slr.take_ hmO
              have hf1 : A1 = none → cap1 = 0 := fun e => (hcapO.2 e).2
              have hrone : ∀ r ∈ (O.map bRowC).take m, ∀ u ∈ r.toList, u.oneCell' = true := fun r hr => by obtain ⟨y', _, rfl⟩ := List.mem_map.1 (List.mem_of_mem_take hr); exact bRowC_one _
              have hrone2 : ∀ r ∈ (O.map bRowC).drop m, ∀ u ∈ r.toList, u.oneCell' = true := fun r hr => by obtain ⟨y', _, rfl⟩ := List.mem_map.1 (List.mem_of_mem_drop hr); exact bRowC_one _
              go_upto_region 10 with (at_builtin; refine L_appends einfoRRow rfl hown0 rfl hslo hf1 hrone (by omega) (by omega) (by simp) ?_; intro A2 cap2 w2 hown2 hk2 hsub2)
              simp only [Nat.zero_add, List.nil_append] at hown2
              have hwW : Below W.heap.size W w2 := hBW.trans (hk2.below (by simp) (by simp [blk]))
              have hrw2 : rowAt w2 q (o + k * 33) 33 = some (bRowC x) := (rowAt_of_block (hwW.block q (rowAt_lt hrw)) _ _).trans hrw
              have hB3 : Below w2.heap.size w2 (w2.alloc (.cells (bRowC x) 130)) := (Below.refl _ _).alloc (Nat.le_refl _) _
              have hown3 := hown2.below hB3
              have hrow3 : rowAt (w2.alloc (.cells (bRowC x) 130)) w2.heap.size 0 33 = some (bRowC x) := by simp [go_sem]
              have hsz2 := hwW.size
              go_upto_region 11 with (at_builtin; refine L_append einfoRRow rfl hown3 rfl hrow3 (bRowC_one _) (by omega) (by omega) (by simp; omega) ?_; intro A4 cap4 w4 hown4 hk4 hsub4)
              have hwW4 : Below W.heap.size W w4 := (hwW.trans (hB3.mono hsz2)).trans (hk4.below (by simp; omega) (fun x hx => (hown2.at_base hx).1))
              have hs4 := hhs w4 ((hownw.below hwW4).slr)
              have hsz4 := hwW4.size
              clear hown3 hrow3 hB3 hown0 hBW hslo hrw2 hlo hcapO
              go_upto_region 12 with (at_builtin; refine L_appends einfoRRow rfl hown4 rfl hs4 hhf hrone2 (by omega) (by omega) (by omega) ?_; intro A5 cap5 w5 hown5 hk5 hsub5)
              have hwW5 : Below W.heap.size W w5 := hwW4.trans (hk5.below (by omega) (fun x hx => (hown4.at_base hx).1))
              have hBW5 := hBw.trans (hwW5.mono hBw.size)
              have hO5 : (O.map bRowC).take m ++ [bRowC x] ++ (O.map bRowC).drop m = (sortC cmpRow (R.take (k + 1))).map bRowC := by rw [Htk.out, Hat.out]; simp [List.map_take, List.map_drop]
              have hL5 : (sortC cmpRow (R.take (k + 1))).length = m + 1 + (O.length - m) := by rw [Htk.out, Hat.out]; simp; omega
              rw [hO5] at hown5
              have hown6 := hown5.mono hBw.size
              have HL := Lib.hid hL5
              clear hown5 hown4 hown2 hO5 hL5 hs4 hhi
              go_wp2_with fail
              go_roundw
              case rel => exact ⟨k + 1, A5, cap5, by omega, by go_num, (by rw [HL.out]), (show Own _ _ _ _ _ _ _ _ by rw [HL.out]; exact hown6), hBW5⟩
              case measure => simp [intOf]; omega
          · have hd : decide (m < O.length) = false := by simpa using hmlt
            have hat := insC_at (c := cmpRow) O x m hmO hlow.out (fun hk' => absurd hk' hmlt)
            have Hat := Lib.hid hat
            clear hat
            go_upto_region 7 with fail
            refine wp_region_lex (Bel wr) false (by kernel_rfl) (by kernel_rfl) (by kernel_rfl) (bel_drew wr) ?_
            have hne := bel_some wr
            have hS := bel_drew wr
            repeat (refine wpLx_loose ?_ ?_; (focus (simp only [chainOp]; done)); intro K hK; go_simp; refine hK _ ?_; clear hK K)
            refine wpLx_chain ?_ ?_ ?_
            focus (exact hS)
            focus (simp only [chainOp]; done)
            intro K hK
            go_simp
            refine hK _ _ ?_
            clear hK K
            repeat (refine wpLx_loose ?_ ?_; (focus (simp only [chainOp]; done)); intro K hK; go_simp; refine hK _ ?_; clear hK K)
            refine wpLx_nil ?_
            intro hS
            have hbz := hbj.drew
            have hBw := hbb.trans (hbz.mono hbb.size)
            have hownw := hown1.below hbz
            have hrw : rowAt wr.drew q (o + k * 33) 33 = some (bRowC x) := hrj
            clear hne hS hbz hrj hbj hmlt hd
            obtain ⟨W, hW⟩ : ∃ W, wr.drew = W := ⟨_, rfl⟩
            rw [hW] at hownw hBw hrw ⊢
            clear hW
            have hown0 := Own.empty W W.heap.size 130 33 (Nat.le_refl _)
            have hBW : Below W.heap.size W (W.alloc (.cells #[] 130)) := (Below.refl _ _).alloc (Nat.le_refl _) _
            have hcapO := hownw.cap_le
            have hlo : ∀ w0 : World, (slS 72 (.slice A1 O.length cap1) none (some (.int .i64 m)) none).run Try.prog w0 = .ok (.slice A1 m cap1) w0 := fun w0 => run_slS_lo einfoRRow w0 A1 O.length cap1 m (by omega)
            obtain ⟨Ah, ch, hhi, hhs, hhf⟩ := hownw.hi (P := Try.prog) einfoRRow (m := m) hmO
            have hslo : SlR (W.alloc (.cells #[] 130)) A1 m 33 ((O.map bRowC).take m) := (hownw.below hBW).slr.take_ hmO
            have hf1 : A1 = none → cap1 = 0 := fun e => (hcapO.2 e).2
            have hrone : ∀ r ∈ (O.map bRowC).take m, ∀ u ∈ r.toList, u.oneCell' = true := fun r hr => by obtain ⟨y', _, rfl⟩ := List.mem_map.1 (List.mem_of_mem_take hr); exact bRowC_one _
            have hrone2 : ∀ r ∈ (O.map bRowC).drop m, ∀ u ∈ r.toList, u.oneCell' = true := fun r hr => by obtain ⟨y', _, rfl⟩ := List.mem_map.1 (List.mem_of_mem_drop hr); exact bRowC_one _
            go_upto_region 10 with (at_builtin; refine L_appends einfoRRow rfl hown0 rfl hslo hf1 hrone (by omega) (by omega) (by simp) ?_; intro A2 cap2 w2 hown2 hk2 hsub2)
            simp only [Nat.zero_add, List.nil_append] at hown2
            have hwW : Below W.heap.size W w2 := hBW.trans (hk2.below (by simp) (by simp [blk]))
            have hrw2 : rowAt w2 q (o + k * 33) 33 = some (bRowC x) := (rowAt_of_block (hwW.block q (rowAt_lt hrw)) _ _).trans hrw
            have hB3 : Below w2.heap.size w2 (w2.alloc (.cells (bRowC x) 130)) := (Below.refl _ _).alloc (Nat.le_refl _) _
            have hown3 := hown2.below hB3
            have hrow3 : rowAt (w2.alloc (.cells (bRowC x) 130)) w2.heap.size 0 33 = some (bRowC x) := by simp [go_sem]
            have hsz2 := hwW.size
            go_upto_region 11 with (at_builtin; refine L_append einfoRRow rfl hown3 rfl hrow3 (bRowC_one _) (by omega) (by omega) (by simp; omega) ?_; intro A4 cap4 w4 hown4 hk4 hsub4)
            have hwW4 : Below W.heap.size W w4 := (hwW.trans (hB3.mono hsz2)).trans (hk4.below (by simp; omega) (fun x hx => (hown2.at_base hx).1))
            have hs4 := hhs w4 ((hownw.below hwW4).slr)
            have hsz4 := hwW4.size
            clear hown3 hrow3 hB3 hown0 hBW hslo hrw2 hlo hcapO
            go_upto_region 12 with (at_builtin; refine L_appends einfoRRow rfl hown4 rfl hs4 hhf hrone2 (by omega) (by omega) (by omega) ?_; intro A5 cap5 w5 hown5 hk5 hsub5)
            have hwW5 : Below W.heap.size W w5 := hwW4.trans (hk5.below (by omega) (fun x hx => (hown4.at_base hx).1))
            have hBW5 := hBw.trans (hwW5.mono hBw.size)
            have hO5 : (O.map bRowC).take m ++ [bRowC x] ++ (O.map bRowC).drop m = (sortC cmpRow (R.take (k + 1))).map bRowC := by rw [Htk.out, Hat.out]; simp [List.map_take, List.map_drop]
            have hL5 : (sortC cmpRow (R.take (k + 1))).length = m + 1 + (O.length - m) := by rw [Htk.out, Hat.out]; simp; omega
            rw [hO5] at hown5
            have hown6 := hown5.mono hBw.size
            have HL := Lib.hid hL5
            clear hown5 hown4 hown2 hO5 hL5 hs4 hhi
            go_wp2_with fail
            go_roundw
            case rel => exact ⟨k + 1, A5, cap5, by omega, by go_num, (by rw [HL.out]), (show Own _ _ _ _ _ _ _ _ by rw [HL.out]; exact hown6), hBW5⟩
            case measure => simp [intOf]; omega
    · go_wp2_with fail
      go_ret
      have e : k = n := by omega
      have e2 : R.take k = R := List.take_of_length_le (by omega)
      refine ⟨A1, cap1, ?_, (by rw [e2] at hown; exact hown), hb⟩
      rw [e2]
      rfl

end Go.Proofs.Ytlonihfhgfmplaa
