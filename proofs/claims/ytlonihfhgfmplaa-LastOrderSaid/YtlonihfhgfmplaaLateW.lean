/- The reference Latest: the walk. -/
import Derived.Test.YtlonihfhgfmplaaLate
namespace Go.Proofs.Ytlonihfhgfmplaa
open Go.RowKit

theorem einfoRow : ElemInfo Try.prog 22 32 35 72 :=
  .of (z := .agg (rowC row0)) Try.underlying22 (by kernel_rfl) (by kernel_rfl) (by kernel_rfl) (rowC_size _) (by omega)
@[go_sem ↓] theorem bsRow_rw (n : Nat) (parts : Array (Nat × Value)) : Instr.buildSlice 22 n parts = bsS 22 n parts := rfl
@[go_sem] theorem bsRow_run (w : World) (x : Row) : (bsS 22 1 #[(0, .agg (rowC x))]).run Try.prog w = .ok (.slice (some ⟨w.heap.size, 0, none⟩) 1 1) (w.alloc (.cells (rowC x) 32)) :=
  run_bsS1 einfoRow (by omega) w (rowC x) (rowC_size x)

@[go_sem] theorem bsRow0_run (w : World) : (bsS 22 0 #[]).run Try.prog w = .ok (.slice (some ⟨w.heap.size, 0, none⟩) 0 0) (w.alloc (.cells #[] 32)) := run_bsS0 einfoRow w

abbrev OwnR (w : World) (B : Nat) (A : Option Addr) (cap : Nat) (R : List Row) : Prop := Own w B 32 35 A R.length cap (R.map rowC)

set_option maxRecDepth 100000 in
set_option maxHeartbeats 4000000 in
theorem rlatest (w : World) (A : Option Addr) (n cap : Nat) (R : List Row) (h : RowsIn w A n R) (hn : n ≤ 1000000) :
    Calls Try.prog 48 #[.slice A n cap] w fun e w' => ∃ A' cap', e = .returned (.slice A' (latestR R).length cap') ∧ OwnR w' w.heap.size A' cap' (latestR R) ∧ Below w.heap.size w w' := by
  have hlen := RowsIn.len h
  go_enter Try.func48, Try.ntmps48
  go_wp2_with fail
  go_loopw [3, 4] (fun out i wr => ∃ (k : Nat) (A1 : Option Addr) (cap1 : Nat), k ≤ n ∧ i = .int .i64 k ∧ out = .slice A1 (latestR (R.take k)).length cap1 ∧ OwnR wr w.heap.size A1 cap1 (latestR (R.take k)) ∧ Below w.heap.size w wr) (fun _ i _ => n - (intOf i).toNat)
  case atStart => exact ⟨0, none, 0, Nat.zero_le _, rfl, rfl, Own.nil _ _ _ _, Below.refl _ _⟩
  case round =>
    obtain ⟨k, A1, cap1, hk, rfl, rfl, hown, hb⟩ := hrel
    by_cases hlt : k < n
    · obtain ⟨q, o, rfl, hr, hkey, _, _, _⟩ := RowsIn.get (SlR.below h hb) hlt (by omega)
      have htk : latestR (R.take (k + 1)) = insR (latestR (R.take k)) R[k] := by
        rw [List.take_add_one, List.getElem?_eq_getElem (by omega), Option.toList_some, latestR_snoc]
      have hol : (latestR (R.take k)).length ≤ 1000000 := by have := latestR_length (R.take k); simp at this; omega
      obtain ⟨O, hO⟩ : ∃ O, latestR (R.take k) = O := ⟨_, rfl⟩
      obtain ⟨x, hx⟩ : ∃ x, R[k]'(by omega) = x := ⟨_, rfl⟩
      rw [hx] at hr hkey htk
      rw [hO] at htk hol hown ⊢
      have Htk := Lib.hid htk
      clear hx hO htk
      obtain ⟨WR, rfl⟩ : ∃ WR, WR = wr := ⟨wr, rfl⟩
      have hsl : RowsIn WR A1 O.length O := hown.slr
      go_wp2_with fail
      go_loopw [5] (fun j wj => ∃ m : Nat, m ≤ O.length ∧ j = .int .i64 m ∧ Hid (∀ i (hi : i < O.length), i < m → cmpS (O[i]).key x.key < 0) ∧ Below WR.heap.size WR wj) (fun j _ => O.length - (intOf j).toNat)
      case atStart => exact ⟨0, Nat.zero_le _, rfl, (show ∀ i (hi : i < O.length), i < 0 → _ from fun i _ h => absurd h (by omega)), Below.refl _ _⟩
      case round =>
        obtain ⟨m, hm, rfl, hlow, hbj⟩ := hrel
        have hkeyj := (hbj.cell (p := ⟨q, o + k * 35, none⟩) (World.block_lt_of_cell? WR _ hkey)).trans hkey
        by_cases hmlt : m < O.length
        · obtain ⟨g, og, rfl, hrO, hkO, _, _, _⟩ := RowsIn.get (SlR.below hsl hbj) hmlt (by omega)
          obtain rfl : og = 0 := by
            rcases hown.addr with e | ⟨g', e⟩
            · cases e
            · injection e with e; injection e
          rw [Nat.zero_add] at hrO hkO
          obtain ⟨y, hy⟩ : ∃ y, O[m]'hmlt = y := ⟨_, rfl⟩
          rw [hy] at hkO hrO
          have Hy := Lib.hid hy
          clear hy
          cases hbl : bltS y.key x.key with
          | true =>
            have hbl' : Op.bytesLess y.key.toList x.key.toList = true := hbl
            go_upto_region 6 with fail
            refine wp_region_lex (Bel wr) false (by kernel_rfl) (by kernel_rfl) (by kernel_rfl) (bel_drew wr) ?_
            have hne := bel_some wr
            have hS := bel_drew wr
            have b1 := sub_cell hkeyj; have b2 := sub_cell hkO
            repeat (refine wpLx_loose ?_ ?_; (focus (simp only [chainOp]; done)); intro K hK; go_simp; refine hK _ ?_; clear hK K)
            refine wpLx_nil ?_
            intro hS
            clear b1 b2 hne hS
            have hlt' : cmpS y.key x.key < 0 := by have := bltS_cmp y.key x.key; rw [hbl] at this; simpa using this.symm
            have Hlt := Lib.hid hlt'
            clear hlt' hbl hbl'
            go_wp2_with fail
            go_roundw
            case rel =>
              refine ⟨m + 1, by omega, by go_num, (show ∀ i (hi : i < O.length), i < m + 1 → cmpS (O[i]).key x.key < 0 from fun i hi hlt => ?_), hbj.drew⟩
              by_cases e : i = m
              · subst e; rw [Hy.out]; exact Hlt.out
              · exact hlow.out i hi (by omega)
            case measure => simp [intOf]; omega
          | false =>
            have hbl' : Op.bytesLess y.key.toList x.key.toList = false := hbl
            have hge : ¬ cmpS y.key x.key < 0 := by have := bltS_cmp y.key x.key; rw [hbl] at this; simpa using this.symm
            have Hge := Lib.hid hge
            go_upto_region 6 with fail
            refine wp_region_lex (Bel wr) false (by kernel_rfl) (by kernel_rfl) (by kernel_rfl) (bel_drew wr) ?_
            have hne := bel_some wr
            have hS := bel_drew wr
            have b1 := sub_cell hkeyj; have b2 := sub_cell hkO
            repeat (refine wpLx_loose ?_ ?_; (focus (simp only [chainOp]; done)); intro K hK; go_simp; refine hK _ ?_; clear hK K)
            refine wpLx_nil ?_
            intro hS
            clear b1 b2 hne hS hge hbl hbl'
            have hbj2 := hbj.drew
            have hat := insR_at O x m (by omega) hlow.out (fun hk' => by rw [Hy.out]; exact Hge.out)
            cases heq : (y.key.toList == x.key.toList) with
            | true =>
              go_upto_region 8 with fail
              refine wp_region_lex (Bel wr.drew) false (by kernel_rfl) (by kernel_rfl) (by kernel_rfl) (bel_drew wr.drew) ?_
              have hne := bel_some wr.drew
              have hS := bel_drew wr.drew
              have b1 := sub_cell (W := wr.drew) hkeyj; have b2 := sub_cell (W := wr.drew) hkO
              repeat (refine wpLx_loose ?_ ?_; (focus (simp only [chainOp]; done)); intro K hK; go_simp; refine hK _ ?_; clear hK K)
              refine wpLx_nil ?_
              intro hS
              clear b1 b2 hne hS
              have hrj : rowAt wr q (o + k * 35) 35 = some (rowC x) := (rowAt_of_block (hbj.block q (rowAt_lt hr)) _ _).trans hr
              have c9 := rlater x y wr.drew.drew.drew
              go_upto_region 9 with fail
              refine wp_region_lex (Bel wr.drew.drew) false (by kernel_rfl) (by kernel_rfl) (by kernel_rfl) (bel_drew wr.drew.drew) ?_
              have hne := bel_some wr.drew.drew
              have hS := bel_drew wr.drew.drew
              have b1 := sub_row (W := wr.drew.drew) hrj; have b2 := sub_row (W := wr.drew.drew) hrO
              repeat (refine wpLx_loose ?_ ?_; (focus (simp only [chainOp]; done)); intro K hK; go_simp; refine hK _ ?_; clear hK K)
              refine wpLx_chain ?_ ?_ ?_
              focus (exact hS)
              focus (simp only [chainOp]; done)
              intro K hK
              go_simp
              refine (c9).mono ?_
              rintro e w' ⟨rfl, hb⟩
              replace hS := bel_next hS hb
              refine ⟨_, rfl, hS, hK _ _ ?_⟩
              clear hK K hb
              repeat (refine wpLx_loose ?_ ?_; (focus (simp only [chainOp]; done)); intro K hK; go_simp; refine hK _ ?_; clear hK K)
              refine wpLx_nil ?_
              intro hS
              have hS' : Below wr.drew.drew.heap.size wr.drew.drew w' := hS
              have hbw' : Below WR.heap.size WR w' := hbj2.drew.trans (hS'.mono hbj2.size)
              have hk1 : (O[m]?).map (·.key) = some x.key := by
                rw [List.getElem?_eq_getElem hmlt, Hy.out]
                have := beq_iff_eq.1 heq
                simp [toList_inj.1 this]
              rw [dif_pos ⟨hmlt, hk1⟩] at hat
              simp only [Hy.out] at hat
              have Hat := Lib.hid hat
              clear hat b1 b2 hne hS c9 heq hk1
              have hownw := hown.below hbw'
              have hrw : rowAt w' q (o + k * 35) 35 = some (rowC x) := (rowAt_of_block (hbw'.block q (rowAt_lt hr)) _ _).trans hr
              have hBw := hb.trans (hbw'.mono hb.size)
              cases hlater : laterB x y with
              | true =>
                have hat2 := Hat.out
                rw [if_pos hlater] at hat2
                obtain ⟨w6, hst, hown6, hk6⟩ := own_store einfoRow hownw hmlt (rowC_size x) (rowC_one x)
                have hgw := (hown.at_base (x := g) (by simp [blk])).1
                have hBw6 : Below w.heap.size w w6 := hBw.trans (hk6.below hBw.size (by simpa using hgw))
                rw [← List.map_set, ← hat2] at hown6
                have hl6 : O.length = (insR O x).length := by rw [hat2, List.length_set]
                have Hl6 := Lib.hid hl6
                have Hat2 := Lib.hid hat2
                clear hat2 hl6
                go_wp2_with fail
                go_roundw
                case rel => exact ⟨k + 1, _, cap1, by omega, by go_num, (by rw [Htk.out, ← Hl6.out]), (by rw [Htk.out]; show Own _ _ _ _ _ _ _ _; rw [← Hl6.out]; exact hown6), hBw6⟩
                case measure => simp [intOf]; omega
              | false =>
                have hat2 := Hat.out
                rw [if_neg (by rw [hlater]; simp)] at hat2
                have Hat2 := Lib.hid hat2
                clear hat2
                go_wp2_with fail
                go_roundw
                case rel => exact ⟨k + 1, _, cap1, by omega, by go_num, (by rw [Htk.out, Hat2.out]), (by rw [Htk.out, Hat2.out]; exact hownw), hBw⟩
                case measure => simp [intOf]; omega
            | false =>
              go_upto_region 8 with fail
              refine wp_region_lex (Bel wr.drew) false (by kernel_rfl) (by kernel_rfl) (by kernel_rfl) (bel_drew wr.drew) ?_
              have hne := bel_some wr.drew
              have hS := bel_drew wr.drew
              have b1 := sub_cell (W := wr.drew) hkeyj; have b2 := sub_cell (W := wr.drew) hkO
              repeat (refine wpLx_loose ?_ ?_; (focus (simp only [chainOp]; done)); intro K hK; go_simp; refine hK _ ?_; clear hK K)
              refine wpLx_nil ?_
              intro hS
              clear b1 b2 hne hS
              have hk1 : ¬ (m < O.length ∧ (O[m]?).map (·.key) = some x.key) := by
                rintro ⟨_, hh⟩
                rw [List.getElem?_eq_getElem hmlt, Hy.out] at hh
                have e1 : y.key = x.key := by simpa using hh
                rw [e1] at heq; simp at heq
              rw [dif_neg hk1] at hat
              have Hat := Lib.hid hat
              have hbw' : Below WR.heap.size WR wr.drew.drew := hbj2.drew
              have hownw := hown.below hbw'
              have hrw : rowAt wr.drew.drew q (o + k * 35) 35 = some (rowC x) := (rowAt_of_block (hbw'.block q (rowAt_lt hr)) _ _).trans hr
              have hBw := hb.trans (hbw'.mono hb.size)
              clear hat hk1 heq hkO hrO hkeyj
              generalize wr.drew.drew = W at *
              have hcap := hownw.cap_le.1
              have hmc : m ≤ cap1 := by omega
              have hmc2 : ¬ m = cap1 := by omega
              have hsWf : ∀ w', Below W.heap.size W w' → SlR w' (some ⟨g, 0, none⟩) m 35 ((O.map rowC).take m) := fun w' hb => (hownw.below hb).slr.take_ (m := m) (by omega)
              have hs4f : ∀ w', Below W.heap.size W w' → SlR w' (some ⟨g, m * 35, none⟩) (O.length - m) 35 ((O.map rowC).drop m) := fun w' hb => by have := (hownw.below hb).slr.drop_ (m := m) (by omega); rwa [Nat.zero_add] at this
              have hf1 : (some ⟨g, 0, none⟩ : Option Addr) = none → cap1 = 0 := nofun
              have hf2 : (some ⟨g, m * 35, none⟩ : Option Addr) = none → cap1 - m = 0 := nofun
              have hown0 := Own.empty W W.heap.size 32 35 (Nat.le_refl _)
              have hBW : Below W.heap.size W (W.alloc (.cells #[] 32)) := (Below.refl _ _).alloc (Nat.le_refl _) _
              have hsW := hsWf _ hBW
              have hrone : ∀ r ∈ (O.map rowC).take m, ∀ u ∈ r.toList, u.oneCell' = true := fun r hr => by obtain ⟨y', _, rfl⟩ := List.mem_map.1 (List.mem_of_mem_take hr); exact rowC_one _
              have hrone2 : ∀ r ∈ (O.map rowC).drop m, ∀ u ∈ r.toList, u.oneCell' = true := fun r hr => by obtain ⟨y', _, rfl⟩ := List.mem_map.1 (List.mem_of_mem_drop hr); exact rowC_one _
              go_upto_region 12 with (at_builtin; refine L_appends einfoRow rfl hown0 rfl hsW hf1 hrone (by omega) (by omega) (by simp) ?_; intro A2 cap2 w2 hown2 hk2 hsub2)
              simp only [Nat.zero_add, List.nil_append] at hown2
              have hwW : Below W.heap.size W w2 := (hBW).trans (hk2.below (by simp) (by simp [blk]))
              have hrw2 : rowAt w2 q (o + k * 35) 35 = some (rowC x) := (rowAt_of_block (hwW.block q (rowAt_lt hrw)) _ _).trans hrw
              have hB3 : Below w2.heap.size w2 (w2.alloc (.cells (rowC x) 32)) := (Below.refl _ _).alloc (Nat.le_refl _) _
              have hown3 := hown2.below hB3
              have hrow3 : rowAt (w2.alloc (.cells (rowC x) 32)) w2.heap.size 0 35 = some (rowC x) := by simp [go_sem]
              have hsz2 := hwW.size
              go_upto_region 13 with (at_builtin; refine L_append einfoRow rfl hown3 rfl hrow3 (rowC_one _) (by omega) (by omega) (by simp; omega) ?_; intro A4 cap4 w4 hown4 hk4 hsub4)
              have hwW4 : Below W.heap.size W w4 := (hwW.trans (hB3.mono hsz2)).trans (hk4.below (by simp; omega) (fun x hx => (hown2.at_base hx).1))
              have hs4 := hs4f _ hwW4
              have hsz4 := hwW4.size
              clear hown3 hrow3 hB3 hown0 hBW hsW hrw2 hsWf hs4f
              go_upto_region 14 with (at_builtin; refine L_appends einfoRow rfl hown4 rfl hs4 hf2 hrone2 (by omega) (by omega) (by omega) ?_; intro A5 cap5 w5 hown5 hk5 hsub5)
              have hwW5 : Below W.heap.size W w5 := hwW4.trans (hk5.below (by omega) (fun x hx => (hown4.at_base hx).1))
              have hBW5 := hBw.trans (hwW5.mono hBw.size)
              have hO5 : (O.map rowC).take m ++ [rowC x] ++ (O.map rowC).drop m = (latestR (R.take (k + 1))).map rowC := by rw [Htk.out, Hat.out]; simp [List.map_take, List.map_drop]
              have hL5 : (latestR (R.take (k + 1))).length = m + 1 + (O.length - m) := by rw [Htk.out, Hat.out]; simp; omega
              rw [hO5] at hown5
              have hown6 := hown5.mono hBw.size
              have HL := Lib.hid hL5
              clear hown5 hown4 hown2 hO5 hL5 hs4
              go_wp2_with fail
              go_roundw
              case rel => exact ⟨k + 1, A5, cap5, by omega, by go_num, (by rw [HL.out]), (show Own _ _ _ _ _ _ _ _ by rw [HL.out]; exact hown6), hBW5⟩
              case measure => simp [intOf]; omega
        · have hmO : m = O.length := by omega
          have HmO := Lib.hid hmO
          have hat := insR_at O x m hm hlow.out (fun hk' => absurd hk' (by omega))
          rw [dif_neg (fun hh => absurd hh.1 (by omega))] at hat
          have Hat := Lib.hid hat
          have hd : decide (m < O.length) = false := by simpa using hmlt
          clear hat hmO hmlt hm
          go_upto_region 6 with fail
          refine wp_region_lex (Bel wr) false (by kernel_rfl) (by kernel_rfl) (by kernel_rfl) (bel_drew wr) ?_
          have hne := bel_some wr
          have hS := bel_drew wr
          repeat (refine wpLx_loose ?_ ?_; (focus (simp only [chainOp]; done)); intro K hK; go_simp; refine hK _ ?_; clear hK K)
          refine wpLx_nil ?_
          intro hS
          clear hne hS
          go_upto_region 8 with fail
          refine wp_region_lex (Bel wr.drew) false (by kernel_rfl) (by kernel_rfl) (by kernel_rfl) (bel_drew wr.drew) ?_
          have hne := bel_some wr.drew
          have hS := bel_drew wr.drew
          repeat (refine wpLx_loose ?_ ?_; (focus (simp only [chainOp]; done)); intro K hK; go_simp; refine hK _ ?_; clear hK K)
          refine wpLx_nil ?_
          intro hS
          clear hne hS
          have hbw' : Below WR.heap.size WR wr.drew.drew := hbj.drew.drew
          have hownw := hown.below hbw'
          have hrw : rowAt wr.drew.drew q (o + k * 35) 35 = some (rowC x) := (rowAt_of_block (hbw'.block q (rowAt_lt hr)) _ _).trans hr
          have hBw := hb.trans (hbw'.mono hb.size)
          clear hkeyj hd
          generalize wr.drew.drew = W at *
          have hcap := hownw.cap_le
          have hdrop : (O.map rowC).drop m = [] := List.drop_eq_nil_of_le (by simp [HmO.out])
          have hml : m ≤ 1000000 := by have := HmO.out; omega
          rcases hown.addr with rfl | ⟨g, rfl⟩
          · obtain ⟨hO0, rfl⟩ := hcap.2 rfl
            have hm0 : m = 0 := by have := HmO.out; omega
            subst hm0
            have hO : O = [] := List.eq_nil_of_length_eq_zero hO0
            have HO := Lib.hid hO
            have hsWf : ∀ w', Below W.heap.size W w' → SlR w' none 0 35 ((O.map rowC).take 0) := fun w' hb => by rw [HO.out]; exact SlR.nil_
            have hs4f : ∀ w', Below W.heap.size W w' → SlR w' none O.length 35 ((O.map rowC).drop 0) := fun w' hb => by rw [HO.out]; exact SlR.nil_
            have hf1 : (none : Option Addr) = none → 0 = 0 := fun _ => rfl
            have hf2 : (none : Option Addr) = none → 0 = 0 := fun _ => rfl
            clear hO0 hO hcap hml hdrop
            have hown0 := Own.empty W W.heap.size 32 35 (Nat.le_refl _)
            have hBW : Below W.heap.size W (W.alloc (.cells #[] 32)) := (Below.refl _ _).alloc (Nat.le_refl _) _
            have hsW := hsWf _ hBW
            have hrone : ∀ r ∈ (O.map rowC).take 0, ∀ u ∈ r.toList, u.oneCell' = true := fun r hr => by obtain ⟨y', _, rfl⟩ := List.mem_map.1 (List.mem_of_mem_take hr); exact rowC_one _
            have hrone2 : ∀ r ∈ (O.map rowC).drop 0, ∀ u ∈ r.toList, u.oneCell' = true := fun r hr => by obtain ⟨y', _, rfl⟩ := List.mem_map.1 (List.mem_of_mem_drop hr); exact rowC_one _
            go_upto_region 12 with (at_builtin; refine L_appends einfoRow rfl hown0 rfl hsW hf1 hrone (by omega) (by omega) (by simp) ?_; intro A2 cap2 w2 hown2 hk2 hsub2)
            simp only [Nat.zero_add, List.nil_append] at hown2
            have hwW : Below W.heap.size W w2 := (hBW).trans (hk2.below (by simp) (by simp [blk]))
            have hrw2 : rowAt w2 q (o + k * 35) 35 = some (rowC x) := (rowAt_of_block (hwW.block q (rowAt_lt hrw)) _ _).trans hrw
            have hB3 : Below w2.heap.size w2 (w2.alloc (.cells (rowC x) 32)) := (Below.refl _ _).alloc (Nat.le_refl _) _
            have hown3 := hown2.below hB3
            have hrow3 : rowAt (w2.alloc (.cells (rowC x) 32)) w2.heap.size 0 35 = some (rowC x) := by simp [go_sem]
            have hsz2 := hwW.size
            go_upto_region 13 with (at_builtin; refine L_append einfoRow rfl hown3 rfl hrow3 (rowC_one _) (by omega) (by omega) (by simp; omega) ?_; intro A4 cap4 w4 hown4 hk4 hsub4)
            have hwW4 : Below W.heap.size W w4 := (hwW.trans (hB3.mono hsz2)).trans (hk4.below (by simp; omega) (fun x hx => (hown2.at_base hx).1))
            have hs4 := hs4f _ hwW4
            have hsz4 := hwW4.size
            clear hown3 hrow3 hB3 hown0 hBW hsW hrw2 hsWf hs4f
            go_upto_region 14 with (at_builtin; refine L_appends einfoRow rfl hown4 rfl hs4 hf2 hrone2 (by omega) (by omega) (by omega) ?_; intro A5 cap5 w5 hown5 hk5 hsub5)
            have hwW5 : Below W.heap.size W w5 := hwW4.trans (hk5.below (by omega) (fun x hx => (hown4.at_base hx).1))
            have hBW5 := hBw.trans (hwW5.mono hBw.size)
            have hO5 : (O.map rowC).take 0 ++ [rowC x] ++ (O.map rowC).drop 0 = (latestR (R.take (k + 1))).map rowC := by rw [Htk.out, Hat.out]; simp [List.map_take, List.map_drop]
            have hL5 : (latestR (R.take (k + 1))).length = 0 + 1 + O.length := by rw [Htk.out, Hat.out]; simp; omega
            rw [hO5] at hown5
            have hown6 := hown5.mono hBw.size
            have HL := Lib.hid hL5
            clear hown5 hown4 hown2 hO5 hL5 hs4
            go_wp2_with fail
            go_roundw
            case rel => exact ⟨k + 1, A5, cap5, by omega, by go_num, (by rw [HL.out]), (show Own _ _ _ _ _ _ _ _ by rw [HL.out]; exact hown6), hBW5⟩
            case measure => simp [intOf]; omega
          · have hmc : m ≤ cap1 := by have := hcap.1; have := HmO.out; omega
            have hsWf : ∀ w', Below W.heap.size W w' → SlR w' (some ⟨g, 0, none⟩) m 35 ((O.map rowC).take m) := fun w' hb => (hownw.below hb).slr.take_ (m := m) (by have := HmO.out; omega)
            have hf1 : (some ⟨g, 0, none⟩ : Option Addr) = none → cap1 = 0 := nofun
            clear hcap
            have hmz : m ≤ O.length := by have := HmO.out; omega
            have hs4g : ∀ w' A', SlR w' A' (O.length - m) 35 ((O.map rowC).drop m) := fun w' A' => by rw [hdrop, HmO.out, Nat.sub_self]; exact ⟨rfl, fun h => absurd h (by omega)⟩
            clear hdrop
            by_cases hmc2 : m = cap1
            · have Hmc2 := Lib.hid hmc2
              obtain rfl : m = cap1 := hmc2
              have hs4f : ∀ w', Below W.heap.size W w' → SlR w' (some ⟨g, 0, none⟩) (O.length - m) 35 ((O.map rowC).drop m) := fun w' _ => hs4g w' _
              have hf2 : (some ⟨g, 0, none⟩ : Option Addr) = none → 0 = 0 := nofun
              clear hs4g
              have hown0 := Own.empty W W.heap.size 32 35 (Nat.le_refl _)
              have hBW : Below W.heap.size W (W.alloc (.cells #[] 32)) := (Below.refl _ _).alloc (Nat.le_refl _) _
              have hsW := hsWf _ hBW
              have hrone : ∀ r ∈ (O.map rowC).take m, ∀ u ∈ r.toList, u.oneCell' = true := fun r hr => by obtain ⟨y', _, rfl⟩ := List.mem_map.1 (List.mem_of_mem_take hr); exact rowC_one _
              have hrone2 : ∀ r ∈ (O.map rowC).drop m, ∀ u ∈ r.toList, u.oneCell' = true := fun r hr => by obtain ⟨y', _, rfl⟩ := List.mem_map.1 (List.mem_of_mem_drop hr); exact rowC_one _
              go_upto_region 12 with (at_builtin; refine L_appends einfoRow rfl hown0 rfl hsW hf1 hrone (by omega) (by omega) (by simp) ?_; intro A2 cap2 w2 hown2 hk2 hsub2)
              simp only [Nat.zero_add, List.nil_append] at hown2
              have hwW : Below W.heap.size W w2 := (hBW).trans (hk2.below (by simp) (by simp [blk]))
              have hrw2 : rowAt w2 q (o + k * 35) 35 = some (rowC x) := (rowAt_of_block (hwW.block q (rowAt_lt hrw)) _ _).trans hrw
              have hB3 : Below w2.heap.size w2 (w2.alloc (.cells (rowC x) 32)) := (Below.refl _ _).alloc (Nat.le_refl _) _
              have hown3 := hown2.below hB3
              have hrow3 : rowAt (w2.alloc (.cells (rowC x) 32)) w2.heap.size 0 35 = some (rowC x) := by simp [go_sem]
              have hsz2 := hwW.size
              go_upto_region 13 with (at_builtin; refine L_append einfoRow rfl hown3 rfl hrow3 (rowC_one _) (by omega) (by omega) (by simp; omega) ?_; intro A4 cap4 w4 hown4 hk4 hsub4)
              have hwW4 : Below W.heap.size W w4 := (hwW.trans (hB3.mono hsz2)).trans (hk4.below (by simp; omega) (fun x hx => (hown2.at_base hx).1))
              have hs4 := hs4f _ hwW4
              have hsz4 := hwW4.size
              clear hown3 hrow3 hB3 hown0 hBW hsW hrw2 hsWf hs4f
              go_upto_region 14 with (at_builtin; refine L_appends einfoRow rfl hown4 rfl hs4 hf2 hrone2 (by omega) (by omega) (by omega) ?_; intro A5 cap5 w5 hown5 hk5 hsub5)
              have hwW5 : Below W.heap.size W w5 := hwW4.trans (hk5.below (by omega) (fun x hx => (hown4.at_base hx).1))
              have hBW5 := hBw.trans (hwW5.mono hBw.size)
              have hO5 : (O.map rowC).take m ++ [rowC x] ++ (O.map rowC).drop m = (latestR (R.take (k + 1))).map rowC := by rw [Htk.out, Hat.out]; simp [List.map_take, List.map_drop]
              have hL5 : (latestR (R.take (k + 1))).length = m + 1 + (O.length - m) := by rw [Htk.out, Hat.out]; simp; omega
              rw [hO5] at hown5
              have hown6 := hown5.mono hBw.size
              have HL := Lib.hid hL5
              clear hown5 hown4 hown2 hO5 hL5 hs4
              go_wp2_with fail
              go_roundw
              case rel => exact ⟨k + 1, A5, cap5, by omega, by go_num, (by rw [HL.out]), (show Own _ _ _ _ _ _ _ _ by rw [HL.out]; exact hown6), hBW5⟩
              case measure => simp [intOf]; omega
            · have hs4f : ∀ w', Below W.heap.size W w' → SlR w' (some ⟨g, m * 35, none⟩) (O.length - m) 35 ((O.map rowC).drop m) := fun w' _ => hs4g w' _
              have hf2 : (some ⟨g, m * 35, none⟩ : Option Addr) = none → cap1 - m = 0 := nofun
              clear hs4g
              have hown0 := Own.empty W W.heap.size 32 35 (Nat.le_refl _)
              have hBW : Below W.heap.size W (W.alloc (.cells #[] 32)) := (Below.refl _ _).alloc (Nat.le_refl _) _
              have hsW := hsWf _ hBW
              have hrone : ∀ r ∈ (O.map rowC).take m, ∀ u ∈ r.toList, u.oneCell' = true := fun r hr => by obtain ⟨y', _, rfl⟩ := List.mem_map.1 (List.mem_of_mem_take hr); exact rowC_one _
              have hrone2 : ∀ r ∈ (O.map rowC).drop m, ∀ u ∈ r.toList, u.oneCell' = true := fun r hr => by obtain ⟨y', _, rfl⟩ := List.mem_map.1 (List.mem_of_mem_drop hr); exact rowC_one _
              go_upto_region 12 with (at_builtin; refine L_appends einfoRow rfl hown0 rfl hsW hf1 hrone (by omega) (by omega) (by simp) ?_; intro A2 cap2 w2 hown2 hk2 hsub2)
              simp only [Nat.zero_add, List.nil_append] at hown2
              have hwW : Below W.heap.size W w2 := (hBW).trans (hk2.below (by simp) (by simp [blk]))
              have hrw2 : rowAt w2 q (o + k * 35) 35 = some (rowC x) := (rowAt_of_block (hwW.block q (rowAt_lt hrw)) _ _).trans hrw
              have hB3 : Below w2.heap.size w2 (w2.alloc (.cells (rowC x) 32)) := (Below.refl _ _).alloc (Nat.le_refl _) _
              have hown3 := hown2.below hB3
              have hrow3 : rowAt (w2.alloc (.cells (rowC x) 32)) w2.heap.size 0 35 = some (rowC x) := by simp [go_sem]
              have hsz2 := hwW.size
              go_upto_region 13 with (at_builtin; refine L_append einfoRow rfl hown3 rfl hrow3 (rowC_one _) (by omega) (by omega) (by simp; omega) ?_; intro A4 cap4 w4 hown4 hk4 hsub4)
              have hwW4 : Below W.heap.size W w4 := (hwW.trans (hB3.mono hsz2)).trans (hk4.below (by simp; omega) (fun x hx => (hown2.at_base hx).1))
              have hs4 := hs4f _ hwW4
              have hsz4 := hwW4.size
              clear hown3 hrow3 hB3 hown0 hBW hsW hrw2 hsWf hs4f
              go_upto_region 14 with (at_builtin; refine L_appends einfoRow rfl hown4 rfl hs4 hf2 hrone2 (by omega) (by omega) (by omega) ?_; intro A5 cap5 w5 hown5 hk5 hsub5)
              have hwW5 : Below W.heap.size W w5 := hwW4.trans (hk5.below (by omega) (fun x hx => (hown4.at_base hx).1))
              have hBW5 := hBw.trans (hwW5.mono hBw.size)
              have hO5 : (O.map rowC).take m ++ [rowC x] ++ (O.map rowC).drop m = (latestR (R.take (k + 1))).map rowC := by rw [Htk.out, Hat.out]; simp [List.map_take, List.map_drop]
              have hL5 : (latestR (R.take (k + 1))).length = m + 1 + (O.length - m) := by rw [Htk.out, Hat.out]; simp; omega
              rw [hO5] at hown5
              have hown6 := hown5.mono hBw.size
              have HL := Lib.hid hL5
              clear hown5 hown4 hown2 hO5 hL5 hs4
              go_wp2_with fail
              go_roundw
              case rel => exact ⟨k + 1, A5, cap5, by omega, by go_num, (by rw [HL.out]), (show Own _ _ _ _ _ _ _ _ by rw [HL.out]; exact hown6), hBW5⟩
              case measure => simp [intOf]; omega
    · go_wp2_with fail
      go_ret
      have e : k = n := by omega
      have e2 : R.take k = R := List.take_of_length_le (by omega)
      refine ⟨A1, cap1, ?_, (by rw [e2] at hown; exact hown), hb⟩
      rw [e2]
      rfl

end Go.Proofs.Ytlonihfhgfmplaa
