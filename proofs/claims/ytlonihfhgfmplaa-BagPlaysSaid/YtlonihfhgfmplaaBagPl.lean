/- BagPlays: the walk. -/
import Derived.Test.YtlonihfhgfmplaaBRPut
import Derived.Test.YtlonihfhgfmplaaBPairs
import Derived.Test.YtlonihfhgfmplaaBSame
namespace Go.Proofs.Ytlonihfhgfmplaa
open Go.RowKit

theorem run_live (l : List Act) : (runS ([], []) l).1 = liveR (addsOf l) (gonesOf l) ∧ (runS ([], []) l).2 = sortC cmpRow (gonesOf l) := by
  have T := run_tells l
  refine ⟨ris_ext totRow T.risL ((ris_sortC totRow _).filter _) fun z => ?_, ris_ext totRow T.risG (ris_sortC totRow _) fun z => ?_⟩
  · rw [T.live]
    unfold liveR
    rw [List.mem_filter, mem_sortC totRow, decide_eq_true_eq]
  · rw [T.gone, mem_sortC totRow]
theorem addsOf_snoc (l : List Act) (a : Act) : addsOf (l ++ [a]) = addsOf l ++ addsOf [a] := by simp [addsOf]
theorem gonesOf_snoc (l : List Act) (a : Act) : gonesOf (l ++ [a]) = gonesOf l ++ gonesOf [a] := by simp [gonesOf]
theorem addsOf_small (l : List Act) : ∀ x ∈ addsOf l, small x := by
  intro x hx
  unfold addsOf at hx
  obtain ⟨a, _, hx⟩ := List.mem_flatMap.1 hx
  split at hx
  · split at hx
    · simp at hx
    · simp at hx; subst hx; unfold small; simp only; omega
  · simp at hx
theorem gonesOf_small (l : List Act) : ∀ x ∈ gonesOf l, small x := by
  intro x hx
  unfold gonesOf at hx
  obtain ⟨a, _, hx⟩ := List.mem_flatMap.1 hx
  split at hx
  · simp at hx
  · split at hx
    · simp at hx
    · obtain ⟨t, _, rfl⟩ := List.mem_map.1 hx; unfold small; simp only; omega
theorem build_ref (w : World) : (Instr.build 74 #[]).run Try.prog w = .ok (.agg #[.slice none 0 0, .slice none 0 0]) w := by kernel_rfl

set_option maxRecDepth 100000 in
set_option maxHeartbeats 4000000 in
theorem bagPlays_any (w : World) (A : Option Addr) (n cap : Nat) (R : List Act) (v : ByteArray) (h : ActsOk w A n R) :
    Calls Try.prog 9 #[.slice A n cap, .string v] w fun e w' => e = .returned (.bool true) ∧ Below w.heap.size w w' := by
  have hlen := h.rows.len
  have hbig := h.big
  have hbr := build_ref
  go_enter Try.func9, Try.ntmps9
  go_wp2_with fail
  refine (bmuch w A n cap R h).mono ?_; rintro e w1 ⟨b, rfl, hfew, hb1⟩
  cases b with
  | true =>
    clear hfew
    go_wp2_with fail
    refine (awake_any _).mono ?_; rintro e w2 ⟨rfl, hb2⟩
    go_wp2_with fail
    go_ret
    exact ⟨rfl, bel2 hb1 hb2⟩
  | false =>
    have hf := hfew rfl
    clear hfew
    go_wp2_with fail
    refine (bnew _).mono ?_; rintro e w2 ⟨g, bl, bg, rfl, h2, hg, hl, hbg, hb2⟩
    have hsz1 := hb1.size
    have hlt2 := h2.lt
    have hb3 : Below w.heap.size w (w2.alloc (.cells #[.slice none 0 0, .slice none 0 0] 74)) := (bel2 hb1 hb2).alloc (by have := hb2.size; omega) _
    have hB3 := h2.below ((Below.refl _ _).alloc (Nat.le_refl _) (.cells #[.slice none 0 0, .slice none 0 0] 74))
    have hR3 : RefAt (w2.alloc (.cells #[.slice none 0 0, .slice none 0 0] 74)) w2.heap.size [] [] := ⟨none, 0, 0, none, 0, 0, heap_alloc_new w2 _, SlR.nil_, SlR.nil_, fun _ => rfl, fun _ => rfl, by simp [blk], by simp [blk]⟩
    clear hb1 hb2 h2
    have hfl := hf.1
    have Hlen := Lib.hid hlen
    have Hf := Lib.hid hf
    clear hf hlen
    go_wp2_with fail
    generalize w2.alloc (.cells #[.slice none 0 0, .slice none 0 0] 74) = w3 at *
    obtain ⟨gx, hgx⟩ : ∃ gx, w2.heap.size = gx := ⟨_, rfl⟩
    rw [hgx] at hR3 hlt2 ⊢
    clear hgx hbr
    go_loopw [7] (fun i wr => ∃ k : Nat, k ≤ n ∧ i = .int .i64 k ∧ BagAt wr g bl bg (runS ([], []) (R.take k)).1 (runS ([], []) (R.take k)).2 ∧ RefAt wr gx (addsOf (R.take k)) (gonesOf (R.take k)) ∧ Below w.heap.size w wr) (fun i _ => n - (intOf i).toNat)
    case atStart => exact ⟨0, Nat.zero_le _, rfl, hB3, hR3, hb3⟩
    case round =>
      obtain ⟨k, hk, rfl, hB, hR, hbr⟩ := hrel
      by_cases hlt : k < n
      · obtain ⟨q, o, rfl, hr, _, _, hval, _⟩ := ActsIn.get (SlR.below h.rows hbr) hlt (by rw [Hlen.out]; exact hlt)
        have heach := h.each (R[k]'(by rw [Hlen.out]; exact hlt)) (List.getElem_mem _)
        have hfew := Hf.out.2 (R[k]'(by rw [Hlen.out]; exact hlt)) (List.getElem_mem _)
        have htk : R.take (k + 1) = R.take k ++ [R[k]'(by rw [Hlen.out]; exact hlt)] := by rw [List.take_add_one, List.getElem?_eq_getElem (by rw [Hlen.out]; exact hlt)]; rfl
        obtain ⟨a, ha⟩ : ∃ a, R[k]'(by rw [Hlen.out]; exact hlt) = a := ⟨_, rfl⟩
        rw [ha] at hr heach hfew htk hval
        obtain ⟨s1, s2, s3⟩ := heach
        have hT := SlR.below s1 hbr
        have htl := s1.len
        have hnn : a.n ≤ 100000 := by omega
        have hlX := addsOf_len (few_take Hf.out k)
        have hlG := gonesOf_len (few_take Hf.out k)
        have hlX1 := addsOf_len (few_take Hf.out (k + 1))
        have hlG1 := gonesOf_len (few_take Hf.out (k + 1))
        have hln1 := run_len Hf.out (k + 1)
        have hrl := run_live (R.take (k + 1))
        have hplay := fun w' (hB' : BagAt w' g bl bg (runS ([], []) (R.take k)).1 (runS ([], []) (R.take k)).2) (hT' : TagsIn w' a.A a.n a.T) => bplay a w' g bl bg (runS ([], []) (R.take k)) hB' hT' s2 (by omega)
        have htold := fun w' (hR' : RefAt w' gx (addsOf (R.take k)) (gonesOf (R.take k))) (hT' : TagsIn w' a.A a.n a.T) => btold a w' gx _ _ hR' hT' s2 hnn (by omega) (by omega)
        rw [← runS_snoc, ← htk] at hplay
        rw [← addsOf_snoc, ← gonesOf_snoc, ← htk] at htold
        obtain ⟨L, hL⟩ : ∃ L, (runS ([], []) (R.take (k + 1))).1 = L := ⟨_, rfl⟩
        obtain ⟨G, hG⟩ : ∃ G, (runS ([], []) (R.take (k + 1))).2 = G := ⟨_, rfl⟩
        obtain ⟨X, hX⟩ : ∃ X, addsOf (R.take (k + 1)) = X := ⟨_, rfl⟩
        obtain ⟨Y, hY⟩ : ∃ Y, gonesOf (R.take (k + 1)) = Y := ⟨_, rfl⟩
        rw [hL, hG] at hplay hln1
        rw [hX, hY] at htold
        rw [hX] at hlX1
        rw [hY] at hlG1
        rw [hL, hG, hX, hY] at hrl
        have HL := Lib.hid hL; have HG := Lib.hid hG; have HX := Lib.hid hX; have HY := Lib.hid hY; have Hrl := Lib.hid hrl
        have hltB := hB.lt
        have hltR := hR.lt
        have hqw : q < w.heap.size := SlR.old h.rows rfl (by omega)
        have hqS : q ∉ [bl, bg, gx] := by simp; omega
        clear ha htk htl hfew hL hG hX hY hrl hT
        go_upto_region 8 with fail
        refine wp_region_tree (.loose 0 (.loose 1 (.loose 2 (.loose 3 (.loose 4 (.loose 6 (.loose 7 (.loose 8 (.loose 9 (.loose 10 (.one 5 (.one 11 (.loose 12 (.loose 13 (.loose 14 (.loose 16 (.one 15 (.one 17 (.one 18 (.loose 19 (.loose 20 (.loose 21 (.loose 22 (.loose 23 (.loose 24 (.loose 25 (.loose 26 (.loose 27 (.loose 29 (.loose 30 (.loose 31 (.loose 32 (.loose 33 (.loose 34 (.one 28 (.one 35 (.one 36 (.loose 37 (.loose 38 .done))))))))))))))))))))))))))))))))))))))) (Kp [bl, bg, gx] wr) false (by kernel_rfl) (by kernel_rfl) (by kernel_rfl) (by kernel_rfl) (kp_drew [bl, bg, gx] wr) ?_
        have hne := kp_some [bl, bg, gx] wr
        have hS := kp_drew [bl, bg, gx] wr
        have b1 := ksub_row hr hqS; have b2 := ksub_cell hval hqS
        have hbz : Below w.heap.size w wr.drew := hbr.drew
        have hB1 := hB.kept (Keep.drew wr) (by simp) (by simp) (by simp)
        have hR1 := hR.kept (Keep.drew wr) (by simp)
        clear hB hR hr hval
        repeat (refine wpTx_loose rfl ?_ ?_; (focus (simp only [chainOp]; done)); intro K hK; go_simp; refine hK _ ?_; clear hK K)
        refine wpTx_one ?_ rfl ?_ ?_
        focus (exact hS)
        focus (simp only [chainOp]; done)
        intro K hK
        go_simp
        refine (hplay _ hB1 (SlR.below s1 hbz)).mono ?_; rintro e w4 ⟨rfl, hB4, hk4⟩
        replace hS := kp_next hS hk4 (by simp)
        refine ⟨_, rfl, hS, hK _ _ ?_⟩
        clear hK K
        have hR4 := hR1.kept hk4 (by simp; omega)
        replace hbz : Below w.heap.size w w4 := hbz.trans (hk4.below (B := w.heap.size) hbz.size (by intro x hx; simp at hx; omega))
        clear hB1 hR1 hk4
        repeat (refine wpTx_loose rfl ?_ ?_; (focus (simp only [chainOp]; done)); intro K hK; go_simp; refine hK _ ?_; clear hK K)
        refine wpTx_one ?_ rfl ?_ ?_
        focus (exact hS)
        focus (simp only [chainOp]; done)
        intro K hK
        go_simp
        refine (htold _ hR4 (SlR.below s1 hbz)).mono ?_; rintro e w5 ⟨rfl, hR5, hk5⟩
        replace hS := kp_next hS hk5 (by simp)
        refine ⟨_, rfl, hS, hK _ _ ?_⟩
        clear hK K
        have hB5 := hB4.kept hk5 (by simp; omega) (by simp; omega) (by simp; omega)
        replace hbz : Below w.heap.size w w5 := hbz.trans (hk5.below (B := w.heap.size) hbz.size (by intro x hx; simp at hx; omega))
        clear hB4 hR4 hk5
        repeat (refine wpTx_loose rfl ?_ ?_; (focus (simp only [chainOp]; done)); intro K hK; go_simp; refine hK _ ?_; clear hK K)
        refine wpTx_one ?_ rfl ?_ ?_
        focus (exact hS)
        focus (simp only [chainOp]; done)
        intro K hK
        go_simp
        refine (blist _ g bl bg L G hB5 (by omega)).mono ?_; rintro e w6 ⟨LA, lc, rfl, hown6, hb6⟩
        replace hS := kp_below hS hb6
        refine ⟨_, rfl, hS, hK _ _ ?_⟩
        clear hK K
        have hB6 := hB5.below hb6
        have hR6 := hR5.below hb6
        replace hbz := bel2 hbz hb6
        clear hB5 hR5 hb6
        repeat (refine wpTx_loose rfl ?_ ?_; (focus (simp only [chainOp]; done)); intro K hK; go_simp; refine hK _ ?_; clear hK K)
        refine wpTx_one ?_ rfl ?_ ?_
        focus (exact hS)
        focus (simp only [chainOp]; done)
        intro K hK
        go_simp
        have hrlist := rlist _ gx X Y hR6 (by omega) (by omega)
        rw [← Hrl.out.1] at hrlist
        refine hrlist.mono ?_; rintro e w7 ⟨LA2, lc2, rfl, hown7, hb7⟩
        replace hS := kp_below hS hb7
        refine ⟨_, rfl, hS, hK _ _ ?_⟩
        clear hK K hrlist
        have hB7 := hB6.below hb7
        have hR7 := hR6.below hb7
        replace hbz := bel2 hbz hb7
        have hx7 : PairsIn w7 LA (listB L).length ((listB L).map pairV) := by have := hown6.slr.below hb7; unfold PairsIn; rwa [List.map_map]
        have hy7 : PairsIn w7 LA2 (listB L).length ((listB L).map pairV) := by have := hown7.slr; unfold PairsIn; rwa [List.map_map]
        have hll := listB_len L
        clear hB6 hR6 hb7 hown6 hown7
        repeat (refine wpTx_loose rfl ?_ ?_; (focus (simp only [chainOp]; done)); intro K hK; go_simp; refine hK _ ?_; clear hK K)
        refine wpTx_one ?_ rfl ?_ ?_
        focus (exact hS)
        focus (simp only [chainOp]; done)
        intro K hK
        go_simp
        have hprs := rpairs _ LA LA2 (listB L).length (listB L).length lc lc2 _ _ hx7 hy7 (by omega) (by omega)
        rw [decide_eq_true rfl] at hprs
        refine hprs.mono ?_; rintro e w8 ⟨rfl, hb8⟩
        replace hS := kp_below hS hb8
        refine ⟨_, rfl, hS, hK _ _ ?_⟩
        clear hK K hprs
        have hB8 := hB7.below hb8
        have hR8 := hR7.below hb8
        replace hbz := bel2 hbz hb8
        clear hB7 hR7 hb8 hx7 hy7
        repeat (refine wpTx_loose rfl ?_ ?_; (focus (simp only [chainOp]; done)); intro K hK; go_simp; refine hK _ ?_; clear hK K)
        refine wpTx_one ?_ rfl ?_ ?_
        focus (exact hS)
        focus (simp only [chainOp]; done)
        intro K hK
        go_simp
        refine (btags a.val _ g bl bg L G hB8 (by omega)).mono ?_; rintro e w9 ⟨TA, tc, rfl, hown9, hb9⟩
        replace hS := kp_below hS hb9
        refine ⟨_, rfl, hS, hK _ _ ?_⟩
        clear hK K
        have hB9 := hB8.below hb9
        have hR9 := hR8.below hb9
        replace hbz := bel2 hbz hb9
        clear hB8 hR8 hb9
        repeat (refine wpTx_loose rfl ?_ ?_; (focus (simp only [chainOp]; done)); intro K hK; go_simp; refine hK _ ?_; clear hK K)
        refine wpTx_one ?_ rfl ?_ ?_
        focus (exact hS)
        focus (simp only [chainOp]; done)
        intro K hK
        go_simp
        have hrt := rtags a.val _ gx X Y hR9 (by omega) (by omega)
        rw [← Hrl.out.1] at hrt
        refine hrt.mono ?_; rintro e wa ⟨TA2, tc2, rfl, hown10, hb10⟩
        replace hS := kp_below hS hb10
        refine ⟨_, rfl, hS, hK _ _ ?_⟩
        clear hK K hrt
        have hB10 := hB9.below hb10
        have hR10 := hR9.below hb10
        replace hbz := bel2 hbz hb10
        have htl2 := tagsOf_len L a.val
        have hx10 := hown9.slr.below hb10
        have hy10 := hown10.slr
        clear hB9 hR9 hb10 hown9 hown10
        repeat (refine wpTx_loose rfl ?_ ?_; (focus (simp only [chainOp]; done)); intro K hK; go_simp; refine hK _ ?_; clear hK K)
        refine wpTx_one ?_ rfl ?_ ?_
        focus (exact hS)
        focus (simp only [chainOp]; done)
        intro K hK
        go_simp
        refine (rsame6 _ TA TA2 _ tc tc2 (tagsOf L a.val) hx10 hy10 (by omega)).mono ?_; rintro e wb ⟨rfl, hb11⟩
        replace hS := kp_below hS hb11
        refine ⟨_, rfl, hS, hK _ _ ?_⟩
        clear hK K
        have hB11 := hB10.below hb11
        have hR11 := hR10.below hb11
        replace hbz := bel2 hbz hb11
        clear hB10 hR10 hb11 hx10 hy10
        repeat (refine wpTx_loose rfl ?_ ?_; (focus (simp only [chainOp]; done)); intro K hK; go_simp; refine hK _ ?_; clear hK K)
        refine wpTx_done ?_
        intro hS
        clear hS hne b1 b2 hplay htold
        go_wp2_with fail
        go_roundw
        case rel => exact ⟨k + 1, by omega, by go_num, (show BagAt _ _ _ _ _ _ by rw [HL.out, HG.out]; exact hB11), (show RefAt _ _ _ _ by rw [HX.out, HY.out]; exact hR11), hbz⟩
        case measure => simp [intOf]; omega
      · have hke : R.take k = R := List.take_of_length_le (by rw [Hlen.out]; omega)
        rw [hke] at hB hR
        have hrl := run_live R
        have hln : (runS ([], []) R).1.length ≤ 30 ∧ (runS ([], []) R).2.length ≤ 360 := by have := run_len Hf.out R.length; rwa [List.take_length] at this
        have hlX := addsOf_len Hf.out
        have hlG := gonesOf_len Hf.out
        have sX := addsOf_small R
        have sG := gonesOf_small R
        obtain ⟨L, hL⟩ : ∃ L, (runS ([], []) R).1 = L := ⟨_, rfl⟩
        obtain ⟨G, hG⟩ : ∃ G, (runS ([], []) R).2 = G := ⟨_, rfl⟩
        obtain ⟨X, hX⟩ : ∃ X, addsOf R = X := ⟨_, rfl⟩
        obtain ⟨Y, hY⟩ : ∃ Y, gonesOf R = Y := ⟨_, rfl⟩
        rw [hL, hG] at hB hln
        rw [hX, hY] at hR
        rw [hX] at hlX sX
        rw [hY] at hlG sG
        rw [hL, hG, hX, hY] at hrl
        have Hrl := Lib.hid hrl; have HsX := Lib.hid sX; have HsG := Lib.hid sG
        clear hL hG hX hY hrl hke sX sG
        go_wp2_with fail
        refine (bput _ g bl bg L G hB (by omega) (by omega)).mono ?_; rintro e w4 ⟨rfl, hb4⟩
        have hB4 := hB.below hb4
        have hR4 := hR.below hb4
        have hbz := bel2 hbr hb4
        clear hB hR hb4 hbr
        have hrp := rbput w4 gx X Y hR4 (by omega) (by omega) HsX.out HsG.out
        rw [← Hrl.out.1, ← Hrl.out.2] at hrp
        have hrp2 : Calls Try.prog 41 #[.pointer (some ⟨gx, 0, none⟩)] w4 fun e w' => e = .returned (.string ⟨(putB L G).toArray⟩) ∧ Below w4.heap.size w4 w' := by
          refine hrp.mono ?_
          rintro e w' ⟨s, rfl, hs, hb⟩
          refine ⟨ret_str (ByteArray.ext (Array.toList_inj.mp ?_)), hb⟩
          rw [hs]
        obtain ⟨ps, hps⟩ : ∃ ps, (⟨(putB L G).toArray⟩ : ByteArray) = ps := ⟨_, rfl⟩
        rw [hps] at hrp2 ⊢
        clear hrp hps
        go_wp2_with fail
        refine hrp2.mono ?_; rintro e w5 ⟨rfl, hb5⟩
        have hB5 := hB4.below hb5
        have hR5 := hR4.below hb5
        replace hbz := bel2 hbz hb5
        clear hB4 hR4 hb5 hrp2
        go_wp2_with fail
        refine (btags v _ g bl bg L G hB5 (by omega)).mono ?_; rintro e w6 ⟨TA, tc, rfl, hown6, hb6⟩
        have hB6 := hB5.below hb6
        have hR6 := hR5.below hb6
        replace hbz := bel2 hbz hb6
        clear hB5 hR5 hb6
        have hrt := fun w' (hR' : RefAt w' gx X Y) => rtags v w' gx X Y hR' (by omega) (by omega)
        rw [← Hrl.out.1] at hrt
        have htl := tagsOf_len L v
        have hhas := fun w' (hB' : BagAt w' g bl bg L G) => bhas v w' g bl bg L G hB' (by omega)
        obtain ⟨T, hT⟩ : ∃ T, tagsOf L v = T := ⟨_, rfl⟩
        rw [hT] at hrt htl hhas hown6 ⊢
        clear hT
        go_wp2_with fail
        refine (hrt _ hR6).mono ?_; rintro e w7 ⟨TA2, tc2, rfl, hown7, hb7⟩
        have hB7 := hB6.below hb7
        have hR7 := hR6.below hb7
        replace hbz := bel2 hbz hb7
        have hx7 := hown6.slr.below hb7
        have hy7 := hown7.slr
        clear hB6 hR6 hb7 hown6 hown7
        go_wp2_with fail
        refine (rsame6 _ TA TA2 _ tc tc2 T hx7 hy7 (by omega)).mono ?_; rintro e w8 ⟨rfl, hb8⟩
        have hB8 := hB7.below hb8
        have hR8 := hR7.below hb8
        replace hbz := bel2 hbz hb8
        clear hB7 hR7 hb8 hx7 hy7
        go_wp2_with fail
        rcases Nat.eq_zero_or_pos T.length with h0 | h0
        rotate_left
        · have h1 := decide_eq_true h0
          rw [h1] at hhas
          clear h1
          refine (hhas _ hB8).mono ?_; rintro e w9 ⟨rfl, hb9⟩
          have hR9 := hR8.below hb9
          replace hbz := bel2 hbz hb9
          clear hB8 hR8 hb9 hhas
          go_wp2_with fail
          refine (hrt _ hR9).mono ?_; rintro e wa ⟨TA3, tc3, rfl, _, hb10⟩
          replace hbz := bel2 hbz hb10
          clear hrt hb10
          go_wp2_with fail
          refine (awake_any _).mono ?_; rintro e wb ⟨rfl, hb11⟩
          go_wp2_with fail
          go_ret
          exact ⟨rfl, bel2 hbz hb11⟩
        · have h1 : decide (0 < T.length) = false := decide_eq_false (by omega)
          rw [h1] at hhas
          clear h1
          refine (hhas _ hB8).mono ?_; rintro e w9 ⟨rfl, hb9⟩
          have hR9 := hR8.below hb9
          replace hbz := bel2 hbz hb9
          clear hB8 hR8 hb9 hhas
          go_wp2_with fail
          refine (hrt _ hR9).mono ?_; rintro e wa ⟨TA3, tc3, rfl, _, hb10⟩
          replace hbz := bel2 hbz hb10
          clear hrt hb10
          go_wp2_with fail
          refine (awake_any _).mono ?_; rintro e wb ⟨rfl, hb11⟩
          go_wp2_with fail
          go_ret
          exact ⟨rfl, bel2 hbz hb11⟩

end Go.Proofs.Ytlonihfhgfmplaa
