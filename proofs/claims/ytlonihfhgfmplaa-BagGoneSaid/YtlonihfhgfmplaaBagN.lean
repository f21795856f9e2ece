/- BagGone: the walk. -/
import Derived.Test.YtlonihfhgfmplaaBagJ
import Derived.Test.YtlonihfhgfmplaaBPairs
namespace Go.Proofs.Ytlonihfhgfmplaa
open Go.RowKit

def usedB (l : List Act) (t : Id32) : Bool := l.any fun a => decide (a.tag = t) || decide (t ∈ a.T)
theorem usedB_snoc (l : List Act) (a : Act) (t : Id32) : usedB (l ++ [a]) t = (usedB l t || (decide (a.tag = t) || decide (t ∈ a.T))) := by simp [usedB]
theorem adds_used {l : List Act} {t : Id32} {v : ByteArray} (h : (⟨t, v⟩ : BRow) ∈ addsOf l) : usedB l t = true := by
  unfold addsOf at h
  obtain ⟨a, ha, hx⟩ := List.mem_flatMap.1 h
  refine List.any_eq_true.2 ⟨a, ha, ?_⟩
  split at hx
  · split at hx
    · simp at hx
    · simp at hx; simp [hx.1]
  · simp at hx
theorem gones_used {l : List Act} {t : Id32} {v : ByteArray} (h : (⟨t, v⟩ : BRow) ∈ gonesOf l) : usedB l t = true := by
  unfold gonesOf at h
  obtain ⟨a, ha, hx⟩ := List.mem_flatMap.1 h
  refine List.any_eq_true.2 ⟨a, ha, ?_⟩
  split at hx
  · simp at hx
  · split at hx
    · simp at hx
    · obtain ⟨t', ht, e⟩ := List.mem_map.1 hx
      injection e with e1 e2
      subst e1
      simp [ht]
/-- Added under a new tag it is there. -/
theorem new_there {l : List Act} {t : Id32} {v : ByteArray} (hv : v.size ≤ 16) (hu : usedB l t = false) :
    0 < (tagsOf (addB ((runS ([], []) l).1.filter fun x => decide (x.val ≠ v)) (remG (runS ([], []) l).2 v (tagsOf (runS ([], []) l).1 v)) ⟨t, v⟩) v).length := by
  have T := run_tells l
  have hg : (⟨t, v⟩ : BRow) ∉ remG (runS ([], []) l).2 v (tagsOf (runS ([], []) l).1 v) := by
    rw [mem_remG]
    rintro (h | ⟨_, h⟩)
    · rw [gones_used ((T.gone _).1 h)] at hu; cases hu
    · rw [adds_used ((T.live _).1 (mem_tagsOf.1 h)).1] at hu; cases hu
  have : t ∈ tagsOf (addB ((runS ([], []) l).1.filter fun x => decide (x.val ≠ v)) (remG (runS ([], []) l).2 v (tagsOf (runS ([], []) l).1 v)) ⟨t, v⟩) v := by
    rw [mem_tagsOf]
    unfold addB
    rw [if_neg (by simp only; omega), if_neg hg, mem_insC totRow]
    exact .inl rfl
  exact List.length_pos_of_mem this

set_option maxRecDepth 100000 in
set_option maxHeartbeats 4000000 in
theorem bagGone_any (w : World) (A : Option Addr) (n cap : Nat) (R : List Act) (v : ByteArray) (d : Id32) (h : ActsOk w A n R) (hv : v.size ≤ 9223372036854775807) :
    Calls Try.prog 8 #[.slice A n cap, .string v, .agg (idC d)] w fun e w' => e = .returned (.bool true) ∧ Below w.heap.size w w' := by
  have hB0 : Below w.heap.size w (w.alloc (.cells (idC d) 24)) := (Below.refl _ _).alloc (Nat.le_refl _) _
  have hd0 : rowAt (w.alloc (.cells (idC d) 24)) w.heap.size 0 32 = some (idC d) := by simp [go_sem]
  have hlen := h.rows.len
  have hbig := h.big
  have h0 : ActsOk (w.alloc (.cells (idC d) 24)) A n R := ⟨SlR.below h.rows hB0, h.big, fun a ha => ⟨SlR.below (h.each a ha).1 hB0, (h.each a ha).2⟩⟩
  go_enter Try.func8, Try.ntmps8
  go_wp2_with fail
  obtain ⟨W, hW⟩ : ∃ W, W = w.alloc (.cells (idC d) 24) := ⟨_, rfl⟩
  have hsW : w.heap.size < W.heap.size := by rw [hW]; simp
  rw [← hW] at hB0 hd0 h0 ⊢
  clear hW h
  refine (bmuch W A n cap R h0).mono ?_; rintro e w1 ⟨b, rfl, hfew, hb1⟩
  cases b with
  | true =>
    clear hfew
    go_wp2_with fail
    refine (awake_any _).mono ?_; rintro e w2 ⟨rfl, hb2⟩
    go_wp2_with fail
    go_ret
    exact ⟨rfl, hB0.trans ((bel2 hb1 hb2).mono hB0.size)⟩
  | false =>
    have hf := hfew rfl
    clear hfew
    by_cases hvl : 16 < v.size
    · go_wp2_with fail
      refine (awake_any _).mono ?_; rintro e w2 ⟨rfl, hb2⟩
      go_wp2_with fail
      go_ret
      exact ⟨rfl, hB0.trans ((bel2 hb1 hb2).mono hB0.size)⟩
    · go_wp2_with fail
      refine (bnew _).mono ?_; rintro e w2 ⟨g, bl, bg, rfl, h2, hg, hl, hbg, hb2⟩
      have hsz1 := hb1.size
      have hb2' := bel2 hb1 hb2
      clear hb1 hb2
      have hfl := hf.1
      have Hlen := Lib.hid hlen
      have Hf := Lib.hid hf
      clear hf hlen
      go_wp2_with fail
      go_loopw [8] (fun i wr => ∃ k : Nat, k ≤ n ∧ i = .int .i64 k ∧ BagAt wr g bl bg (runS ([], []) (R.take k)).1 (runS ([], []) (R.take k)).2 ∧ Below W.heap.size W wr) (fun i _ => n - (intOf i).toNat)
      case atStart => exact ⟨0, Nat.zero_le _, rfl, h2, hb2'⟩
      case round =>
        obtain ⟨k, hk, rfl, hB, hbr⟩ := hrel
        by_cases hlt : k < n
        · obtain ⟨q, o, rfl, hr, _, _, _, _⟩ := ActsIn.get (SlR.below h0.rows hbr) hlt (by rw [Hlen.out]; exact hlt)
          have heach := h0.each (R[k]'(by rw [Hlen.out]; exact hlt)) (List.getElem_mem _)
          have hfew := Hf.out.2 (R[k]'(by rw [Hlen.out]; exact hlt)) (List.getElem_mem _)
          have htk : R.take (k + 1) = R.take k ++ [R[k]'(by rw [Hlen.out]; exact hlt)] := by rw [List.take_add_one, List.getElem?_eq_getElem (by rw [Hlen.out]; exact hlt)]; rfl
          obtain ⟨a, ha⟩ : ∃ a, R[k]'(by rw [Hlen.out]; exact hlt) = a := ⟨_, rfl⟩
          rw [ha] at hr heach hfew htk
          have Htk := Lib.hid htk
          obtain ⟨s1, s2, s3⟩ := heach
          have hT := SlR.below s1 hbr
          have htl := s1.len
          have hnn : a.n ≤ 1000000 := by omega
          clear ha htk htl s1 hfew
          go_wp2_with fail
          refine (bplay a wr g bl bg (runS ([], []) (R.take k)) hB hT s2 hnn).mono ?_; rintro e w3 ⟨rfl, h3, hk3⟩
          have hb3 : Below W.heap.size W w3 := hbr.trans (hk3.below (B := W.heap.size) hbr.size (by intro x hx; simp at hx; omega))
          go_wp2_with fail
          go_roundw
          case rel => exact ⟨k + 1, by omega, by go_num, (show BagAt w3 g bl bg (runS ([], []) (R.take (k + 1))).1 (runS ([], []) (R.take (k + 1))).2 by rw [Htk.out, runS_snoc]; exact h3), hb3⟩
          case measure => simp [intOf]; omega
        · have hke : R.take k = R := List.take_of_length_le (by rw [Hlen.out]; omega)
          rw [hke] at hB
          have hln : (runS ([], []) R).1.length ≤ 30 := by have := (run_len Hf.out R.length).1; rwa [List.take_length] at this
          have hnew := fun hu => new_there (l := R) (t := d) (v := v) (by omega) hu
          have hS := Lib.hid hnew
          obtain ⟨L, hL⟩ : ∃ L, (runS ([], []) R).1 = L := ⟨_, rfl⟩
          obtain ⟨G, hG⟩ : ∃ G, (runS ([], []) R).2 = G := ⟨_, rfl⟩
          rw [hL, hG] at hS
          rw [hL] at hln
          rw [hL, hG] at hB
          clear hnew hke hL hG h2
          go_wp2_with fail
          refine (blist wr g bl bg L G hB (by omega)).mono ?_; rintro e w3 ⟨LA, lc, rfl, hown, hb3⟩
          have hB3 := hB.below hb3
          have hbr3 := bel2 hbr hb3
          have hls := hown.slr
          have hlA := hown.addr
          have hll := listB_len L
          have hgn := list_gone L v
          obtain ⟨N, hN⟩ : ∃ N, listB L = N := ⟨_, rfl⟩
          rw [hN] at hls hll hgn ⊢
          have hLAb : ∀ x ∈ blk LA, bl < x ∧ bg < x := fun x hx => by
            have h1 := (hown.at_base hx).1
            have h2 := hB.lt
            omega
          have HLAb := Lib.hid hLAb
          clear hLAb
          have HGn := Lib.hid hgn
          clear hown hN hgn hb3 hB hbr
          go_wp2_with fail
          refine (btags v w3 g bl bg L G hB3 (by omega)).mono ?_; rintro e w4 ⟨TA, tc, rfl, hownT, hb4⟩
          have hB4 := hB3.below hb4
          have hbr4 := bel2 hbr3 hb4
          have hls4 := hls.below hb4
          have hT4 : TagsIn w4 TA (tagsOf L v).length (tagsOf L v) := hownT.slr
          have htl := tagsOf_len L v
          have htn : (tagsOf L v).length ≤ 1000000 := by omega
          have hrem := brem_ok v TA _ tc (tagsOf L v) w4 g bl bg L G hB4 hT4 (by omega) htn
          rw [remL_tags] at hrem
          have hL2n : (L.filter fun x => decide (x.val ≠ v)).length ≤ 30 := Nat.le_trans (List.length_filter_le _ _) hln
          have ht0 := tags_gone L v
          obtain ⟨L2, hL2⟩ : ∃ L2, (L.filter fun x => decide (x.val ≠ v)) = L2 := ⟨_, rfl⟩
          obtain ⟨G2, hG2⟩ : ∃ G2, remG G v (tagsOf L v) = G2 := ⟨_, rfl⟩
          rw [hL2, hG2] at hrem hS
          rw [hL2] at hL2n ht0
          rw [hL2] at HGn
          have hhas := fun w' (hB' : BagAt w' g bl bg L2 G2) => bhas v w' g bl bg L2 G2 hB' (by omega)
          have htgs := fun w' (hB' : BagAt w' g bl bg L2 G2) => btags v w' g bl bg L2 G2 hB' (by omega)
          rw [ht0] at hhas htgs
          have hfalse : decide (0 < ([] : List Id32).length) = false := rfl
          rw [hfalse] at hhas
          obtain ⟨m, hm⟩ : ∃ m, (tagsOf L v).length = m := ⟨_, rfl⟩
          rw [hm] at hrem ⊢
          clear hm htn htl hT4 hownT hL2 hG2 ht0 hfalse hb4 hB3 hbr3 hls
          go_wp2_with fail
          refine hrem.mono ?_; rintro e w5 ⟨rfl, hB5, hk5⟩
          have hgs : W.heap.size ≤ g ∧ W.heap.size ≤ bl ∧ W.heap.size ≤ bg := ⟨by omega, by omega, by omega⟩
          have hbr5 : Below W.heap.size W w5 := hbr4.trans (hk5.below (B := W.heap.size) hbr4.size (by intro x hx; simp at hx; omega))
          have hls5 : SlR w5 LA N.length 2 (N.map fun s => pairC (pairV s)) := hls4.kept hk5 (fun x hx => by
            have := HLAb.out x hx
            simp; omega)
          clear hls4 hk5 hrem hbr4
          go_wp2_with fail
          refine (hhas w5 hB5).mono ?_; rintro e w6 ⟨rfl, hb6⟩
          have hB6 := hB5.below hb6
          have hbr6 := bel2 hbr5 hb6
          have hls6 := hls5.below hb6
          clear hB5 hbr5 hls5 hb6
          go_wp2_with fail
          refine (htgs w6 hB6).mono ?_; rintro e w7 ⟨TA2, tc2, rfl, _, hb7⟩
          have hB7 := hB6.below hb7
          have hbr7 := bel2 hbr6 hb7
          have hls7 := hls6.below hb7
          clear hB6 hbr6 hls6 hb7
          go_wp2_with fail
          clear hhas htgs hB4
          go_loopw [11, 12] (fun out i wq => ∃ (j : Nat) (A1 : Option Addr) (cap1 : Nat), j ≤ N.length ∧ i = .int .i64 j ∧ out = .slice A1 ((N.take j).filter fun s => decide (s ≠ v)).length cap1 ∧ OwnL wq w7.heap.size A1 ((N.take j).filter fun s => decide (s ≠ v)).length cap1 ((N.take j).filter fun s => decide (s ≠ v)) ∧ Below w7.heap.size w7 wq) (fun _ i _ => N.length - (intOf i).toNat)
          case atStart => exact ⟨0, none, 0, Nat.zero_le _, rfl, rfl, Own.nil _ _ _ _, Below.refl _ _⟩
          case round =>
            obtain ⟨j, A1, cap1, hj, rfl, rfl, hown, hbq⟩ := hrel
            by_cases hjlt : j < N.length
            · obtain ⟨q, o, rfl, hrw⟩ := (hls7.below hbq).at_ hjlt
              obtain rfl : o = 0 := by
                rcases hlA with e | ⟨g', e⟩
                · cases e
                · injection e with e; injection e
              rw [List.getElem_map, Nat.zero_add] at hrw
              have hcell := rowAt_cell hrw (j := 0) (by omega)
              rw [pairC_g0, Nat.add_zero] at hcell
              have htk : (N.take (j + 1)).filter (fun s => decide (s ≠ v)) = (N.take j).filter (fun s => decide (s ≠ v)) ++ (if N[j] = v then [] else [N[j]]) := by
                rw [List.take_add_one, List.getElem?_eq_getElem hjlt, Option.toList_some, List.filter_append]
                congr 1
                by_cases e : N[j] = v <;> simp [e]
              have hfl : ((N.take j).filter fun s => decide (s ≠ v)).length ≤ 100 := by
                have := List.length_filter_le (fun s => decide (s ≠ v)) (N.take j)
                rw [List.length_take] at this; omega
              obtain ⟨x, hx⟩ : ∃ x, N[j]'hjlt = x := ⟨_, rfl⟩
              rw [hx] at hrw hcell htk
              obtain ⟨F, hF⟩ : ∃ F, (N.take j).filter (fun s => decide (s ≠ v)) = F := ⟨_, rfl⟩
              rw [hF] at hown hfl htk ⊢
              have HF := Lib.hid hF
              clear hx hF
              have hcell' : wr.cell? ⟨q, j * 2, none⟩ = some (.string x) := hcell
              clear hcell
              have hszq := hbq.size
              by_cases he : x = v
              · rw [if_pos he, List.append_nil] at htk
                have Htk := Lib.hid htk
                have h1 : (x.toList == v.toList) = true := by rw [he]; simp
                have h2 : (x.toList != v.toList) = false := by rw [he]; simp
                clear htk he
                go_wp2_with fail
                go_roundw
                case rel => exact ⟨j + 1, A1, cap1, by omega, by go_num, by rw [Htk.out], by rw [Htk.out]; exact hown, hbq⟩
                case measure => simp [intOf]; omega
              · rw [if_neg he] at htk
                have Htk := Lib.hid htk
                have h1 : (x.toList == v.toList) = false := by rw [beq_eq_false_iff_ne]; exact fun e => he (toList_inj.1 e)
                have h2 : (x.toList != v.toList) = true := by rw [bne_iff_ne]; exact fun e => he (toList_inj.1 e)
                clear htk he
                have hbx : Below wr.heap.size wr (wr.alloc (.cells (pairC (pairV x)) 42)) := (Below.refl _ _).alloc (Nat.le_refl _) _
                have hown2 := hown.below hbx
                have hrow2 : rowAt (wr.alloc (.cells (pairC (pairV x)) 42)) wr.heap.size 0 2 = some (pairC (pairV x)) := by simp [go_sem]
                go_wp2_with (at_builtin; refine L_append einfoPair rfl hown2 rfl hrow2 (pairC_one _) (by omega) (by omega) (by simp; omega) ?_; intro A2 cap2 wz hownA hkA hsubA)
                have hbA : Below w7.heap.size w7 wz := hbq.trans ((hbx.mono hszq).trans (hkA.below (B := w7.heap.size) (by simp; omega) fun y hy => (hown.at_base hy).1))
                go_wp2_with fail
                go_roundw
                case rel => exact ⟨j + 1, A2, cap2, by omega, by go_num, by rw [Htk.out]; simp, by rw [Htk.out]; show Own _ _ _ _ _ _ _ _; rw [List.map_append, List.length_append]; exact hownA, hbA⟩
                case measure => simp [intOf]; omega
            · have hje : N.take j = N := List.take_of_length_le (by omega)
              rw [hje] at hown ⊢
              have hfl : (N.filter fun s => decide (s ≠ v)).length ≤ 100 := by
                have := List.length_filter_le (fun s => decide (s ≠ v)) N
                omega
              have hB8 := hB7.below hbq
              have hbr8 := bel2 hbr7 hbq
              have hwant := hown.slr
              have HX := HGn
              obtain ⟨F, hF⟩ : ∃ F, N.filter (fun s => decide (s ≠ v)) = F := ⟨_, rfl⟩
              rw [hF] at hwant hfl ⊢
              have hX := HGn.out
              rw [hF] at hX
              have HX := Lib.hid hX
              have hln2 := listB_len L2
              have hlst := blist wr g bl bg L2 G2 hB8 (by omega)
              rw [hX] at hlst
              clear hX hF hje hown hls7 hB7 hbr7 hbq
              go_wp2_with fail
              refine hlst.mono ?_; rintro e w9 ⟨LA2, lc2, rfl, hown9, hb9⟩
              have hB9 := hB8.below hb9
              have hbr9 := bel2 hbr8 hb9
              have hx9 : PairsIn w9 LA2 F.length (F.map pairV) := by have := hown9.slr; unfold PairsIn; rwa [List.map_map]
              have hy9 : PairsIn w9 A1 F.length (F.map pairV) := by have := hwant.below hb9; unfold PairsIn; rwa [List.map_map]
              have hprs := rpairs w9 LA2 A1 F.length F.length lc2 cap1 (F.map pairV) (F.map pairV) hx9 hy9 (by omega) (by omega)
              rw [decide_eq_true rfl] at hprs
              clear hwant hlst hown9 hB8 hbr8 hb9 hx9 hy9
              go_wp2_with fail
              refine hprs.mono ?_; rintro e wA ⟨rfl, hbA⟩
              have hBA := hB9.below hbA
              have hbrA := bel2 hbr9 hbA
              clear hprs hB9 hbr9 hbA
              go_wp2_with fail
              go_loopw [13, 14] (fun used i wq => ∃ j : Nat, j ≤ n ∧ i = .int .i64 j ∧ used = .bool (usedB (R.take j) d) ∧ Below wA.heap.size wA wq) (fun _ i _ => n - (intOf i).toNat)
              case atStart => exact ⟨0, Nat.zero_le _, rfl, rfl, Below.refl _ _⟩
              case round =>
                obtain ⟨j, hj, rfl, rfl, hbq⟩ := hrel
                by_cases hjlt : j < n
                · obtain ⟨q, o, rfl, _, _, htag, _, htags⟩ := ActsIn.get (SlR.below h0.rows (bel2 hbrA hbq)) hjlt (by rw [Hlen.out]; exact hjlt)
                  have heach := h0.each (R[j]'(by rw [Hlen.out]; exact hjlt)) (List.getElem_mem _)
                  have htk : R.take (j + 1) = R.take j ++ [R[j]'(by rw [Hlen.out]; exact hjlt)] := by rw [List.take_add_one, List.getElem?_eq_getElem (by rw [Hlen.out]; exact hjlt)]; rfl
                  have hus := usedB_snoc (R.take j) (R[j]'(by rw [Hlen.out]; exact hjlt)) d
                  rw [← htk] at hus
                  obtain ⟨x, hx⟩ : ∃ x, R[j]'(by rw [Hlen.out]; exact hjlt) = x := ⟨_, rfl⟩
                  rw [hx] at htag htags heach hus
                  obtain ⟨s1, s2, s3⟩ := heach
                  have hT := SlR.below s1 (bel2 hbrA hbq)
                  have hdr : rowAt wr w.heap.size 0 32 = some (idC d) := (rowAt_of_block ((bel2 hbrA hbq).block _ (rowAt_lt hd0)) _ _).trans hd0
                  obtain ⟨u, hu⟩ : ∃ u, usedB (R.take j) d = u := ⟨_, rfl⟩
                  rw [hu] at hus ⊢
                  have Hu := Lib.hid hu
                  clear hx htk s1 hu
                  cases u with
                  | true =>
                    have Hus := Lib.hid hus
                    clear hus htag htags
                    go_upto_region 24 with fail
                    refine wp_region_lex (Bel wr) false (by kernel_rfl) (by kernel_rfl) (by kernel_rfl) (bel_drew wr) ?_
                    have hne := bel_some wr
                    have hS := bel_drew wr
                    repeat (refine wpLx_loose ?_ ?_; (focus (simp only [chainOp]; done)); intro K hK; go_simp; refine hK _ ?_; clear hK K)
                    refine wpLx_chain ?_ ?_ ?_
                    focus (exact hS)
                    focus (simp only [chainOp]; done)
                    intro K hK
                    go_simp
                    refine hK _ _ ?_
                    clear hK K
                    repeat (refine wpLx_loose ?_ ?_; (focus (simp only [chainOp]; done)); intro K hK; go_simp; refine hK _ ?_; clear hK K)
                    refine wpLx_nil ?_
                    intro hS
                    clear hne hS
                    go_wp2_with fail
                    go_roundw
                    case rel => exact ⟨j + 1, by omega, by go_num, by rw [Hus.out]; rfl, hbq.drew⟩
                    case measure => simp [intOf]; omega
                  | false =>
                    by_cases ht : x.tag = d
                    · have hus' : usedB (R.take (j + 1)) d = true := by rw [hus]; simp [ht]
                      have Hus := Lib.hid hus'
                      have he : (x.tag == d) = true := by simp [ht]
                      clear hus hus' htags ht
                      go_upto_region 24 with fail
                      refine wp_region_lex (Bel wr) false (by kernel_rfl) (by kernel_rfl) (by kernel_rfl) (bel_drew wr) ?_
                      have hne := bel_some wr
                      have hS := bel_drew wr
                      have b1 := sub_row htag; have b2 := sub_row hdr
                      repeat (refine wpLx_loose ?_ ?_; (focus (simp only [chainOp]; done)); intro K hK; go_simp; refine hK _ ?_; clear hK K)
                      refine wpLx_chain ?_ ?_ ?_
                      focus (exact hS)
                      focus (simp only [chainOp]; done)
                      intro K hK
                      go_simp
                      refine hK _ _ ?_
                      clear hK K
                      repeat (refine wpLx_loose ?_ ?_; (focus (simp only [chainOp]; done)); intro K hK; go_simp; refine hK _ ?_; clear hK K)
                      refine wpLx_nil ?_
                      intro hS
                      clear hne hS b1 b2
                      go_wp2_with fail
                      go_roundw
                      case rel => exact ⟨j + 1, by omega, by go_num, by rw [Hus.out], hbq.drew⟩
                      case measure => simp [intOf]; omega
                    · have hus' : usedB (R.take (j + 1)) d = decide (d ∈ x.T) := by rw [hus]; simp [ht]
                      have Hus := Lib.hid hus'
                      have he : (x.tag == d) = false := by simp [ht]
                      clear hus hus' ht
                      have c1 := rhas6 wr.drew x.A x.n x.cap x.T d hT (by omega)
                      generalize decide (d ∈ x.T) = hh at c1 Hus
                      go_upto_region 24 with fail
                      refine wp_region_lex (Bel wr) false (by kernel_rfl) (by kernel_rfl) (by kernel_rfl) (bel_drew wr) ?_
                      have hne := bel_some wr
                      have hS := bel_drew wr
                      have b1 := sub_row htag; have b2 := sub_row hdr; have b3 := sub_cell htags
                      repeat (refine wpLx_loose ?_ ?_; (focus (simp only [chainOp]; done)); intro K hK; go_simp; refine hK _ ?_; clear hK K)
                      refine wpLx_chain ?_ ?_ ?_
                      focus (exact hS)
                      focus (simp only [chainOp]; done)
                      intro K hK
                      go_simp
                      refine (c1).mono ?_
                      rintro e w' ⟨rfl, hb⟩
                      replace hS := bel_next hS hb
                      refine ⟨_, rfl, hS, hK _ _ ?_⟩
                      clear hK K hb
                      repeat (refine wpLx_loose ?_ ?_; (focus (simp only [chainOp]; done)); intro K hK; go_simp; refine hK _ ?_; clear hK K)
                      refine wpLx_nil ?_
                      intro hS
                      have hS' : Below wr.heap.size wr w' := hS
                      have hbz := bel2 hbq hS'
                      clear hne hS b1 b2 b3 c1
                      go_wp2_with fail
                      go_roundw
                      case rel => exact ⟨j + 1, by omega, by go_num, by rw [Hus.out], hbz⟩
                      case measure => simp [intOf]; omega
                · have hje : R.take j = R := List.take_of_length_le (by rw [Hlen.out]; omega)
                  rw [hje]
                  have hBB := hBA.below hbq
                  have hbrB := bel2 hbrA hbq
                  have hd1 : rowAt wr w.heap.size 0 32 = some (idC d) := (rowAt_of_block (hbrB.block _ (rowAt_lt hd0)) _ _).trans hd0
                  have hadd := badd d v wr g bl bg L2 G2 hBB hv
                  have e0 : longE v = 0 := if_neg hvl
                  rw [e0] at hadd
                  have hLn3 : (addB L2 G2 ⟨d, v⟩).length ≤ 1000000 := by
                    unfold addB
                    have := insC_length (c := cmpRow) L2 ⟨d, v⟩
                    repeat' split
                    all_goals omega
                  obtain ⟨L3, hL3⟩ : ∃ L3, addB L2 G2 ⟨d, v⟩ = L3 := ⟨_, rfl⟩
                  rw [hL3] at hadd hLn3 hS
                  obtain ⟨u, hu⟩ : ∃ u, usedB R d = u := ⟨_, rfl⟩
                  rw [hu] at hS ⊢
                  clear e0 hje hL3 hu hBA hbrA hbq
                  go_wp2_with fail
                  refine hadd.mono ?_; rintro e wC ⟨rfl, hBC, hkC⟩
                  have hbrC : Below W.heap.size W wC := hbrB.trans (hkC.below (B := W.heap.size) hbrB.size (by intro x hx; simp at hx; omega))
                  clear hadd hkC hBB hbrB hd1
                  cases u with
                  | true =>
                    go_wp2_with fail
                    refine (awake_any _).mono ?_; rintro e wD ⟨rfl, hbD⟩
                    go_wp2_with fail
                    go_ret
                    exact ⟨rfl, hB0.trans ((bel2 hbrC hbD).mono hB0.size)⟩
                  | false =>
                    have hhas := bhas v wC g bl bg L3 G2 hBC hLn3
                    rw [decide_eq_true (hS.out rfl)] at hhas
                    go_wp2_with fail
                    refine hhas.mono ?_; rintro e wE ⟨rfl, hbE⟩
                    have hbrE := bel2 hbrC hbE
                    clear hhas
                    go_wp2_with fail
                    refine (awake_any _).mono ?_; rintro e wD ⟨rfl, hbD⟩
                    go_wp2_with fail
                    go_ret
                    exact ⟨rfl, hB0.trans ((bel2 hbrE hbD).mono hB0.size)⟩

end Go.Proofs.Ytlonihfhgfmplaa
