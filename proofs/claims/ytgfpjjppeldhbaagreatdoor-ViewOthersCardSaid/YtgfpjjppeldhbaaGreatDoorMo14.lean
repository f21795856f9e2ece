/- Part 14 of the texts that lead to this claim: the walks of the functions and the plain law, in order. -/
import Derived.Test.YtgfpjjppeldhbaaGreatDoorMo13
import Derived.Test.YtgfpjjppeldhbaaGreatDoorRows
import Derived.LaidLaws
import Derived.LaidHandle
import Derived.Stop.Joined

/- ViewOthers: the walk. -/
namespace Go.Proofs.YtgfpjjppeldhbaaGreatDoor
open Go.RowKit

theorem pairs_len {w : World} {O M : List Nat} {v : Value} (s : VSt) (hs : StAt w O M v s) : s.pairs.length ≤ s.len := by
  cases s with
  | t n => exact Nat.le_refl _
  | b L G => show ((listB L).map pairV).length ≤ L.length; rw [List.length_map]; exact listB_len L
  | l L => show (L.map pairOf).length ≤ L.length; rw [List.length_map]; exact Nat.le_refl _
  | m X O => exact listM_len X
  | s N G =>
    obtain ⟨g, bn, bb, bg, rfl, h1, rfl⟩ := hs
    exact listS_len (N := N) (G := G) ⟨h1.one, fun a ha => (nodeE_id (h1.ok a ha)).1⟩
theorem checkB_eq (t : ByteArray) (h : kindB t ≠ 0) : checkB t = 0 := by unfold checkB; rw [if_neg h]
theorem checkB_ne (t : ByteArray) (h : kindB t = 0) : checkB t ≠ 0 := by unfold checkB; rw [if_pos h]; decide
theorem new_kind (t : ByteArray) (h : kindB t ≠ 0) : (VSt.new (kindB t)).kind = kindB t ∧ (VSt.new (kindB t)).len = 0 := by
  rcases kindB_range t with e | e | e | e | e | e
  · exact absurd e h
  all_goals (rw [e]; exact ⟨rfl, rfl⟩)

set_option maxRecDepth 100000 in
set_option maxHeartbeats 4000000 in
theorem viewOthers_any (t : ByteArray) (A : Option Addr) (n cap : Nat) (R : List MarkV) (w : World) (hp : PartsVar w) (ht : t.size ≤ 9223372036854775807) (h : MarksOk w A n R) :
    Calls Tryz.prog 5 #[.string t, .slice A n cap] w fun e w' => e = .returned (.bool true) ∧ Below w.heap.size w w' := by
  have hlen := h.rows.len
  have hrows := h.rows
  have hnb := h.big
  have c1 := vmuch w A n cap R h
  have c2 := fun w => rcheck_any t w ht
  have c3 := fun w (hw : 0 < w.heap.size) (hk : kindB t ≠ 0) => vnew_any t w ht hk hw
  have hpl := hp.lt
  clear h
  go_enter Tryz.func5, Tryz.ntmps5
  go_wp2_with fail
  refine c1.mono ?_; rintro e w1 ⟨mb, rfl, hfew, hb1⟩
  clear c1
  cases mb with
  | true =>
    clear hfew c2 c3
    go_wp2_with fail
    refine (awake26 w1 (hp.below hb1)).mono ?_; rintro e w2 ⟨rfl, hb2⟩
    go_wp2_with fail
    go_ret
    exact ⟨rfl, bel2 hb1 hb2⟩
  | false =>
    have hf := hfew rfl
    have hn30 : n ≤ 30 := by have := hf.1; omega
    have Hf := Lib.hid hf
    have Hlen := Lib.hid hlen
    clear hfew hf hlen
    by_cases hk : kindB t = 0
    · have hcn := checkB_ne t hk
      obtain ⟨E, hE⟩ : ∃ E, checkB t = E := ⟨_, rfl⟩
      rw [hE] at hcn c2
      have hcb : (E != 0) = true := by simpa using hcn
      clear hcn hk hE c3
      go_wp2_with fail
      refine (c2 w1).mono ?_; rintro e w2 ⟨rfl, hb2⟩
      go_wp2_with fail
      refine (awake26 w2 ((hp.below hb1).below hb2)).mono ?_; rintro e w3 ⟨rfl, hb3⟩
      go_wp2_with fail
      go_ret
      exact ⟨rfl, bel2 (bel2 hb1 hb2) hb3⟩
    · have hE := checkB_eq t hk
      rw [hE] at c2
      obtain ⟨hnk, hnl⟩ := new_kind t hk
      have Hk := Lib.hid hk
      clear hE hk
      go_wp2_with fail
      refine (c2 w1).mono ?_; rintro e w2 ⟨rfl, hb2⟩
      have hb02 := bel2 hb1 hb2
      clear hb1 hb2 c2
      go_wp2_with fail
      refine (c3 w2 (by have := hb02.size; omega) Hk.out).mono ?_; rintro e w3 ⟨g, b, O, v, rfl, hV, hbO, hgw, hb3⟩
      have hb03 := bel2 hb02 hb3
      have hS : ∀ x ∈ b :: O, w.heap.size ≤ x := fun x hx => Nat.le_trans hb02.size (hbO x hx)
      have HS := Lib.hid hS
      clear hbO hgw hb02 hb3 c3 hS
      obtain ⟨s0, hs0⟩ : ∃ s0, VSt.new (kindB t) = s0 := ⟨_, rfl⟩
      rw [hs0] at hV hnk hnl
      have Hnk := Lib.hid hnk
      have Hnl := Lib.hid hnl
      clear hs0 hnk hnl
      go_wp2_with fail
      go_loopw [7, 8, 9, 10, 11] (fun iv _ _ _ _ wr => ∃ (i : Nat) (I : List Id32) (s : VSt), i ≤ n ∧ iv = .int .i64 i ∧ VAt wr g t b O I v s ∧ Hid (s.kind = kindB t) ∧ Hid (s.len ≤ i) ∧ Below w.heap.size w wr) (fun iv _ _ _ _ _ => n - (intOf iv).toNat)
      case atStart => exact ⟨0, [], s0, Nat.zero_le _, rfl, hV, Hnk, (show _ ≤ _ by rw [Hnl.out]; exact Nat.le_refl _), hb03⟩
      case round =>
        clear hV hb03 Hnk Hnl
        obtain ⟨i, I, s, hi, rfl, hV, Hk1, Hl1, hbr⟩ := hrel
        by_cases hlt : i < n
        · obtain ⟨gm, om, rfl, hrow, hid, hbody⟩ := MarksIn.get (SlR.below hrows hbr) hlt (by rw [Hlen.out]; exact hlt)
          have Hgm : Hid (gm < w.heap.size) := by
            obtain ⟨g9, o9, e9, hr9⟩ := SlR.at_ hrows hlt
            injection e9 with e9; injection e9 with e9 _
            subst e9; exact rowAt_lt hr9
          have hms := Hf.out.2 (R[i]'(by rw [Hlen.out]; exact hlt)) (List.getElem_mem (by rw [Hlen.out]; exact hlt))
          obtain ⟨m, hm⟩ : ∃ m, R[i]'(by rw [Hlen.out]; exact hlt) = m := ⟨_, rfl⟩
          rw [hm] at hrow hid hbody hms
          have hl30 : s.len ≤ 30 := Nat.le_trans Hl1.out (by omega)
          have hpn := pairs_len s hV.st
          have cv := fun w' I' (hV' : VAt w' g t b O I' v s) => vvalue w' g t b I' v O (b :: O) s hV'.view hV'.st ht Hk1.out.symm (by omega)
          obtain ⟨ps, hps⟩ : ∃ ps, s.pairs = ps := ⟨_, rfl⟩
          obtain ⟨kd, hkd⟩ : ∃ kd, s.kind = kd := ⟨_, rfl⟩
          obtain ⟨nm, hnm⟩ : ∃ nm, s.num = nm := ⟨_, rfl⟩
          rw [hps] at hpn
          rw [hps, hkd, hnm] at cv
          have Hps := Lib.hid hps; have Hkd := Lib.hid hkd; have Hnm := Lib.hid hnm
          obtain ⟨np, hnp⟩ : ∃ np, ps.length = np := ⟨_, rfl⟩
          rw [hnp] at hpn cv
          have Hnp := Lib.hid hnp
          have hnp30 : np ≤ 30 := Nat.le_trans hpn hl30
          have Hl30 := Lib.hid hl30
          clear hm hps hkd hnm hnp hpn hl30
          go_wp2_with fail
          refine (cv wr I hV).mono ?_; rintro e w1 ⟨A1, cap1, rfl, hown1, hb1⟩
          have hbx : Below w1.heap.size w1 (w1.alloc (.cells (valVC ⟨kd, nm, .slice A1 np cap1⟩) 25)) := (Below.refl _ _).alloc (Nat.le_refl _) _
          have hval : rowAt (w1.alloc (.cells (valVC ⟨kd, nm, .slice A1 np cap1⟩) 25)) w1.heap.size 0 3 = some (valVC ⟨kd, nm, .slice A1 np cap1⟩) := by simp [go_sem]
          have hb12 := bel2 hb1 hbx
          have hV1 := hV.below hb12
          have hrow1 := (rowAt_of_block (hb12.block gm (rowAt_lt hrow)) _ _).trans hrow
          have hid1 := (rowAt_of_block (hb12.block gm (rowAt_lt hrow)) _ _).trans hid
          have hbody1 := (hb12.cell (p := ⟨gm, om + i * 34 + 33, none⟩) (rowAt_lt hrow)).trans hbody
          have hP1 : PairsIn _ A1 np ps := (hown1.below hbx).slr
          have hbr1 := bel2 hbr hb12
          have hO1 := hown1.below hbx
          have hgvO : w1.heap.size ∉ b :: O := fun hx => by have := hV.lt _ hx; have := hb1.size; omega
          have HA1 : Hid (∀ x ∈ blk A1, x ∉ b :: O) := fun x hx hxO => by have h1 := (hown1.at_base hx).1; have h2 := hV.lt _ hxO; omega
          clear hbx hb12 hV hrow hid hbody hown1 hb1 hbr
          go_upto_region 10 with fail
          obtain ⟨gv, hgv⟩ : ∃ gv, w1.heap.size = gv := ⟨_, rfl⟩
          obtain ⟨W, hW⟩ : ∃ W, W = w1.alloc (.cells (valVC ⟨kd, nm, .slice A1 np cap1⟩) 25) := ⟨_, rfl⟩
          rw [← hW] at hval hV1 hrow1 hid1 hbody1 hP1 hbr1 hO1 ⊢
          rw [hgv] at hval hgvO ⊢
          have Hgv := Lib.hid hgvO
          clear hW hgv hgvO
          go_wp2_with fail
          refine (vhas m.id W g t b I v hV1.view).mono ?_; rintro e w2 ⟨rfl, hb2⟩
          have hV2 := hV1.below hb2
          have hrow2 := (rowAt_of_block (hb2.block gm (rowAt_lt hrow1)) _ _).trans hrow1
          have hid2 := (rowAt_of_block (hb2.block gm (rowAt_lt hrow1)) _ _).trans hid1
          have hbody2 := (hb2.cell (p := ⟨gm, om + i * 34 + 33, none⟩) (rowAt_lt hrow1)).trans hbody1
          have hval2 := (rowAt_of_block (hb2.block gv (rowAt_lt hval)) _ _).trans hval
          have hP2 : PairsIn _ A1 np ps := SlR.below hP1 hb2
          have hbr2 := bel2 hbr1 hb2
          have HO2 := Lib.hid (hO1.below hb2)
          clear hV1 hrow1 hid1 hbody1 hval hP1 hbr1 hb2 hO1
          by_cases hmem : m.id ∈ I
          · rw [decide_eq_true hmem]
            go_wp2_with fail
            refine (vfold_old m w2 g t b I v hV2.view hmem).mono ?_; rintro e w3 ⟨rfl, hb3⟩
            have hV3 := hV2.below hb3
            have hid3 := (rowAt_of_block (hb3.block gm (rowAt_lt hrow2)) _ _).trans hid2
            have ch := vhas m.id w3 g t b I v hV3.view
            rw [decide_eq_true hmem] at ch
            have Hmem := Lib.hid hmem
            clear hmem
            go_wp2_with fail
            refine ch.mono ?_; rintro e w4 ⟨rfl, hb4⟩
            have hb34 := bel2 hb3 hb4
            have hV4 := hV3.below hb4
            have hbody4 := (hb34.cell (p := ⟨gm, om + i * 34 + 33, none⟩) (rowAt_lt hrow2)).trans hbody2
            have hval4 := (rowAt_of_block (hb34.block gv (rowAt_lt hval2)) _ _).trans hval2
            have hP4 : PairsIn _ A1 np ps := SlR.below hP2 hb34
            have hbr4 := bel2 hbr2 hb34
            clear ch hV2 hV3 hid3 hrow2 hid2 hbody2 hval2 hP2 hbr2 hb3 hb4 hb34
            go_wp2_with fail
            refine (rop_of m.body w4 (by omega)).mono ?_; rintro e w5 ⟨V, rfl, hok, hbad, hb5⟩
            have hV5 := hV4.below hb5
            have hval5 := (rowAt_of_block (hb5.block gv (rowAt_lt hval4)) _ _).trans hval4
            have hP5 : PairsIn _ A1 np ps := SlR.below hP4 hb5
            have hbr5 := bel2 hbr4 hb5
            obtain ⟨lb, hlb⟩ : ∃ lb, m.body.data.toList = lb := ⟨_, rfl⟩
            have hfit : fits t m ↔ opE lb = 0 ∧ belongs (opO lb).k = kindB t := by unfold fits; rw [hlb]
            rw [hlb] at hok hbad ⊢
            clear hlb hV4 hval4 hP4 hbr4 hb5 hbody4
            by_cases h0 : opE lb = 0
            · by_cases hbk : belongs (opO lb).k = kindB t
              · skip
                obtain ⟨A3, c3, rfl, hown3⟩ := hok h0
                have hoo := opO_ok lb h0
                rw [h0]
                obtain ⟨o, ho⟩ : ∃ o, opO lb = o := ⟨_, rfl⟩
                rw [ho] at hoo hbk hown3 ⊢
                have hkl : o.k ≤ 9223372036854775807 := by have := hoo.2.2.1; omega
                clear hok hbad h0 ho hoo hown3 hfit
                have ckk := fun w => rkind_any t w ht
                have cbb := fun w => rop_belongs o.k w hkl
                obtain ⟨B1, hB1⟩ : ∃ B1, belongs o.k = B1 := ⟨_, rfl⟩
                obtain ⟨K1, hK1⟩ : ∃ K1, kindB t = K1 := ⟨_, rfl⟩
                have Hk1' := Lib.hid hK1
                rw [hB1, hK1] at hbk
                rw [hB1] at cbb
                rw [hK1] at ckk
                clear hB1 hK1
                have hbk1 : (B1 != K1) = false := by simpa using hbk
                clear hbk
                unfold opC at *
                have hb6 : Below w5.heap.size w5 (w5.alloc (.cells (opPC ⟨o.k, o.n, o.key, o.val, o.ref, .slice A3 o.refs.length c3⟩) 52)) := (Below.refl _ _).alloc (Nat.le_refl _) _
                have hV6 := hV5.below hb6
                have hval6 := (rowAt_of_block (hb6.block gv (rowAt_lt hval5)) _ _).trans hval5
                have hP6 : PairsIn _ A1 np ps := SlR.below hP5 hb6
                have hbr6 := bel2 hbr5 hb6
                have hop6 : rowAt (w5.alloc (.cells (opPC ⟨o.k, o.n, o.key, o.val, o.ref, .slice A3 o.refs.length c3⟩) 52)) w5.heap.size 0 37 = some (opPC ⟨o.k, o.n, o.key, o.val, o.ref, .slice A3 o.refs.length c3⟩) := by simp [go_sem]
                have hk6 := rowAt_cell hop6 (j := 0) (by omega)
                rw [opPC_g0, Nat.zero_add] at hk6
                clear hV5 hval5 hP5 hbr5 hb6 hop6
                go_upto_region 14 with fail
                obtain ⟨go, hgo⟩ : ∃ go, w5.heap.size = go := ⟨_, rfl⟩
                obtain ⟨W6, hW6⟩ : ∃ W6, W6 = w5.alloc (.cells (opPC ⟨o.k, o.n, o.key, o.val, o.ref, .slice A3 o.refs.length c3⟩) 52) := ⟨_, rfl⟩
                rw [← hW6] at hV6 hval6 hP6 hbr6 hk6 ⊢
                rw [hgo] at hk6 ⊢
                clear hW6 hgo
                have hcs : ∀ W' A2 cap2, Below W6.heap.size W6 W' → PairsIn W' A2 np ps → Calls Tryz.prog 15 #[.agg (valVC ⟨kd, nm, .slice A2 np cap2⟩), .agg (valVC ⟨kd, nm, .slice A1 np cap1⟩)] W' fun e w' => e = .returned (.bool true) ∧ Below W'.heap.size W' w' := fun W' A2 cap2 hb hp2 => by
                  have cs := rsame26 W' kd nm kd nm A2 A1 np np cap2 cap1 ps ps hp2 (SlR.below hP6 hb) (by omega) (by omega)
                  rw [decide_eq_true ⟨rfl, rfl, rfl⟩] at cs
                  exact cs
                have hcv : ∀ W', Below W6.heap.size W6 W' → Calls Tryz.prog 24 #[.pointer (some ⟨g, 0, none⟩)] W' fun e w' => ∃ A cap, e = .returned (.agg (valVC ⟨kd, nm, .slice A np cap⟩)) ∧ Own w' W'.heap.size 98 2 A np cap (ps.map pairC) ∧ Below W'.heap.size W' w' := fun W' hb => cv W' I (hV6.below hb)
                have mk : ∀ w' : World, Below W6.heap.size W6 w' → w'.cell? ⟨go, 0, none⟩ = some (.int .i64 o.k) ∧ rowAt w' gv 0 3 = some (valVC ⟨kd, nm, .slice A1 np cap1⟩) ∧ Below W6.heap.size W6 w' := fun w' hb =>
                  ⟨(hb.cell (p := ⟨go, 0, none⟩) (World.block_lt_of_cell? W6 _ hk6)).trans hk6, (rowAt_of_block (hb.block gv (rowAt_lt hval6)) _ _).trans hval6, hb⟩
                have Hcs := Lib.hid hcs
                have Hcv := Lib.hid hcv
                have Mk := Lib.hid mk
                clear hcs hcv mk
                refine wp_region_tree (.loose 0 (.loose 1 (.loose 2 (.loose 3 (.loose 4 (.loose 6 (.one 5 (.one 7 (.loose 8 (.loose 9 (.loose 10 (.loose 11 (.loose 12 (.loose 13 (.loose 14 (.loose 15 (.loose 17 (.one 16 (.one 18 (.loose 19 (.loose 20 .done))))))))))))))))))))) (Bel W6) false (by kernel_rfl) (by kernel_rfl) (by kernel_rfl) (by kernel_rfl) (bel_drew W6) ?_
                have hne := bel_some W6
                have hS := bel_drew W6
                have b1 := sub_cell hk6; have b2 := sub_row hval6
                repeat (refine wpTx_loose rfl ?_ ?_; (focus (simp only [chainOp]; done)); intro K hK; go_simp; refine hK _ ?_; clear hK K)
                refine wpTx_one ?_ rfl ?_ ?_
                focus (exact hS)
                focus (simp only [chainOp]; done)
                intro K hK
                go_simp
                refine (cbb _).mono ?_
                rintro e w' ⟨rfl, rfl⟩
                refine ⟨_, rfl, hS, hK _ _ ?_⟩
                clear hK K
                refine wpTx_one ?_ rfl ?_ ?_
                focus (exact hS)
                focus (simp only [chainOp]; done)
                intro K hK
                go_simp
                refine (ckk _).mono ?_
                rintro e w' ⟨rfl, hb⟩
                replace hS := bel_next hS hb
                refine ⟨_, rfl, hS, hK _ _ ?_⟩
                clear hK K hb
                repeat (refine wpTx_loose rfl ?_ ?_; (focus (simp only [chainOp]; done)); intro K hK; go_simp; refine hK _ ?_; clear hK K)
                refine wpTx_one ?_ rfl ?_ ?_
                focus (exact hS)
                focus (simp only [chainOp]; done)
                intro K hK
                go_simp
                refine (Hcv.out _ hS).mono ?_; rintro e w7 ⟨A2, cap2, rfl, hown2, hb7⟩
                replace hS := bel_next hS hb7
                refine ⟨_, rfl, hS, hK _ _ ?_⟩
                clear hK K hb7
                refine wpTx_one ?_ rfl ?_ ?_
                focus (exact hS)
                focus (simp only [chainOp]; done)
                intro K hK
                go_simp
                refine (Hcs.out _ _ _ hS hown2.slr).mono ?_; rintro e w8 ⟨rfl, hb8⟩
                have hB8 := bel_next hS hb8
                refine ⟨_, rfl, hB8, hK _ _ ?_⟩
                clear hK K hb8 hS
                repeat (refine wpTx_loose rfl ?_ ?_; (focus (simp only [chainOp]; done)); intro K hK; go_simp; refine hK _ ?_; clear hK K)
                refine wpTx_done ?_
                intro hS
                clear hS hne b2 hown2
                clear b1
                all_goals
                  have hVz := hV6.below hB8
                  have hbz := bel2 hbr6 hB8
                  have hlz : (s).len ≤ i + 1 := (Nat.le_succ_of_le Hl1.out)
                  have hkz : (s).kind = kindB t := Hk1.out
                  have Hlz := Lib.hid hlz
                  have Hkz := Lib.hid hkz
                  clear hV6 hbr6 hval6 hP6 hk6 hlz hkz hB8
                  go_wp2_with fail
                  go_roundw
                  case rel => exact ⟨i + 1, I, s, by omega, by go_num, hVz, Hkz, Hlz, hbz⟩
                  case measure => simp [intOf]; omega
              · skip
                obtain ⟨A3, c3, rfl, hown3⟩ := hok h0
                have hoo := opO_ok lb h0
                rw [h0]
                obtain ⟨o, ho⟩ : ∃ o, opO lb = o := ⟨_, rfl⟩
                rw [ho] at hoo hbk hown3 ⊢
                have hkl : o.k ≤ 9223372036854775807 := by have := hoo.2.2.1; omega
                clear hok hbad h0 ho hoo hown3 hfit
                have ckk := fun w => rkind_any t w ht
                have cbb := fun w => rop_belongs o.k w hkl
                obtain ⟨B1, hB1⟩ : ∃ B1, belongs o.k = B1 := ⟨_, rfl⟩
                obtain ⟨K1, hK1⟩ : ∃ K1, kindB t = K1 := ⟨_, rfl⟩
                have Hk1' := Lib.hid hK1
                rw [hB1, hK1] at hbk
                rw [hB1] at cbb
                rw [hK1] at ckk
                clear hB1 hK1
                have hbk1 : (B1 != K1) = true := by simpa using hbk
                have hbk2 : (B1 == K1) = false := by simpa using hbk
                unfold opC at *
                have hb6 : Below w5.heap.size w5 (w5.alloc (.cells (opPC ⟨o.k, o.n, o.key, o.val, o.ref, .slice A3 o.refs.length c3⟩) 52)) := (Below.refl _ _).alloc (Nat.le_refl _) _
                have hV6 := hV5.below hb6
                have hval6 := (rowAt_of_block (hb6.block gv (rowAt_lt hval5)) _ _).trans hval5
                have hP6 : PairsIn _ A1 np ps := SlR.below hP5 hb6
                have hbr6 := bel2 hbr5 hb6
                have hop6 : rowAt (w5.alloc (.cells (opPC ⟨o.k, o.n, o.key, o.val, o.ref, .slice A3 o.refs.length c3⟩) 52)) w5.heap.size 0 37 = some (opPC ⟨o.k, o.n, o.key, o.val, o.ref, .slice A3 o.refs.length c3⟩) := by simp [go_sem]
                have hk6 := rowAt_cell hop6 (j := 0) (by omega)
                rw [opPC_g0, Nat.zero_add] at hk6
                clear hV5 hval5 hP5 hbr5 hb6 hop6
                go_upto_region 14 with fail
                obtain ⟨go, hgo⟩ : ∃ go, w5.heap.size = go := ⟨_, rfl⟩
                obtain ⟨W6, hW6⟩ : ∃ W6, W6 = w5.alloc (.cells (opPC ⟨o.k, o.n, o.key, o.val, o.ref, .slice A3 o.refs.length c3⟩) 52) := ⟨_, rfl⟩
                rw [← hW6] at hV6 hval6 hP6 hbr6 hk6 ⊢
                rw [hgo] at hk6 ⊢
                clear hW6 hgo
                have hcs : ∀ W' A2 cap2, Below W6.heap.size W6 W' → PairsIn W' A2 np ps → Calls Tryz.prog 15 #[.agg (valVC ⟨kd, nm, .slice A2 np cap2⟩), .agg (valVC ⟨kd, nm, .slice A1 np cap1⟩)] W' fun e w' => e = .returned (.bool true) ∧ Below W'.heap.size W' w' := fun W' A2 cap2 hb hp2 => by
                  have cs := rsame26 W' kd nm kd nm A2 A1 np np cap2 cap1 ps ps hp2 (SlR.below hP6 hb) (by omega) (by omega)
                  rw [decide_eq_true ⟨rfl, rfl, rfl⟩] at cs
                  exact cs
                have hcv : ∀ W', Below W6.heap.size W6 W' → Calls Tryz.prog 24 #[.pointer (some ⟨g, 0, none⟩)] W' fun e w' => ∃ A cap, e = .returned (.agg (valVC ⟨kd, nm, .slice A np cap⟩)) ∧ Own w' W'.heap.size 98 2 A np cap (ps.map pairC) ∧ Below W'.heap.size W' w' := fun W' hb => cv W' I (hV6.below hb)
                have mk : ∀ w' : World, Below W6.heap.size W6 w' → w'.cell? ⟨go, 0, none⟩ = some (.int .i64 o.k) ∧ rowAt w' gv 0 3 = some (valVC ⟨kd, nm, .slice A1 np cap1⟩) ∧ Below W6.heap.size W6 w' := fun w' hb =>
                  ⟨(hb.cell (p := ⟨go, 0, none⟩) (World.block_lt_of_cell? W6 _ hk6)).trans hk6, (rowAt_of_block (hb.block gv (rowAt_lt hval6)) _ _).trans hval6, hb⟩
                have Hcs := Lib.hid hcs
                have Hcv := Lib.hid hcv
                have Mk := Lib.hid mk
                clear hcs hcv mk
                refine wp_region_tree (.loose 0 (.loose 1 (.loose 2 (.loose 3 (.loose 4 (.loose 6 (.one 5 (.one 7 (.loose 8 (.loose 9 (.loose 10 (.loose 11 (.loose 12 (.loose 13 (.loose 14 (.loose 15 (.loose 17 (.one 16 (.one 18 (.loose 19 (.loose 20 .done))))))))))))))))))))) (Bel W6) false (by kernel_rfl) (by kernel_rfl) (by kernel_rfl) (by kernel_rfl) (bel_drew W6) ?_
                have hne := bel_some W6
                have hS := bel_drew W6
                have b1 := sub_cell hk6; have b2 := sub_row hval6
                repeat (refine wpTx_loose rfl ?_ ?_; (focus (simp only [chainOp]; done)); intro K hK; go_simp; refine hK _ ?_; clear hK K)
                refine wpTx_one ?_ rfl ?_ ?_
                focus (exact hS)
                focus (simp only [chainOp]; done)
                intro K hK
                go_simp
                refine (cbb _).mono ?_
                rintro e w' ⟨rfl, rfl⟩
                refine ⟨_, rfl, hS, hK _ _ ?_⟩
                clear hK K
                refine wpTx_one ?_ rfl ?_ ?_
                focus (exact hS)
                focus (simp only [chainOp]; done)
                intro K hK
                go_simp
                refine (ckk _).mono ?_
                rintro e w' ⟨rfl, hb⟩
                replace hS := bel_next hS hb
                refine ⟨_, rfl, hS, hK _ _ ?_⟩
                clear hK K hb
                repeat (refine wpTx_loose rfl ?_ ?_; (focus (simp only [chainOp]; done)); intro K hK; go_simp; refine hK _ ?_; clear hK K)
                refine wpTx_one ?_ rfl ?_ ?_
                focus (exact hS)
                focus (simp only [chainOp]; done)
                intro K hK
                go_simp
                refine (Hcv.out _ hS).mono ?_; rintro e w7 ⟨A2, cap2, rfl, hown2, hb7⟩
                replace hS := bel_next hS hb7
                refine ⟨_, rfl, hS, hK _ _ ?_⟩
                clear hK K hb7
                refine wpTx_one ?_ rfl ?_ ?_
                focus (exact hS)
                focus (simp only [chainOp]; done)
                intro K hK
                go_simp
                refine (Hcs.out _ _ _ hS hown2.slr).mono ?_; rintro e w8 ⟨rfl, hb8⟩
                have hB8 := bel_next hS hb8
                refine ⟨_, rfl, hB8, hK _ _ ?_⟩
                clear hK K hb8 hS
                repeat (refine wpTx_loose rfl ?_ ?_; (focus (simp only [chainOp]; done)); intro K hK; go_simp; refine hK _ ?_; clear hK K)
                refine wpTx_done ?_
                intro hS
                clear hS hne b2 hown2
                clear b1
                all_goals
                  have hVz := hV6.below hB8
                  have hbz := bel2 hbr6 hB8
                  have hlz : (s).len ≤ i + 1 := (Nat.le_succ_of_le Hl1.out)
                  have hkz : (s).kind = kindB t := Hk1.out
                  have Hlz := Lib.hid hlz
                  have Hkz := Lib.hid hkz
                  clear hV6 hbr6 hval6 hP6 hk6 hlz hkz hB8
                  go_wp2_with fail
                  go_roundw
                  case rel => exact ⟨i + 1, I, s, by omega, by go_num, hVz, Hkz, Hlz, hbz⟩
                  case measure => simp [intOf]; omega
            · skip
              have hVe := hbad h0
              subst hVe
              obtain ⟨E, hE⟩ : ∃ E, opE lb = E := ⟨_, rfl⟩
              rw [hE] at h0 ⊢
              have hE0 : (E == 0) = false := by simpa using h0
              have hE1 : (E != 0) = true := by simpa using h0
              clear hok hbad hE h0 hfit
              have hb6 : Below w5.heap.size w5 (w5.alloc (.cells (opPC opP0) 52)) := (Below.refl _ _).alloc (Nat.le_refl _) _
              have hV6 := hV5.below hb6
              have hval6 := (rowAt_of_block (hb6.block gv (rowAt_lt hval5)) _ _).trans hval5
              have hP6 : PairsIn _ A1 np ps := SlR.below hP5 hb6
              have hbr6 := bel2 hbr5 hb6
              have hop6 : rowAt (w5.alloc (.cells (opPC opP0) 52)) w5.heap.size 0 37 = some (opPC opP0) := by simp [go_sem]
              have hk6 := rowAt_cell hop6 (j := 0) (by omega)
              rw [opPC_g0, Nat.zero_add] at hk6
              clear hV5 hval5 hP5 hbr5 hb6 hop6
              go_upto_region 14 with fail
              obtain ⟨go, hgo⟩ : ∃ go, w5.heap.size = go := ⟨_, rfl⟩
              obtain ⟨W6, hW6⟩ : ∃ W6, W6 = w5.alloc (.cells (opPC opP0) 52) := ⟨_, rfl⟩
              rw [← hW6] at hV6 hval6 hP6 hbr6 hk6 ⊢
              rw [hgo] at hk6 ⊢
              clear hW6 hgo
              have hcs : ∀ W' A2 cap2, Below W6.heap.size W6 W' → PairsIn W' A2 np ps → Calls Tryz.prog 15 #[.agg (valVC ⟨kd, nm, .slice A2 np cap2⟩), .agg (valVC ⟨kd, nm, .slice A1 np cap1⟩)] W' fun e w' => e = .returned (.bool true) ∧ Below W'.heap.size W' w' := fun W' A2 cap2 hb hp2 => by
                have cs := rsame26 W' kd nm kd nm A2 A1 np np cap2 cap1 ps ps hp2 (SlR.below hP6 hb) (by omega) (by omega)
                rw [decide_eq_true ⟨rfl, rfl, rfl⟩] at cs
                exact cs
              have hcv : ∀ W', Below W6.heap.size W6 W' → Calls Tryz.prog 24 #[.pointer (some ⟨g, 0, none⟩)] W' fun e w' => ∃ A cap, e = .returned (.agg (valVC ⟨kd, nm, .slice A np cap⟩)) ∧ Own w' W'.heap.size 98 2 A np cap (ps.map pairC) ∧ Below W'.heap.size W' w' := fun W' hb => cv W' I (hV6.below hb)
              have mk : ∀ w' : World, Below W6.heap.size W6 w' → w'.cell? ⟨go, 0, none⟩ = some (.int .i64 0) ∧ rowAt w' gv 0 3 = some (valVC ⟨kd, nm, .slice A1 np cap1⟩) ∧ Below W6.heap.size W6 w' := fun w' hb =>
                ⟨(hb.cell (p := ⟨go, 0, none⟩) (World.block_lt_of_cell? W6 _ hk6)).trans hk6, (rowAt_of_block (hb.block gv (rowAt_lt hval6)) _ _).trans hval6, hb⟩
              have Hcs := Lib.hid hcs
              have Hcv := Lib.hid hcv
              have Mk := Lib.hid mk
              clear hcs hcv mk
              refine wp_region_tree (.loose 0 (.loose 1 (.loose 2 (.loose 3 (.loose 4 (.loose 6 (.one 5 (.one 7 (.loose 8 (.loose 9 (.loose 10 (.loose 11 (.loose 12 (.loose 13 (.loose 14 (.loose 15 (.loose 17 (.one 16 (.one 18 (.loose 19 (.loose 20 .done))))))))))))))))))))) (Bel W6) false (by kernel_rfl) (by kernel_rfl) (by kernel_rfl) (by kernel_rfl) (bel_drew W6) ?_
              have hne := bel_some W6
              have hS := bel_drew W6
              have b2 := sub_row hval6
              repeat (refine wpTx_loose rfl ?_ ?_; (focus (simp only [chainOp]; done)); intro K hK; go_simp; refine hK _ ?_; clear hK K)
              refine wpTx_one ?_ rfl ?_ ?_
              focus (exact hS)
              focus (simp only [chainOp]; done)
              intro K hK
              go_simp
              refine hK _ _ ?_
              clear hK K
              refine wpTx_one ?_ rfl ?_ ?_
              focus (exact hS)
              focus (simp only [chainOp]; done)
              intro K hK
              go_simp
              refine hK _ _ ?_
              clear hK K
              repeat (refine wpTx_loose rfl ?_ ?_; (focus (simp only [chainOp]; done)); intro K hK; go_simp; refine hK _ ?_; clear hK K)
              refine wpTx_one ?_ rfl ?_ ?_
              focus (exact hS)
              focus (simp only [chainOp]; done)
              intro K hK
              go_simp
              refine (Hcv.out _ hS).mono ?_; rintro e w7 ⟨A2, cap2, rfl, hown2, hb7⟩
              replace hS := bel_next hS hb7
              refine ⟨_, rfl, hS, hK _ _ ?_⟩
              clear hK K hb7
              refine wpTx_one ?_ rfl ?_ ?_
              focus (exact hS)
              focus (simp only [chainOp]; done)
              intro K hK
              go_simp
              refine (Hcs.out _ _ _ hS hown2.slr).mono ?_; rintro e w8 ⟨rfl, hb8⟩
              have hB8 := bel_next hS hb8
              refine ⟨_, rfl, hB8, hK _ _ ?_⟩
              clear hK K hb8 hS
              repeat (refine wpTx_loose rfl ?_ ?_; (focus (simp only [chainOp]; done)); intro K hK; go_simp; refine hK _ ?_; clear hK K)
              refine wpTx_done ?_
              intro hS
              clear hS hne b2 hown2
              all_goals
                have hVz := hV6.below hB8
                have hbz := bel2 hbr6 hB8
                have hlz : (s).len ≤ i + 1 := (Nat.le_succ_of_le Hl1.out)
                have hkz : (s).kind = kindB t := Hk1.out
                have Hlz := Lib.hid hlz
                have Hkz := Lib.hid hkz
                clear hV6 hbr6 hval6 hP6 hk6 hlz hkz hB8
                go_wp2_with fail
                go_roundw
                case rel => exact ⟨i + 1, I, s, by omega, by go_num, hVz, Hkz, Hlz, hbz⟩
                case measure => simp [intOf]; omega
          · rw [decide_eq_false hmem]
            have hp2 := hp.below hbr2
            have cf := vfold_vat m w2 g t b O I v s hV2 hmem hp2 (by omega) ht Hk1.out.symm (by have := Hl30.out; omega)
            have hkeepS : ∀ x ∈ b :: O, w.heap.size ≤ x := HS.out
            have hgvO : gv ∉ b :: O := Hgv.out
            go_wp2_with fail
            refine cf.mono ?_; rintro e w3 ⟨rfl, hV3, hkf⟩
            have hgmO : gm ∉ b :: O := fun hx => by have := HS.out gm hx; have := Hgm.out; omega
            have hid3 := (hkf.row (rowAt_lt hrow2) hgmO _ _).trans hid2
            have ch := vhas m.id w3 g t b (m.id :: I) v hV3.view
            rw [decide_eq_true (List.mem_cons_self)] at ch
            have hbody3 := (hkf.cell (p := ⟨gm, om + i * 34 + 33, none⟩) (rowAt_lt hrow2) hgmO).trans hbody2
            have hval3 := (hkf.row (rowAt_lt hval2) hgvO _ _).trans hval2
            have hP3 : PairsIn w3 A1 np ps := (HO2.out.kept hkf HA1.out).slr
            have hbr3 : Below w.heap.size w w3 := hbr2.trans (hkf.below hbr2.size hkeepS)
            have Hmem := Lib.hid hmem
            clear hmem cf hp2 hkf hgvO hkeepS hP2 hval2 hbody2 hV2
            go_wp2_with fail
            refine ch.mono ?_; rintro e w4 ⟨rfl, hb4⟩
            have hV4 := hV3.below hb4
            have hbody4 := (hb4.cell (p := ⟨gm, om + i * 34 + 33, none⟩) (World.block_lt_of_cell? w3 _ hbody3)).trans hbody3
            have hval4 := (rowAt_of_block (hb4.block gv (rowAt_lt hval3)) _ _).trans hval3
            have hP4 : PairsIn _ A1 np ps := SlR.below hP3 hb4
            have hbr4 := bel2 hbr3 hb4
            clear ch hV3 hid3 hrow2 hid2 hbody3 hval3 hP3 hbr2 hbr3 hb4 hgmO
            go_wp2_with fail
            refine (rop_of m.body w4 (by omega)).mono ?_; rintro e w5 ⟨V, rfl, hok, hbad, hb5⟩
            have hV5 := hV4.below hb5
            have hval5 := (rowAt_of_block (hb5.block gv (rowAt_lt hval4)) _ _).trans hval4
            have hP5 : PairsIn _ A1 np ps := SlR.below hP4 hb5
            have hbr5 := bel2 hbr4 hb5
            obtain ⟨lb, hlb⟩ : ∃ lb, m.body.data.toList = lb := ⟨_, rfl⟩
            have hfit : fits t m ↔ opE lb = 0 ∧ belongs (opO lb).k = kindB t := by unfold fits; rw [hlb]
            rw [hlb] at hok hbad ⊢
            clear hlb hV4 hval4 hP4 hbr4 hb5 hbody4
            by_cases h0 : opE lb = 0
            · by_cases hbk : belongs (opO lb).k = kindB t
              · have hfs : (foldS t m s).len ≤ i + 1 := Nat.le_trans (foldS_len t m s) (by have := Hl1.out; omega)
                have hks : (foldS t m s).kind = kindB t := (foldS_kind t m s).trans Hk1.out
                obtain ⟨s', hs'⟩ : ∃ s', foldS t m s = s' := ⟨_, rfl⟩
                rw [hs'] at hV5 hfs hks
                have Hfs := Lib.hid hfs; have Hks := Lib.hid hks
                clear hs' hfs hks cv
                obtain ⟨A3, c3, rfl, hown3⟩ := hok h0
                have hoo := opO_ok lb h0
                rw [h0]
                obtain ⟨o, ho⟩ : ∃ o, opO lb = o := ⟨_, rfl⟩
                rw [ho] at hoo hbk hown3 ⊢
                have hkl : o.k ≤ 9223372036854775807 := by have := hoo.2.2.1; omega
                clear hok hbad h0 ho hoo hown3 hfit
                have ckk := fun w => rkind_any t w ht
                have cbb := fun w => rop_belongs o.k w hkl
                obtain ⟨B1, hB1⟩ : ∃ B1, belongs o.k = B1 := ⟨_, rfl⟩
                obtain ⟨K1, hK1⟩ : ∃ K1, kindB t = K1 := ⟨_, rfl⟩
                have Hk1' := Lib.hid hK1
                rw [hB1, hK1] at hbk
                rw [hB1] at cbb
                rw [hK1] at ckk
                clear hB1 hK1
                have hbk1 : (B1 != K1) = false := by simpa using hbk
                clear hbk
                unfold opC at *
                have hb6 : Below w5.heap.size w5 (w5.alloc (.cells (opPC ⟨o.k, o.n, o.key, o.val, o.ref, .slice A3 o.refs.length c3⟩) 52)) := (Below.refl _ _).alloc (Nat.le_refl _) _
                have hV6 := hV5.below hb6
                have hval6 := (rowAt_of_block (hb6.block gv (rowAt_lt hval5)) _ _).trans hval5
                have hP6 : PairsIn _ A1 np ps := SlR.below hP5 hb6
                have hbr6 := bel2 hbr5 hb6
                have hop6 : rowAt (w5.alloc (.cells (opPC ⟨o.k, o.n, o.key, o.val, o.ref, .slice A3 o.refs.length c3⟩) 52)) w5.heap.size 0 37 = some (opPC ⟨o.k, o.n, o.key, o.val, o.ref, .slice A3 o.refs.length c3⟩) := by simp [go_sem]
                have hk6 := rowAt_cell hop6 (j := 0) (by omega)
                rw [opPC_g0, Nat.zero_add] at hk6
                clear hV5 hval5 hP5 hbr5 hb6 hop6
                go_upto_region 14 with fail
                obtain ⟨go, hgo⟩ : ∃ go, w5.heap.size = go := ⟨_, rfl⟩
                obtain ⟨W6, hW6⟩ : ∃ W6, W6 = w5.alloc (.cells (opPC ⟨o.k, o.n, o.key, o.val, o.ref, .slice A3 o.refs.length c3⟩) 52) := ⟨_, rfl⟩
                rw [← hW6] at hV6 hval6 hP6 hbr6 hk6 ⊢
                rw [hgo] at hk6 ⊢
                clear hW6 hgo
                have mk : ∀ w' : World, Below W6.heap.size W6 w' → w'.cell? ⟨go, 0, none⟩ = some (.int .i64 o.k) ∧ rowAt w' gv 0 3 = some (valVC ⟨kd, nm, .slice A1 np cap1⟩) ∧ Below W6.heap.size W6 w' := fun w' hb =>
                  ⟨(hb.cell (p := ⟨go, 0, none⟩) (World.block_lt_of_cell? W6 _ hk6)).trans hk6, (rowAt_of_block (hb.block gv (rowAt_lt hval6)) _ _).trans hval6, hb⟩
                have Mk := Lib.hid mk
                clear mk
                refine wp_region_tree (.loose 0 (.loose 1 (.loose 2 (.loose 3 (.loose 4 (.loose 6 (.one 5 (.one 7 (.loose 8 (.loose 9 (.loose 10 (.loose 11 (.loose 12 (.loose 13 (.loose 14 (.loose 15 (.loose 17 (.one 16 (.one 18 (.loose 19 (.loose 20 .done))))))))))))))))))))) (Bel W6) false (by kernel_rfl) (by kernel_rfl) (by kernel_rfl) (by kernel_rfl) (bel_drew W6) ?_
                have hne := bel_some W6
                have hS := bel_drew W6
                have b1 := sub_cell hk6
                repeat (refine wpTx_loose rfl ?_ ?_; (focus (simp only [chainOp]; done)); intro K hK; go_simp; refine hK _ ?_; clear hK K)
                refine wpTx_one ?_ rfl ?_ ?_
                focus (exact hS)
                focus (simp only [chainOp]; done)
                intro K hK
                go_simp
                refine (cbb _).mono ?_
                rintro e w' ⟨rfl, rfl⟩
                refine ⟨_, rfl, hS, hK _ _ ?_⟩
                clear hK K
                refine wpTx_one ?_ rfl ?_ ?_
                focus (exact hS)
                focus (simp only [chainOp]; done)
                intro K hK
                go_simp
                refine (ckk _).mono ?_
                rintro e w' ⟨rfl, hb⟩
                replace hS := bel_next hS hb
                refine ⟨_, rfl, hS, hK _ _ ?_⟩
                clear hK K hb
                repeat (refine wpTx_loose rfl ?_ ?_; (focus (simp only [chainOp]; done)); intro K hK; go_simp; refine hK _ ?_; clear hK K)
                refine wpTx_one ?_ rfl ?_ ?_
                focus (exact hS)
                focus (simp only [chainOp]; done)
                intro K hK
                go_simp
                refine hK _ _ ?_
                clear hK K
                refine wpTx_one ?_ rfl ?_ ?_
                focus (exact hS)
                focus (simp only [chainOp]; done)
                intro K hK
                go_simp
                refine hK _ _ ?_
                clear hK K
                repeat (refine wpTx_loose rfl ?_ ?_; (focus (simp only [chainOp]; done)); intro K hK; go_simp; refine hK _ ?_; clear hK K)
                have hB8 := hS
                clear hS
                refine wpTx_done ?_
                intro hS
                clear hS hne b1
                all_goals
                  have hVz := hV6.below hB8
                  have hbz := bel2 hbr6 hB8
                  have hlz : (s').len ≤ i + 1 := Hfs.out
                  have hkz : (s').kind = kindB t := Hks.out
                  have Hlz := Lib.hid hlz
                  have Hkz := Lib.hid hkz
                  clear hV6 hbr6 hval6 hP6 hk6 hlz hkz hB8
                  go_wp2_with fail
                  go_roundw
                  case rel => exact ⟨i + 1, (m.id :: I), s', by omega, by go_num, hVz, Hkz, Hlz, hbz⟩
                  case measure => simp [intOf]; omega
              · have hns : foldS t m s = s := if_neg (fun hf => hbk (hfit.1 hf).2)
                rw [hns] at hV5
                clear hns
                obtain ⟨A3, c3, rfl, hown3⟩ := hok h0
                have hoo := opO_ok lb h0
                rw [h0]
                obtain ⟨o, ho⟩ : ∃ o, opO lb = o := ⟨_, rfl⟩
                rw [ho] at hoo hbk hown3 ⊢
                have hkl : o.k ≤ 9223372036854775807 := by have := hoo.2.2.1; omega
                clear hok hbad h0 ho hoo hown3 hfit
                have ckk := fun w => rkind_any t w ht
                have cbb := fun w => rop_belongs o.k w hkl
                obtain ⟨B1, hB1⟩ : ∃ B1, belongs o.k = B1 := ⟨_, rfl⟩
                obtain ⟨K1, hK1⟩ : ∃ K1, kindB t = K1 := ⟨_, rfl⟩
                have Hk1' := Lib.hid hK1
                rw [hB1, hK1] at hbk
                rw [hB1] at cbb
                rw [hK1] at ckk
                clear hB1 hK1
                have hbk1 : (B1 != K1) = true := by simpa using hbk
                have hbk2 : (B1 == K1) = false := by simpa using hbk
                unfold opC at *
                have hb6 : Below w5.heap.size w5 (w5.alloc (.cells (opPC ⟨o.k, o.n, o.key, o.val, o.ref, .slice A3 o.refs.length c3⟩) 52)) := (Below.refl _ _).alloc (Nat.le_refl _) _
                have hV6 := hV5.below hb6
                have hval6 := (rowAt_of_block (hb6.block gv (rowAt_lt hval5)) _ _).trans hval5
                have hP6 : PairsIn _ A1 np ps := SlR.below hP5 hb6
                have hbr6 := bel2 hbr5 hb6
                have hop6 : rowAt (w5.alloc (.cells (opPC ⟨o.k, o.n, o.key, o.val, o.ref, .slice A3 o.refs.length c3⟩) 52)) w5.heap.size 0 37 = some (opPC ⟨o.k, o.n, o.key, o.val, o.ref, .slice A3 o.refs.length c3⟩) := by simp [go_sem]
                have hk6 := rowAt_cell hop6 (j := 0) (by omega)
                rw [opPC_g0, Nat.zero_add] at hk6
                clear hV5 hval5 hP5 hbr5 hb6 hop6
                go_upto_region 14 with fail
                obtain ⟨go, hgo⟩ : ∃ go, w5.heap.size = go := ⟨_, rfl⟩
                obtain ⟨W6, hW6⟩ : ∃ W6, W6 = w5.alloc (.cells (opPC ⟨o.k, o.n, o.key, o.val, o.ref, .slice A3 o.refs.length c3⟩) 52) := ⟨_, rfl⟩
                rw [← hW6] at hV6 hval6 hP6 hbr6 hk6 ⊢
                rw [hgo] at hk6 ⊢
                clear hW6 hgo
                have hcs : ∀ W' A2 cap2, Below W6.heap.size W6 W' → PairsIn W' A2 np ps → Calls Tryz.prog 15 #[.agg (valVC ⟨kd, nm, .slice A2 np cap2⟩), .agg (valVC ⟨kd, nm, .slice A1 np cap1⟩)] W' fun e w' => e = .returned (.bool true) ∧ Below W'.heap.size W' w' := fun W' A2 cap2 hb hp2 => by
                  have cs := rsame26 W' kd nm kd nm A2 A1 np np cap2 cap1 ps ps hp2 (SlR.below hP6 hb) (by omega) (by omega)
                  rw [decide_eq_true ⟨rfl, rfl, rfl⟩] at cs
                  exact cs
                have hcv : ∀ W', Below W6.heap.size W6 W' → Calls Tryz.prog 24 #[.pointer (some ⟨g, 0, none⟩)] W' fun e w' => ∃ A cap, e = .returned (.agg (valVC ⟨kd, nm, .slice A np cap⟩)) ∧ Own w' W'.heap.size 98 2 A np cap (ps.map pairC) ∧ Below W'.heap.size W' w' := fun W' hb => cv W' (m.id :: I) (hV6.below hb)
                have mk : ∀ w' : World, Below W6.heap.size W6 w' → w'.cell? ⟨go, 0, none⟩ = some (.int .i64 o.k) ∧ rowAt w' gv 0 3 = some (valVC ⟨kd, nm, .slice A1 np cap1⟩) ∧ Below W6.heap.size W6 w' := fun w' hb =>
                  ⟨(hb.cell (p := ⟨go, 0, none⟩) (World.block_lt_of_cell? W6 _ hk6)).trans hk6, (rowAt_of_block (hb.block gv (rowAt_lt hval6)) _ _).trans hval6, hb⟩
                have Hcs := Lib.hid hcs
                have Hcv := Lib.hid hcv
                have Mk := Lib.hid mk
                clear hcs hcv mk
                refine wp_region_tree (.loose 0 (.loose 1 (.loose 2 (.loose 3 (.loose 4 (.loose 6 (.one 5 (.one 7 (.loose 8 (.loose 9 (.loose 10 (.loose 11 (.loose 12 (.loose 13 (.loose 14 (.loose 15 (.loose 17 (.one 16 (.one 18 (.loose 19 (.loose 20 .done))))))))))))))))))))) (Bel W6) false (by kernel_rfl) (by kernel_rfl) (by kernel_rfl) (by kernel_rfl) (bel_drew W6) ?_
                have hne := bel_some W6
                have hS := bel_drew W6
                have b1 := sub_cell hk6; have b2 := sub_row hval6
                repeat (refine wpTx_loose rfl ?_ ?_; (focus (simp only [chainOp]; done)); intro K hK; go_simp; refine hK _ ?_; clear hK K)
                refine wpTx_one ?_ rfl ?_ ?_
                focus (exact hS)
                focus (simp only [chainOp]; done)
                intro K hK
                go_simp
                refine (cbb _).mono ?_
                rintro e w' ⟨rfl, rfl⟩
                refine ⟨_, rfl, hS, hK _ _ ?_⟩
                clear hK K
                refine wpTx_one ?_ rfl ?_ ?_
                focus (exact hS)
                focus (simp only [chainOp]; done)
                intro K hK
                go_simp
                refine (ckk _).mono ?_
                rintro e w' ⟨rfl, hb⟩
                replace hS := bel_next hS hb
                refine ⟨_, rfl, hS, hK _ _ ?_⟩
                clear hK K hb
                repeat (refine wpTx_loose rfl ?_ ?_; (focus (simp only [chainOp]; done)); intro K hK; go_simp; refine hK _ ?_; clear hK K)
                refine wpTx_one ?_ rfl ?_ ?_
                focus (exact hS)
                focus (simp only [chainOp]; done)
                intro K hK
                go_simp
                refine (Hcv.out _ hS).mono ?_; rintro e w7 ⟨A2, cap2, rfl, hown2, hb7⟩
                replace hS := bel_next hS hb7
                refine ⟨_, rfl, hS, hK _ _ ?_⟩
                clear hK K hb7
                refine wpTx_one ?_ rfl ?_ ?_
                focus (exact hS)
                focus (simp only [chainOp]; done)
                intro K hK
                go_simp
                refine (Hcs.out _ _ _ hS hown2.slr).mono ?_; rintro e w8 ⟨rfl, hb8⟩
                have hB8 := bel_next hS hb8
                refine ⟨_, rfl, hB8, hK _ _ ?_⟩
                clear hK K hb8 hS
                repeat (refine wpTx_loose rfl ?_ ?_; (focus (simp only [chainOp]; done)); intro K hK; go_simp; refine hK _ ?_; clear hK K)
                refine wpTx_done ?_
                intro hS
                clear hS hne b2 hown2
                clear b1
                all_goals
                  have hVz := hV6.below hB8
                  have hbz := bel2 hbr6 hB8
                  have hlz : (s).len ≤ i + 1 := (Nat.le_succ_of_le Hl1.out)
                  have hkz : (s).kind = kindB t := Hk1.out
                  have Hlz := Lib.hid hlz
                  have Hkz := Lib.hid hkz
                  clear hV6 hbr6 hval6 hP6 hk6 hlz hkz hB8
                  go_wp2_with fail
                  go_roundw
                  case rel => exact ⟨i + 1, (m.id :: I), s, by omega, by go_num, hVz, Hkz, Hlz, hbz⟩
                  case measure => simp [intOf]; omega
            · have hns : foldS t m s = s := if_neg (fun hf => h0 (hfit.1 hf).1)
              rw [hns] at hV5
              clear hns
              have hVe := hbad h0
              subst hVe
              obtain ⟨E, hE⟩ : ∃ E, opE lb = E := ⟨_, rfl⟩
              rw [hE] at h0 ⊢
              have hE0 : (E == 0) = false := by simpa using h0
              have hE1 : (E != 0) = true := by simpa using h0
              clear hok hbad hE h0 hfit
              have hb6 : Below w5.heap.size w5 (w5.alloc (.cells (opPC opP0) 52)) := (Below.refl _ _).alloc (Nat.le_refl _) _
              have hV6 := hV5.below hb6
              have hval6 := (rowAt_of_block (hb6.block gv (rowAt_lt hval5)) _ _).trans hval5
              have hP6 : PairsIn _ A1 np ps := SlR.below hP5 hb6
              have hbr6 := bel2 hbr5 hb6
              have hop6 : rowAt (w5.alloc (.cells (opPC opP0) 52)) w5.heap.size 0 37 = some (opPC opP0) := by simp [go_sem]
              have hk6 := rowAt_cell hop6 (j := 0) (by omega)
              rw [opPC_g0, Nat.zero_add] at hk6
              clear hV5 hval5 hP5 hbr5 hb6 hop6
              go_upto_region 14 with fail
              obtain ⟨go, hgo⟩ : ∃ go, w5.heap.size = go := ⟨_, rfl⟩
              obtain ⟨W6, hW6⟩ : ∃ W6, W6 = w5.alloc (.cells (opPC opP0) 52) := ⟨_, rfl⟩
              rw [← hW6] at hV6 hval6 hP6 hbr6 hk6 ⊢
              rw [hgo] at hk6 ⊢
              clear hW6 hgo
              have hcs : ∀ W' A2 cap2, Below W6.heap.size W6 W' → PairsIn W' A2 np ps → Calls Tryz.prog 15 #[.agg (valVC ⟨kd, nm, .slice A2 np cap2⟩), .agg (valVC ⟨kd, nm, .slice A1 np cap1⟩)] W' fun e w' => e = .returned (.bool true) ∧ Below W'.heap.size W' w' := fun W' A2 cap2 hb hp2 => by
                have cs := rsame26 W' kd nm kd nm A2 A1 np np cap2 cap1 ps ps hp2 (SlR.below hP6 hb) (by omega) (by omega)
                rw [decide_eq_true ⟨rfl, rfl, rfl⟩] at cs
                exact cs
              have hcv : ∀ W', Below W6.heap.size W6 W' → Calls Tryz.prog 24 #[.pointer (some ⟨g, 0, none⟩)] W' fun e w' => ∃ A cap, e = .returned (.agg (valVC ⟨kd, nm, .slice A np cap⟩)) ∧ Own w' W'.heap.size 98 2 A np cap (ps.map pairC) ∧ Below W'.heap.size W' w' := fun W' hb => cv W' (m.id :: I) (hV6.below hb)
              have mk : ∀ w' : World, Below W6.heap.size W6 w' → w'.cell? ⟨go, 0, none⟩ = some (.int .i64 0) ∧ rowAt w' gv 0 3 = some (valVC ⟨kd, nm, .slice A1 np cap1⟩) ∧ Below W6.heap.size W6 w' := fun w' hb =>
                ⟨(hb.cell (p := ⟨go, 0, none⟩) (World.block_lt_of_cell? W6 _ hk6)).trans hk6, (rowAt_of_block (hb.block gv (rowAt_lt hval6)) _ _).trans hval6, hb⟩
              have Hcs := Lib.hid hcs
              have Hcv := Lib.hid hcv
              have Mk := Lib.hid mk
              clear hcs hcv mk
              refine wp_region_tree (.loose 0 (.loose 1 (.loose 2 (.loose 3 (.loose 4 (.loose 6 (.one 5 (.one 7 (.loose 8 (.loose 9 (.loose 10 (.loose 11 (.loose 12 (.loose 13 (.loose 14 (.loose 15 (.loose 17 (.one 16 (.one 18 (.loose 19 (.loose 20 .done))))))))))))))))))))) (Bel W6) false (by kernel_rfl) (by kernel_rfl) (by kernel_rfl) (by kernel_rfl) (bel_drew W6) ?_
              have hne := bel_some W6
              have hS := bel_drew W6
              have b2 := sub_row hval6
              repeat (refine wpTx_loose rfl ?_ ?_; (focus (simp only [chainOp]; done)); intro K hK; go_simp; refine hK _ ?_; clear hK K)
              refine wpTx_one ?_ rfl ?_ ?_
              focus (exact hS)
              focus (simp only [chainOp]; done)
              intro K hK
              go_simp
              refine hK _ _ ?_
              clear hK K
              refine wpTx_one ?_ rfl ?_ ?_
              focus (exact hS)
              focus (simp only [chainOp]; done)
              intro K hK
              go_simp
              refine hK _ _ ?_
              clear hK K
              repeat (refine wpTx_loose rfl ?_ ?_; (focus (simp only [chainOp]; done)); intro K hK; go_simp; refine hK _ ?_; clear hK K)
              refine wpTx_one ?_ rfl ?_ ?_
              focus (exact hS)
              focus (simp only [chainOp]; done)
              intro K hK
              go_simp
              refine (Hcv.out _ hS).mono ?_; rintro e w7 ⟨A2, cap2, rfl, hown2, hb7⟩
              replace hS := bel_next hS hb7
              refine ⟨_, rfl, hS, hK _ _ ?_⟩
              clear hK K hb7
              refine wpTx_one ?_ rfl ?_ ?_
              focus (exact hS)
              focus (simp only [chainOp]; done)
              intro K hK
              go_simp
              refine (Hcs.out _ _ _ hS hown2.slr).mono ?_; rintro e w8 ⟨rfl, hb8⟩
              have hB8 := bel_next hS hb8
              refine ⟨_, rfl, hB8, hK _ _ ?_⟩
              clear hK K hb8 hS
              repeat (refine wpTx_loose rfl ?_ ?_; (focus (simp only [chainOp]; done)); intro K hK; go_simp; refine hK _ ?_; clear hK K)
              refine wpTx_done ?_
              intro hS
              clear hS hne b2 hown2
              all_goals
                have hVz := hV6.below hB8
                have hbz := bel2 hbr6 hB8
                have hlz : (s).len ≤ i + 1 := (Nat.le_succ_of_le Hl1.out)
                have hkz : (s).kind = kindB t := Hk1.out
                have Hlz := Lib.hid hlz
                have Hkz := Lib.hid hkz
                clear hV6 hbr6 hval6 hP6 hk6 hlz hkz hB8
                go_wp2_with fail
                go_roundw
                case rel => exact ⟨i + 1, (m.id :: I), s, by omega, by go_num, hVz, Hkz, Hlz, hbz⟩
                case measure => simp [intOf]; omega
        · clear hrows
          go_wp2_with fail
          refine (awake26 _ (hp.below hbr)).mono ?_; rintro e w9 ⟨rfl, hb9⟩
          go_wp2_with fail
          go_ret
          exact ⟨rfl, bel2 hbr hb9⟩

end Go.Proofs.YtgfpjjppeldhbaaGreatDoor

/- The frame of a tied law of the view: what the row's premise on the one variable gives a walk. -/
namespace Go.Proofs.YtgfpjjppeldhbaaGreatDoor
open Go.ChangeShapes Go.WideShapes Go.RowKit

theorem parts_of_laid {W : World} (h : laidMetH Tryz.prog [("petrel/op.parts", Rows.laid_petrel_op_parts)] W) : PartsVar W := by
  have h' : laidMet Tryz.prog [("petrel/op.parts", Lib.tabData .i64 [0, 1, 4, 20, 7, 22, 12, 8])] W := h
  have hT := Lib.tabIs_of_head (P := Tryz.prog) (g := 0) (t := 285) (e := 3) (n := 8) (by kernel_rfl) (by kernel_rfl) Tryz.underlying285 Tryz.underlying3 (by kernel_rfl) (by kernel_rfl) h'
  intro k hk
  have hc := hT.cell (g := 0) (by kernel_rfl) k (by simpa using hk)
  rw [hc]
  have h8 : k = 0 ∨ k = 1 ∨ k = 2 ∨ k = 3 ∨ k = 4 ∨ k = 5 ∨ k = 6 ∨ k = 7 := by omega
  rcases h8 with rfl | rfl | rfl | rfl | rfl | rfl | rfl | rfl <;> rfl

/-- A world that meets the premise: the settled one, the table laid. -/
def laidWorld (P : Program) (os : Os) : World := (World.holding P os ⟨#[], #[], []⟩).setRow 0 #[.int .i64 0, .int .i64 1, .int .i64 4, .int .i64 20, .int .i64 7, .int .i64 22, .int .i64 12, .int .i64 8]
theorem laidWorld_met (os : Os) (args : Array Value) : laidMetH Tryz.prog [("petrel/op.parts", Rows.laid_petrel_op_parts)] ((laidWorld Tryz.prog os).forCall (fun _ _ => 0) ⟨#[], args, []⟩).memory := by
  show laidMet Tryz.prog [("petrel/op.parts", Rows.laid_petrel_op_parts)] _
  exact laidMet_of_run' 8 (by kernel_rfl) (by kernel_rfl)
theorem trodVars_nil {H : Type} {enc : TypeId × Value → H} {P : Program} {w : World} {g : Nat → Bool} {gs : List (DataW H)} {q : List MemPlace} (hV : DataW.TrodVars enc P w g [] gs q) : gs = [] ∧ q = [] := by
  cases gs with
  | nil => exact ⟨rfl, hV⟩
  | cons g r => exact absurd hV (by intro h; cases h)

end Go.Proofs.YtgfpjjppeldhbaaGreatDoor
