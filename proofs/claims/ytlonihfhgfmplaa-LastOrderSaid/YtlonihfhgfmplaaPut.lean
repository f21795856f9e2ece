/- Package last: Put. -/
import Derived.Test.YtlonihfhgfmplaaLastL
import Derived.Test.YtlonihfhgfmplaaOct
namespace Go.Proofs.Ytlonihfhgfmplaa
open Go.RowKit

def rowB (p : LRow) : List UInt8 := beL 1 p.1.size ++ (p.1.data.toList ++ (beL 1 p.2.val.size ++ (p.2.val.data.toList ++ (beL 4 p.2.n.toNat ++ p.2.id.l))))
def putB (L : List LRow) : List UInt8 := beL 4 L.length ++ L.flatMap rowB

theorem rowB_length {p : LRow} (h : checkE p.1 p.2 = 0) : (rowB p).length ≤ 70 := by
  have := checkE_bd h
  have h1 : p.1.data.toList.length = p.1.size := Array.length_toList
  have h2 : p.2.val.data.toList.length = p.2.val.size := Array.length_toList
  have h3 := p.2.id.h
  simp only [rowB, List.length_append, beL_length, h1, h2, h3]
  omega
theorem rows_length : ∀ (L : List LRow), (∀ p ∈ L, checkE p.1 p.2 = 0) → (L.flatMap rowB).length ≤ 70 * L.length
  | [], _ => by simp
  | p :: L, h => by
    have h1 := rowB_length (h p (by simp))
    have h2 := rows_length L (fun q hq => h q (by simp [hq]))
    simp only [List.flatMap_cons, List.length_append, List.length_cons]
    omega

theorem LastAt.len {w : World} {g b : Nat} {L : List LRow} (h : LastAt w g b L) (ty : TypeId) : (Builtin.len_ #[47] ty #[.map (some b)]).run Try.prog w = .ok (.int .i64 L.length) w := by
  obtain ⟨M, es, clk, hm, hp⟩ := h.map
  rw [← hp.length_eq]
  exact hm.len Try.underlying47 rfl

theorem id_string {w : World} {q o c : Nat} {d : Id32} (h : rowAt w q o 32 = some (idC d)) : (convert 100 9 (.slice (some ⟨q, o, none⟩) 32 c)).run Try.prog w = .ok (.string ⟨d.l.toArray⟩) w := by
  have := run_convert_bytes_back (P := Try.prog) w 100 9 5 ⟨q, o, none⟩ c d.l Try.underlying100 Try.underlying5 Try.underlying9 (fun j hj => by
    have hadd : (⟨q, o, none⟩ : Addr).add j = ⟨q, o + j, none⟩ := by unfold Addr.add; split <;> simp_all
    have hd := d.h
    rw [hadd, rowAt_cell h (by omega)]
    simp [idC, byteC, hj])
  rwa [d.h] at this

set_option maxRecDepth 100000 in
set_option maxHeartbeats 4000000 in
theorem lput (w : World) (g b : Nat) (L : List LRow) (h : LastAt w g b L) (hn : L.length ≤ 1000000) :
    Calls Try.prog 22 #[.pointer (some ⟨g, 0, none⟩)] w fun e w' => e = .returned (.string ⟨(putB L).toArray⟩) ∧ Below w.heap.size w w' := by
  have hc := h.cell
  go_enter Try.func22, Try.ntmps22
  go_wp2_with fail
  refine (lnone_live _ _ _ hc).mono ?_; rintro e w' ⟨rfl, rfl⟩
  go_upto_region 3 with fail
  have hlen : ∀ (x : Subtype (Bel w)) (ty : TypeId), (Builtin.len_ #[47] ty #[.map (some b)]).run Try.prog x.1 = .ok (.int .i64 L.length) x.1 := fun x ty => (h.below x.2).len ty
  refine wp_region_lex (Bel w) false (by kernel_rfl) (by kernel_rfl) (by kernel_rfl) (bel_drew w) ?_
  have hne := bel_some w
  have hS := bel_drew w
  have b1 := sub_cell hc
  refine wpLx_chain ?_ ?_ ?_
  focus (exact hS)
  focus (simp only [chainOp]; done)
  intro K hK
  go_simp
  refine (wnew _).mono ?_
  rintro e w1 ⟨rfl, hw1, hb1⟩
  replace hS := bel_next hS hb1
  have hg1 : w.drew.heap.size = w.heap.size := rfl
  rw [hg1] at hw1 ⊢
  clear hb1
  refine ⟨_, rfl, hS, hK _ _ ?_⟩
  clear hK K
  repeat (refine wpLx_loose ?_ ?_; (focus (simp only [chainOp]; done)); intro K hK; go_simp; refine hK _ ?_; clear hK K)
  refine wpLx_chain ?_ ?_ ?_
  focus (exact hS)
  focus (simp only [chainOp]; done)
  intro K hK
  go_simp
  refine (wnum _ _ _ _ _ _ hw1 L.length 4 (by omega) (by omega) (by simp)).mono ?_
  rintro e w2 ⟨rfl, A2, cap2, hw2, hk2, hsub2⟩
  have hS2 : Below w.heap.size w w2 := hS.trans (hk2.below hS.size (by simp [blk]))
  refine ⟨_, rfl, hS2, hK _ _ ?_⟩
  clear hK K hS
  repeat (refine wpLx_loose ?_ ?_; (focus (simp only [chainOp]; done)); intro K hK; go_simp; refine hK _ ?_; clear hK K)
  refine wpLx_nil ?_
  intro hS
  simp only [List.nil_append] at hw2
  have hB : w.heap.size + 1 ≤ w2.heap.size := hw2.base
  have h2 := h.below hS2
  have hc2 := h2.cell
  clear hw1 hk2 hsub2 hne b1 hlen hc hS
  go_wp2_with fail
  refine (lkeys _ _ _ _ h2 hn).mono ?_; rintro e w3 ⟨v, rfl, hrow, hb3⟩
  obtain ⟨KA, kc, rfl, hkeys⟩ := row_keys hrow rfl
  have h3 := h2.below hb3
  have hw3 := hw2.below hb3
  have hS3 := bel2 hS2 hb3
  have Hk := Lib.hid hkeys
  have Hb3 := Lib.hid hb3
  have hq3 : w.heap.size < w3.heap.size := by have := hb3.size; omega
  clear hkeys hrow hc2 h2 hb3 hS2
  go_wp2_with fail
  go_loopw [24] (fun i wr => ∃ k : Nat, k ≤ L.length ∧ i = .int .i64 (k : Nat) ∧ WStep w3 (w.heap.size + 1) w.heap.size A2 (beL 4 L.length ++ (L.take k).flatMap rowB) wr) (fun i _ => L.length - (intOf i).toNat)
  case atStart => exact ⟨0, Nat.zero_le _, rfl, A2, cap2, by simpa using hw3, Keep.refl _ _, fun x hx => .inl hx⟩
  case round =>
    obtain ⟨k, hk, rfl, A4, cap4, hw4, hk4, hsub4⟩ := hrel
    have hgS : g ∉ w.heap.size :: blk A2 := by
      simp only [List.mem_cons, not_or]
      exact ⟨by have := h.lt.1; omega, fun hx => by have := (hw2.own.at_base hx).1; have := h.lt.1; omega⟩
    have hbS : b ∉ w.heap.size :: blk A2 := by
      simp only [List.mem_cons, not_or]
      exact ⟨by have := h.lt.2; omega, fun hx => by have := (hw2.own.at_base hx).1; have := h.lt.2; omega⟩
    have h4 := h3.kept hk4 hgS hbS
    have hc4 := h4.cell
    have hbl := rows_length (L.take k) (fun p hp => h.rows.2 p (List.mem_of_mem_take hp))
    have htl : (L.take k).length = k := by simp; omega
    rw [htl] at hbl
    by_cases hlt : k < L.length
    · obtain ⟨q, rfl, hq2, hqw, hkeys⟩ : ∃ q, KA = some ⟨q, 0, none⟩ ∧ w2.heap.size ≤ q ∧ q < w3.heap.size ∧ Hid (∀ i (hi : i < L.length), w3.cell? ⟨q, i, none⟩ = some (.string (L[i]).1)) := by
        rcases Hk.out with ⟨_, h0⟩ | h
        · omega
        · exact h
      have hqS : q ∉ w.heap.size :: blk A2 := by
        simp only [List.mem_cons, not_or]
        exact ⟨by omega, fun hx => by have := (hw2.own.at_base hx).2; omega⟩
      have hcell := (hk4.cell (p := ⟨q, k, none⟩) hqw hqS).trans (hkeys.out k hlt)
      have hl := h4.look1 (List.getElem_mem hlt)
      have hcheck := h.rows.2 _ (List.getElem_mem hlt)
      have htk : (L.take (k + 1)).flatMap rowB = (L.take k).flatMap rowB ++ rowB L[k] := by rw [List.take_add_one, List.getElem?_eq_getElem hlt, List.flatMap_append]; simp only [Option.toList_some, List.flatMap_cons, List.flatMap_nil, List.append_nil]
      have Htk := Lib.hid htk
      clear htk hkeys Hk
      obtain ⟨⟨pk, pv, pn, pid⟩, hp⟩ : ∃ p, L[k] = p := ⟨_, rfl⟩
      have Hp := Lib.hid hp
      rw [hp] at hcell hl Htk hcheck
      obtain ⟨ck, cv, cn0, cn1⟩ := checkE_bd hcheck
      simp only at ck cv cn0 cn1
      obtain ⟨nn, rfl⟩ : ∃ nn : Nat, pn = nn := ⟨pn.toNat, by omega⟩
      clear hp hcheck
      have hbl0 : (beL 4 L.length ++ List.flatMap rowB (List.take k L)).length ≤ 70000004 := by rw [List.length_append, beL_length]; omega
      obtain ⟨bs0, hbs0⟩ : ∃ bs0, beL 4 L.length ++ List.flatMap rowB (List.take k L) = bs0 := ⟨_, rfl⟩
      have Hbs0 := Lib.hid hbs0
      rw [hbs0] at hw4 hbl0
      have e1 : pk.data.toList.length = pk.size := Array.length_toList
      have e2 : pv.data.toList.length = pv.size := Array.length_toList
      have e3 : (⟨pid.l.toArray⟩ : ByteArray).size = 32 := by show pid.l.toArray.size = 32; simp [pid.h]
      have E1 := Lib.hid e1; have E2 := Lib.hid e2; have E3 := Lib.hid e3
      clear hbs0 e1 e2 e3
      go_upto_region 8 with fail
      have hw5 := hw4.below (w' := wr.alloc (.cells (settingC ⟨pv, nn, pid⟩) 88)) ((Below.refl _ _).alloc (Nat.le_refl _) _)
      have hbox : rowAt (wr.alloc (.cells (settingC ⟨pv, nn, pid⟩) 88)) wr.heap.size 0 34 = some (settingC ⟨pv, nn, pid⟩) := by simp [go_sem]
      have hk5 : Keep [] wr (wr.alloc (.cells (settingC ⟨pv, nn, pid⟩) 88)) := Keep.alloc _ _
      have hbS : wr.heap.size ∉ w.heap.size :: blk A4 := by
        simp only [List.mem_cons, not_or]
        exact ⟨by have := hk4.size; omega, fun hx => by have := (hw4.own.at_base hx).2; omega⟩
      generalize wr.alloc (.cells (settingC ⟨pv, nn, pid⟩) 88) = W at *
      have hx0 : W.cell? ⟨wr.heap.size, 0, none⟩ = some (.string pv) := by have := rowAt_cell hbox (j := 0) (by omega); rwa [settingC_g0] at this
      have hx1 : W.cell? ⟨wr.heap.size, 1, none⟩ = some (.int .i64 nn) := by have := rowAt_cell hbox (j := 1) (by omega); rwa [settingC_g1] at this
      have hx2 : rowAt W wr.heap.size 2 32 = some (idC pid) := by have := rowAt_sub hbox (j := 2) (m := 32) (by omega); rwa [settingC_e2] at this
      have hconv : ∀ (x : Subtype (Kp (w.heap.size :: blk A4) W)) c, (convert 100 9 (.slice (some ⟨wr.heap.size, 2, none⟩) 32 c)).run Try.prog x.1 = .ok (.string ⟨pid.l.toArray⟩) x.1 := fun x c => id_string (ksub_row hx2 hbS x)
      have hst : WStep W (w.heap.size + 1) w.heap.size A4 bs0 W.drew := ⟨A4, cap4, hw5.kept (Keep.drew W) (by simp) (by simp), (Keep.drew W).mono (by simp), fun x hx => .inl hx⟩
      refine wp_region_lex (Kp (w.heap.size :: blk A4) W) false (by kernel_rfl) (by kernel_rfl) (by kernel_rfl) (kp_drew (w.heap.size :: blk A4) W) ?_
      have hne := kp_some (w.heap.size :: blk A4) W
      have hS := kp_drew (w.heap.size :: blk A4) W
      have b1 := ksub_cell hx0 hbS
      have b2 := ksub_cell hx1 hbS
      clear hcell hl hc4 hx0 hx1 hx2 hbox
      repeat (refine wpLx_loose ?_ ?_; (focus (simp only [chainOp]; done)); intro K hK; go_simp; refine hK _ ?_; clear hK K)
      refine wpLx_chain ?_ ?_ ?_
      focus (exact hS)
      focus (simp only [chainOp]; done)
      intro K hK
      go_simp
      obtain ⟨Ai, capi, hwi, hki, hsubi⟩ := hst
      refine (wnum _ _ _ _ _ _ hwi pk.size 1 (by omega) (by omega) (by omega)).mono ?_
      rintro e w' ⟨rfl, hst'⟩
      replace hst := wstep_trans hwi hki hsubi hst'
      have hS := hst.choose_spec.choose_spec.2.1
      refine ⟨_, rfl, hS, hK _ _ ?_⟩
      clear hK K hwi hki hsubi hst'
      repeat (refine wpLx_loose ?_ ?_; (focus (simp only [chainOp]; done)); intro K hK; go_simp; refine hK _ ?_; clear hK K)
      refine wpLx_chain ?_ ?_ ?_
      focus (exact hS)
      focus (simp only [chainOp]; done)
      intro K hK
      go_simp
      obtain ⟨Ai, capi, hwi, hki, hsubi⟩ := hst
      refine (wraw _ _ _ _ _ _ hwi pk (by simp only [List.length_append, beL_length]; omega)).mono ?_
      rintro e w' ⟨rfl, hst'⟩
      replace hst := wstep_trans hwi hki hsubi hst'
      have hS := hst.choose_spec.choose_spec.2.1
      refine ⟨_, rfl, hS, hK _ _ ?_⟩
      clear hK K hwi hki hsubi hst'
      repeat (refine wpLx_loose ?_ ?_; (focus (simp only [chainOp]; done)); intro K hK; go_simp; refine hK _ ?_; clear hK K)
      refine wpLx_chain ?_ ?_ ?_
      focus (exact hS)
      focus (simp only [chainOp]; done)
      intro K hK
      go_simp
      obtain ⟨Ai, capi, hwi, hki, hsubi⟩ := hst
      refine (wnum _ _ _ _ _ _ hwi pv.size 1 (by omega) (by omega) (by simp only [List.length_append, beL_length, E1.out]; omega)).mono ?_
      rintro e w' ⟨rfl, hst'⟩
      replace hst := wstep_trans hwi hki hsubi hst'
      have hS := hst.choose_spec.choose_spec.2.1
      refine ⟨_, rfl, hS, hK _ _ ?_⟩
      clear hK K hwi hki hsubi hst'
      repeat (refine wpLx_loose ?_ ?_; (focus (simp only [chainOp]; done)); intro K hK; go_simp; refine hK _ ?_; clear hK K)
      refine wpLx_chain ?_ ?_ ?_
      focus (exact hS)
      focus (simp only [chainOp]; done)
      intro K hK
      go_simp
      obtain ⟨Ai, capi, hwi, hki, hsubi⟩ := hst
      refine (wraw _ _ _ _ _ _ hwi pv (by simp only [List.length_append, beL_length, E1.out]; omega)).mono ?_
      rintro e w' ⟨rfl, hst'⟩
      replace hst := wstep_trans hwi hki hsubi hst'
      have hS := hst.choose_spec.choose_spec.2.1
      refine ⟨_, rfl, hS, hK _ _ ?_⟩
      clear hK K hwi hki hsubi hst'
      repeat (refine wpLx_loose ?_ ?_; (focus (simp only [chainOp]; done)); intro K hK; go_simp; refine hK _ ?_; clear hK K)
      refine wpLx_chain ?_ ?_ ?_
      focus (exact hS)
      focus (simp only [chainOp]; done)
      intro K hK
      go_simp
      obtain ⟨Ai, capi, hwi, hki, hsubi⟩ := hst
      refine (wnum _ _ _ _ _ _ hwi nn 4 (by omega) (by omega) (by simp only [List.length_append, beL_length, E1.out, E2.out]; omega)).mono ?_
      rintro e w' ⟨rfl, hst'⟩
      replace hst := wstep_trans hwi hki hsubi hst'
      have hS := hst.choose_spec.choose_spec.2.1
      refine ⟨_, rfl, hS, hK _ _ ?_⟩
      clear hK K hwi hki hsubi hst'
      repeat (refine wpLx_loose ?_ ?_; (focus (simp only [chainOp]; done)); intro K hK; go_simp; refine hK _ ?_; clear hK K)
      refine wpLx_chain ?_ ?_ ?_
      focus (exact hS)
      focus (simp only [chainOp]; done)
      intro K hK
      go_simp
      obtain ⟨Ai, capi, hwi, hki, hsubi⟩ := hst
      refine (wraw _ _ _ _ _ _ hwi ⟨pid.l.toArray⟩ (by simp only [List.length_append, beL_length, E1.out, E2.out, E3.out]; omega)).mono ?_
      rintro e w' ⟨rfl, hst'⟩
      replace hst := wstep_trans hwi hki hsubi hst'
      have hS := hst.choose_spec.choose_spec.2.1
      refine ⟨_, rfl, hS, hK _ _ ?_⟩
      clear hK K hwi hki hsubi hst'
      repeat (refine wpLx_loose ?_ ?_; (focus (simp only [chainOp]; done)); intro K hK; go_simp; refine hK _ ?_; clear hK K)
      refine wpLx_nil ?_
      intro hS
      have heq : bs0 ++ beL 1 pk.size ++ pk.data.toList ++ beL 1 pv.size ++ pv.data.toList ++ beL 4 nn ++ (⟨pid.l.toArray⟩ : ByteArray).data.toList = beL 4 L.length ++ (L.take (k + 1)).flatMap rowB := by
        rw [Htk.out, ← List.append_assoc, Hbs0.out]
        simp [rowB, List.append_assoc]
      rw [heq] at hst
      have hst2 := wstep_trans hw4 hk4 hsub4 (wstep_trans hw5 (hk5.mono (S' := w.heap.size :: blk A4) (by simp)) (fun x hx => .inl hx) hst)
      have Hst := Lib.hid hst2
      clear hst hst2 heq hconv hne b1 b2
      go_wp2_with fail
      go_roundw
      case rel => exact ⟨k + 1, by omega, by go_num, Hst.out⟩
      case measure => simp [intOf]; omega
    · have hkL : k = L.length := by omega
      subst hkL
      rw [List.take_length] at hw4
      go_wp2_with fail
      refine (wdone _ _ _ _ _ _ hw4).mono ?_; rintro e w' ⟨rfl, rfl⟩
      go_wp2_with fail
      go_ret
      refine ⟨rfl, hS3.trans (hk4.below (by omega) fun x hx => ?_)⟩
      rcases List.mem_cons.1 hx with rfl | hx
      · omega
      · have := (hw2.own.at_base hx).1; omega

end Go.Proofs.Ytlonihfhgfmplaa
