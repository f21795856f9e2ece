/- Package bag: a bag as bytes: lay, Put. -/
import Derived.Test.YtlonihfhgfmplaaBagP
import Derived.Test.YtlonihfhgfmplaaOct
namespace Go.Proofs.Ytlonihfhgfmplaa
open Go.RowKit

def rowB (x : BRow) : List UInt8 := x.tag.l ++ (beL 1 x.val.size ++ x.val.data.toList)
def rowsB (L : List BRow) : List UInt8 := beL 4 L.length ++ L.flatMap rowB
def putB (L G : List BRow) : List UInt8 := rowsB L ++ rowsB G
theorem rowB_len (x : BRow) : (rowB x).length = 33 + x.val.size := by
  have e : x.val.data.toList.length = x.val.size := Array.length_toList
  simp [rowB, beL_length, x.tag.h]; omega
theorem rowsB_len {L : List BRow} (h : ∀ x ∈ L, small x) : (rowsB L).length ≤ 49 * L.length + 4 := by
  have := flatMap_len rowB 49 L (fun x hx => by rw [rowB_len]; have := h x hx; unfold small at this; omega)
  unfold rowsB
  rw [List.length_append, beL_length]; omega
theorem id_string {w : World} {q o c : Nat} {d : Id32} (h : rowAt w q o 32 = some (idC d)) : (convert 100 9 (.slice (some ⟨q, o, none⟩) 32 c)).run Try.prog w = .ok (.string ⟨d.l.toArray⟩) w := by
  have := run_convert_bytes_back (P := Try.prog) w 100 9 5 ⟨q, o, none⟩ c d.l Try.underlying100 Try.underlying5 Try.underlying9 (fun j hj => by
    have hadd : (⟨q, o, none⟩ : Addr).add j = ⟨q, o + j, none⟩ := by unfold Addr.add; split <;> simp_all
    have hd := d.h
    rw [hadd, rowAt_cell h (by omega)]
    simp [idC, byteC, hj])
  rwa [d.h] at this
abbrev RowsAt (w : World) (A : Option Addr) (n : Nat) (R : List BRow) : Prop := SlR w A n 33 (R.map bRowC)
theorem WStep.refl {w : World} {B g : Nat} {A : Option Addr} {cap : Nat} {bs : List UInt8} (h : WrAt w B g A cap bs) : WStep w B g A bs w := ⟨A, cap, h, Keep.refl _ _, fun x hx => .inl hx⟩

set_option maxRecDepth 100000 in
set_option maxHeartbeats 4000000 in
theorem blay (w : World) (B gw : Nat) (A : Option Addr) (cap : Nat) (bs : List UInt8) (h : WrAt w B gw A cap bs) (SA : Option Addr) (sc : Nat) (L : List BRow) (hL : RowsAt w SA L.length L) (hsm : ∀ x ∈ L, small x) (hd : ∀ x ∈ blk SA, x ∉ gw :: blk A) (hn : L.length ≤ 1000000) (hbs : bs.length ≤ 100000000) :
    Calls Try.prog 71 #[.pointer (some ⟨gw, 0, none⟩), .slice SA L.length sc] w fun e w' => e = .returned (.tuple #[]) ∧ WStep w B gw A (bs ++ rowsB L) w' := by
  have c1 := wnum w B gw A cap bs h L.length 4 (by omega) (by omega) (by omega)
  go_enter Try.func71, Try.ntmps71
  go_wp2_with fail
  refine c1.mono ?_; rintro e w1 ⟨rfl, hst1⟩
  clear c1
  have hst1' : WStep w B gw A (bs ++ beL 4 L.length ++ (L.take 0).flatMap rowB) w1 := by simpa using hst1
  clear hst1
  go_wp2_with fail
  go_loopw [12] (fun i wr => ∃ k : Nat, k ≤ L.length ∧ i = .int .i64 (k : Nat) ∧ WStep w B gw A (bs ++ beL 4 L.length ++ (L.take k).flatMap rowB) wr) (fun i _ => L.length - (intOf i).toNat)
  case atStart => exact ⟨0, Nat.zero_le _, rfl, hst1'⟩
  case round =>
    obtain ⟨k, hk, rfl, A4, cap4, hw4, hk4, hsub4⟩ := hrel
    have hbl := flatMap_len rowB 49 (L.take k) (fun x hx => by rw [rowB_len]; have := hsm x (List.mem_of_mem_take hx); unfold small at this; omega)
    have htl : (L.take k).length = k := by simp; omega
    rw [htl] at hbl
    by_cases hlt : k < L.length
    · have hLr := hL.kept hk4 hd
      obtain ⟨q, o, rfl, hr⟩ := hLr.at_ hlt
      rw [List.getElem_map] at hr
      have hsx := hsm L[k] (List.getElem_mem hlt)
      have htk : (L.take (k + 1)).flatMap rowB = (L.take k).flatMap rowB ++ rowB L[k] := by rw [List.take_add_one, List.getElem?_eq_getElem hlt, List.flatMap_append]; simp only [Option.toList_some, List.flatMap_cons, List.flatMap_nil, List.append_nil]
      obtain ⟨x, hx⟩ : ∃ x, L[k]'hlt = x := ⟨_, rfl⟩
      rw [hx] at hr hsx htk
      have Htk := Lib.hid htk
      unfold small at hsx
      clear hx htk hLr
      have hbl0 : (bs ++ beL 4 L.length ++ (L.take k).flatMap rowB).length ≤ 200000000 := by rw [List.length_append, List.length_append, beL_length]; omega
      obtain ⟨bs0, hbs0⟩ : ∃ bs0, bs ++ beL 4 L.length ++ (L.take k).flatMap rowB = bs0 := ⟨_, rfl⟩
      have Hbs0 := Lib.hid hbs0
      rw [hbs0] at hw4 hbl0
      have e1 : x.val.data.toList.length = x.val.size := Array.length_toList
      have e3 : (⟨x.tag.l.toArray⟩ : ByteArray).size = 32 := by show x.tag.l.toArray.size = 32; simp [x.tag.h]
      have e4 : (⟨x.tag.l.toArray⟩ : ByteArray).data.toList = x.tag.l := by simp
      have e5 : x.tag.l.length = 32 := x.tag.h
      have E1 := Lib.hid e1; have E3 := Lib.hid e3; have E4 := Lib.hid e4; have E5 := Lib.hid e5
      clear hbs0 e1 e3 e4 e5
      go_upto_region 4 with fail
      have hw5 := hw4.below (w' := wr.alloc (.cells (bRowC x) 120)) ((Below.refl _ _).alloc (Nat.le_refl _) _)
      have hbox : rowAt (wr.alloc (.cells (bRowC x) 120)) wr.heap.size 0 33 = some (bRowC x) := by simp [go_sem]
      have hk5 : Keep [] wr (wr.alloc (.cells (bRowC x) 120)) := Keep.alloc _ _
      have hbS : wr.heap.size ∉ gw :: blk A4 := by
        simp only [List.mem_cons, not_or]
        exact ⟨by have := hw4.lt; omega, fun hx => by have := (hw4.own.at_base hx).2; omega⟩
      generalize wr.alloc (.cells (bRowC x) 120) = W at *
      have hx0 : W.cell? ⟨wr.heap.size, 32, none⟩ = some (.string x.val) := by have := rowAt_cell hbox (j := 32) (by omega); rwa [bRowC_g32, Nat.zero_add] at this
      have hx2 : rowAt W wr.heap.size 0 32 = some (idC x.tag) := by have := rowAt_sub hbox (j := 0) (m := 32) (by omega); rwa [bRowC_e0] at this
      have hconv : ∀ (y : Subtype (Kp (gw :: blk A4) W)) c, (convert 100 9 (.slice (some ⟨wr.heap.size, 0, none⟩) 32 c)).run Try.prog y.1 = .ok (.string ⟨x.tag.l.toArray⟩) y.1 := fun y c => id_string (ksub_row hx2 hbS y)
      have hst : WStep W B gw A4 bs0 W.drew := ⟨A4, cap4, hw5.kept (Keep.drew W) (by simp) (by simp), (Keep.drew W).mono (by simp), fun x hx => .inl hx⟩
      refine wp_region_lex (Kp (gw :: blk A4) W) false (by kernel_rfl) (by kernel_rfl) (by kernel_rfl) (kp_drew (gw :: blk A4) W) ?_
      have hne := kp_some (gw :: blk A4) W
      have hS := kp_drew (gw :: blk A4) W
      have b1 := ksub_cell hx0 hbS
      clear hx0 hx2 hbox hr
      repeat (refine wpLx_loose ?_ ?_; (focus (simp only [chainOp]; done)); intro K hK; go_simp; refine hK _ ?_; clear hK K)
      refine wpLx_chain ?_ ?_ ?_
      focus (exact hS)
      focus (simp only [chainOp]; done)
      intro K hK
      go_simp
      obtain ⟨Ai, capi, hwi, hki, hsubi⟩ := hst
      refine (wraw _ _ _ _ _ _ hwi ⟨x.tag.l.toArray⟩ (by rw [E3.out]; omega)).mono ?_
      rintro e w' ⟨rfl, hst'⟩
      replace hst := wstep_trans hwi hki hsubi hst'
      have hS := hst.choose_spec.choose_spec.2.1
      refine ⟨_, rfl, hS, hK _ _ ?_⟩
      clear hK K hwi hki hsubi hst'
      repeat (refine wpLx_loose ?_ ?_; (focus (simp only [chainOp]; done)); intro K hK; go_simp; refine hK _ ?_; clear hK K)
      refine wpLx_chain ?_ ?_ ?_
      focus (exact hS)
      focus (simp only [chainOp]; done)
      intro K hK
      go_simp
      obtain ⟨Ai, capi, hwi, hki, hsubi⟩ := hst
      refine (wnum _ _ _ _ _ _ hwi x.val.size 1 (by omega) (by omega) (by rw [E4.out, List.length_append, E5.out]; omega)).mono ?_
      rintro e w' ⟨rfl, hst'⟩
      replace hst := wstep_trans hwi hki hsubi hst'
      have hS := hst.choose_spec.choose_spec.2.1
      refine ⟨_, rfl, hS, hK _ _ ?_⟩
      clear hK K hwi hki hsubi hst'
      repeat (refine wpLx_loose ?_ ?_; (focus (simp only [chainOp]; done)); intro K hK; go_simp; refine hK _ ?_; clear hK K)
      refine wpLx_chain ?_ ?_ ?_
      focus (exact hS)
      focus (simp only [chainOp]; done)
      intro K hK
      go_simp
      obtain ⟨Ai, capi, hwi, hki, hsubi⟩ := hst
      refine (wraw _ _ _ _ _ _ hwi x.val (by rw [E4.out, List.length_append, List.length_append, E5.out, beL_length]; omega)).mono ?_
      rintro e w' ⟨rfl, hst'⟩
      replace hst := wstep_trans hwi hki hsubi hst'
      have hS := hst.choose_spec.choose_spec.2.1
      refine ⟨_, rfl, hS, hK _ _ ?_⟩
      clear hK K hwi hki hsubi hst'
      repeat (refine wpLx_loose ?_ ?_; (focus (simp only [chainOp]; done)); intro K hK; go_simp; refine hK _ ?_; clear hK K)
      refine wpLx_nil ?_
      intro hS
      have heq : bs0 ++ (⟨x.tag.l.toArray⟩ : ByteArray).data.toList ++ beL 1 x.val.size ++ x.val.data.toList = bs ++ beL 4 L.length ++ (L.take (k + 1)).flatMap rowB := by
        rw [Htk.out, E4.out, ← List.append_assoc, Hbs0.out]
        simp [rowB, List.append_assoc]
      rw [heq] at hst
      have hst2 := wstep_trans hw4 hk4 hsub4 (wstep_trans hw5 (hk5.mono (S' := gw :: blk A4) (by simp)) (fun x hx => .inl hx) hst)
      have Hst := Lib.hid hst2
      clear hst hst2 heq hconv hne b1 hS
      go_wp2_with fail
      go_roundw
      case rel => exact ⟨k + 1, by omega, by go_num, Hst.out⟩
      case measure => simp [intOf]; omega
    · have hkL : L.take k = L := List.take_of_length_le (by omega)
      rw [hkL] at hw4
      go_wp2_with fail
      go_end0
      exact ⟨rfl, A4, cap4, by unfold rowsB; rw [← List.append_assoc]; exact hw4, hk4, hsub4⟩

set_option maxRecDepth 100000 in
set_option maxHeartbeats 2000000 in
theorem bput (w : World) (g bl bg : Nat) (L G : List BRow) (h : BagAt w g bl bg L G) (hn : L.length ≤ 1000000) (hg : G.length ≤ 1000000) :
    Calls Try.prog 40 #[.pointer (some ⟨g, 0, none⟩)] w fun e w' => e = .returned (.string ⟨(putB L G).toArray⟩) ∧ Below w.heap.size w w' := by
  have hc := h.cell0
  go_enter Try.func40, Try.ntmps40
  go_wp2_with fail
  refine (bnone_live _ _ _ hc).mono ?_; rintro e w' ⟨rfl, rfl⟩
  go_wp2_with fail
  refine (wnew _).mono ?_; rintro e w1 ⟨rfl, hw1, hb1⟩
  have h1 := h.below hb1
  have hc1 := h1.cell0
  clear hc
  go_wp2_with fail
  refine (bsorted _ _ _ h1.live h1.risL hn).mono ?_; rintro e w2 ⟨RA, rc, rfl, hrow, hb2⟩
  have h2 := h1.below hb2
  have hw2 := hw1.below hb2
  have hb02 := bel2 hb1 hb2
  have hl := hw1.lt
  go_wp2_with fail
  refine (blay w2 _ _ _ _ _ hw2 RA rc L hrow.slr h2.smL (fun x hx => by have := (hrow.at_base hx).1; simp [blk]; omega) hn (by simp)).mono ?_; rintro e w3 ⟨rfl, A3, cap3, hw3, hk3, hsub3⟩
  have hglt := h.lt
  have h3 := h2.kept hk3 (by simp [blk]; omega) (by simp [blk]; omega) (by simp [blk]; omega)
  have hb03 : Below w.heap.size w w3 := hb02.trans (hk3.below (by have := hb02.size; omega) (by simp [blk]))
  have hc3 := h3.cell1
  have hlen3 := rowsB_len h.smL
  simp only [List.nil_append] at hw3
  clear hrow hw1 hw2 h1 h2 hk3 hb1 hb2 hc1
  go_wp2_with fail
  refine (bsorted _ _ _ h3.gone h3.risG hg).mono ?_; rintro e w4 ⟨RA2, rc2, rfl, hrow2, hb4⟩
  have h4 := h3.below hb4
  have hw4 := hw3.below hb4
  have hb04 := bel2 hb03 hb4
  go_wp2_with fail
  refine (blay w4 _ _ _ _ _ hw4 RA2 rc2 G hrow2.slr h4.smG (fun x hx => by
    have h1 := (hrow2.at_base hx).1
    simp only [List.mem_cons, not_or]
    exact ⟨by have := hw3.lt; omega, fun hx' => by have := (hw3.own.at_base hx').2; omega⟩) hg (by omega)).mono ?_; rintro e w5 ⟨rfl, A5, cap5, hw5, hk5, hsub5⟩
  have hb05 : Below w.heap.size w w5 := hb04.trans (hk5.below (by have := hb04.size; omega) (fun x hx => by
    rcases List.mem_cons.1 hx with rfl | hx
    · omega
    · have := (hw3.own.at_base hx).1; omega))
  clear hrow2 hw4 h4 hk5 hc3 hb4
  go_wp2_with fail
  refine (wdone _ _ _ _ _ _ hw5).mono ?_; rintro e w' ⟨rfl, rfl⟩
  go_wp2_with fail
  go_ret
  exact ⟨rfl, hb05⟩

end Go.Proofs.Ytlonihfhgfmplaa
