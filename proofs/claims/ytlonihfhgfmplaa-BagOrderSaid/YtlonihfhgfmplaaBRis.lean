/- Bags: rising rows, long values. -/
import Derived.Test.YtlonihfhgfmplaaBRRead
namespace Go.Proofs.Ytlonihfhgfmplaa
open Go.RowKit Go.Sort Go.Shelf

theorem border (x y : BRow) (w : World) : Calls Try.prog 98 #[.agg (bRowC x), .agg (bRowC y)] w fun e w' => e = .returned (.int .i64 (cmpRow x y)) ∧ Below w.heap.size w w' :=
  (rorder x y w).mono fun _ _ h => ⟨h.1, h.2.below⟩

set_option maxRecDepth 100000 in
set_option maxHeartbeats 1000000 in
theorem rrising (w : World) (A : Option Addr) (n cap : Nat) (R : List BRow) (h : RowsIn w A n R) (hn : n ≤ 4294967296) :
    Calls Try.prog 79 #[.slice A n cap] w fun e w' => e = .returned (.bool (risB R)) ∧ Below w.heap.size w w' := by
  have Hlen := Lib.hid h.len
  go_enter Try.func79, Try.ntmps79
  go_wp2_with fail
  go_loopw [3] (fun i wr => ∃ j : Nat, (j < n ∨ j = 0) ∧ i = .int .i64 ((j : Int) + 1) ∧ Hid (risB R = risB (R.drop j)) ∧ Below w.heap.size w wr) (fun i _ => n + 1 - (intOf i).toNat)
  case atStart => exact ⟨0, .inr rfl, rfl, (show _ = _ from rfl), Below.refl _ _⟩
  case round =>
    obtain ⟨j, hj, rfl, hri, hb⟩ := hrel
    by_cases hlt : j + 1 < n
    · have hR1 : j + 1 < R.length := by rw [Hlen.out]; exact hlt
      obtain ⟨q, o, rfl, hrow2, -, -⟩ := RowsIn.get (SlR.below h hb) hlt hR1
      obtain ⟨q', o', hqe, hrow1, -, -⟩ := RowsIn.get (SlR.below h hb) (show j < n by omega) (show j < R.length by omega)
      injection hqe with hqe
      injection hqe with hq1 hq2
      subst hq1; subst hq2
      have hri3 : risB R = (decide (cmpRow (R[j]'(by omega)) (R[j + 1]'hR1) < 0) && risB (R.drop (j + 1))) := by
        rw [hri.out, List.drop_eq_getElem_cons (show j < R.length by omega), List.drop_eq_getElem_cons hR1]; rfl
      obtain ⟨x, hx⟩ : ∃ x, R[j]'(by omega) = x := ⟨_, rfl⟩
      obtain ⟨y, hy⟩ : ∃ y, R[j + 1]'hR1 = y := ⟨_, rfl⟩
      rw [hx] at hrow1 hri3
      rw [hy] at hrow2 hri3
      clear hri hx hy hR1
      have hlt2 : ((j : Int) + 1 < n) := by omega
      have w1' : IntKind.i64.wrap (j : Int) = j := IntWalk.i64_in _ (by omega)
      have t1 : ((j : Int) + 1).toNat = j + 1 := by omega
      have t2 : (0 : Int) ≤ (j : Int) + 1 := by omega
      have t3 : (j : Int) < n := by omega
      have t4 : j < n := by omega
      have c2 := rless x y wr.drew
      by_cases hc : cmpRow x y < 0
      · rw [decide_eq_true hc, Bool.true_and] at hri3
        have Hri := Lib.hid hri3
        have hcb : decide (cmpRow x y < 0) = true := decide_eq_true hc; rw [hcb] at c2
        clear hri3 hc
        go_upto_region 4 with fail
        refine wp_region_lex (Bel wr) false (by kernel_rfl) (by kernel_rfl) (by kernel_rfl) (bel_drew wr) ?_
        have hne := bel_some wr
        have hS := bel_drew wr
        have b1 := sub_row hrow1; have b2 := sub_row hrow2
        repeat (refine wpLx_loose ?_ ?_; (focus (simp only [chainOp]; done)); intro K hK; go_simp; refine hK _ ?_; clear hK K)
        refine wpLx_chain ?_ ?_ ?_
        focus (exact hS)
        focus (simp only [chainOp]; done)
        intro K hK
        go_simp
        refine (c2).mono ?_
        rintro e w' ⟨rfl, hb⟩
        replace hS := bel_next hS hb
        refine ⟨_, rfl, hS, hK _ _ ?_⟩
        clear hK K hb
        repeat (refine wpLx_loose ?_ ?_; (focus (simp only [chainOp]; done)); intro K hK; go_simp; refine hK _ ?_; clear hK K)
        refine wpLx_nil ?_
        intro hS
        have hS' : Below wr.heap.size wr w' := hS
        have hbz := bel2 hb hS'
        clear b1 b2 hne hS hS' c2 w1'
        go_wp2_with fail
        go_roundw
        case rel => exact ⟨j + 1, .inl hlt, by go_num, Hri, hbz⟩
        case measure => simp [intOf]; omega
      · rw [decide_eq_false hc, Bool.false_and] at hri3
        have Hri := Lib.hid hri3
        have hcb : decide (cmpRow x y < 0) = false := decide_eq_false hc; rw [hcb] at c2
        clear hri3 hc
        go_upto_region 4 with fail
        refine wp_region_lex (Bel wr) false (by kernel_rfl) (by kernel_rfl) (by kernel_rfl) (bel_drew wr) ?_
        have hne := bel_some wr
        have hS := bel_drew wr
        have b1 := sub_row hrow1; have b2 := sub_row hrow2
        repeat (refine wpLx_loose ?_ ?_; (focus (simp only [chainOp]; done)); intro K hK; go_simp; refine hK _ ?_; clear hK K)
        refine wpLx_chain ?_ ?_ ?_
        focus (exact hS)
        focus (simp only [chainOp]; done)
        intro K hK
        go_simp
        refine (c2).mono ?_
        rintro e w' ⟨rfl, hb⟩
        replace hS := bel_next hS hb
        refine ⟨_, rfl, hS, hK _ _ ?_⟩
        clear hK K hb
        repeat (refine wpLx_loose ?_ ?_; (focus (simp only [chainOp]; done)); intro K hK; go_simp; refine hK _ ?_; clear hK K)
        refine wpLx_nil ?_
        intro hS
        have hS' : Below wr.heap.size wr w' := hS
        have hbz := bel2 hb hS'
        clear b1 b2 hne hS hS' c2 w1'
        go_wp2_with fail
        go_ret
        exact ⟨ret_bool (by rw [Hri.out]), hbz⟩
    · have hrt : risB R = true := by
        rw [hri.out]
        have hl1 : (R.drop j).length ≤ 1 := by rw [List.length_drop, Hlen.out]; omega
        generalize R.drop j = Z at hl1
        match Z, hl1 with
        | [], _ => rfl
        | [_], _ => rfl
      have Hrt := Lib.hid hrt
      have hlt2 : decide ((j : Int) + 1 < n) = false := by simp; omega
      have hlt3 : decide (j + 1 < n) = false := by simp; omega
      clear hrt hri hlt hj
      go_wp2_with fail
      go_ret
      exact ⟨ret_bool (by rw [Hrt.out]), hb⟩

set_option maxRecDepth 100000 in
set_option maxHeartbeats 1000000 in
theorem brising (w : World) (A : Option Addr) (n cap : Nat) (R : List BRow) (h : RowsIn w A n R) (hn : n ≤ 4294967296) :
    Calls Try.prog 77 #[.slice A n cap] w fun e w' => e = .returned (.bool (risB R)) ∧ Below w.heap.size w w' := by
  have Hlen := Lib.hid h.len
  go_enter Try.func77, Try.ntmps77
  go_wp2_with fail
  go_loopw [3] (fun i wr => ∃ j : Nat, (j < n ∨ j = 0) ∧ i = .int .i64 ((j : Int) + 1) ∧ Hid (risB R = risB (R.drop j)) ∧ Below w.heap.size w wr) (fun i _ => n + 1 - (intOf i).toNat)
  case atStart => exact ⟨0, .inr rfl, rfl, (show _ = _ from rfl), Below.refl _ _⟩
  case round =>
    obtain ⟨j, hj, rfl, hri, hb⟩ := hrel
    by_cases hlt : j + 1 < n
    · have hR1 : j + 1 < R.length := by rw [Hlen.out]; exact hlt
      obtain ⟨q, o, rfl, hrow2, -, -⟩ := RowsIn.get (SlR.below h hb) hlt hR1
      obtain ⟨q', o', hqe, hrow1, -, -⟩ := RowsIn.get (SlR.below h hb) (show j < n by omega) (show j < R.length by omega)
      injection hqe with hqe
      injection hqe with hq1 hq2
      subst hq1; subst hq2
      have hri3 : risB R = (decide (cmpRow (R[j]'(by omega)) (R[j + 1]'hR1) < 0) && risB (R.drop (j + 1))) := by
        rw [hri.out, List.drop_eq_getElem_cons (show j < R.length by omega), List.drop_eq_getElem_cons hR1]; rfl
      obtain ⟨x, hx⟩ : ∃ x, R[j]'(by omega) = x := ⟨_, rfl⟩
      obtain ⟨y, hy⟩ : ∃ y, R[j + 1]'hR1 = y := ⟨_, rfl⟩
      rw [hx] at hrow1 hri3
      rw [hy] at hrow2 hri3
      clear hri hx hy hR1
      have hlt2 : ((j : Int) + 1 < n) := by omega
      have w1' : IntKind.i64.wrap (j : Int) = j := IntWalk.i64_in _ (by omega)
      have t1 : ((j : Int) + 1).toNat = j + 1 := by omega
      have t2 : (0 : Int) ≤ (j : Int) + 1 := by omega
      have t3 : (j : Int) < n := by omega
      have t4 : j < n := by omega
      have c2 := border x y wr.drew
      by_cases hc : cmpRow x y < 0
      · rw [decide_eq_true hc, Bool.true_and] at hri3
        have Hri := Lib.hid hri3
        have hcb : ¬ (0 ≤ cmpRow x y) := (by omega); obtain ⟨c, hcc⟩ : ∃ c, cmpRow x y = c := ⟨_, rfl⟩; rw [hcc] at c2 hcb; clear hcc
        clear hri3 hc
        go_upto_region 4 with fail
        refine wp_region_lex (Bel wr) false (by kernel_rfl) (by kernel_rfl) (by kernel_rfl) (bel_drew wr) ?_
        have hne := bel_some wr
        have hS := bel_drew wr
        have b1 := sub_row hrow1; have b2 := sub_row hrow2
        repeat (refine wpLx_loose ?_ ?_; (focus (simp only [chainOp]; done)); intro K hK; go_simp; refine hK _ ?_; clear hK K)
        refine wpLx_chain ?_ ?_ ?_
        focus (exact hS)
        focus (simp only [chainOp]; done)
        intro K hK
        go_simp
        refine (c2).mono ?_
        rintro e w' ⟨rfl, hb⟩
        replace hS := bel_next hS hb
        refine ⟨_, rfl, hS, hK _ _ ?_⟩
        clear hK K hb
        repeat (refine wpLx_loose ?_ ?_; (focus (simp only [chainOp]; done)); intro K hK; go_simp; refine hK _ ?_; clear hK K)
        refine wpLx_nil ?_
        intro hS
        have hS' : Below wr.heap.size wr w' := hS
        have hbz := bel2 hb hS'
        clear b1 b2 hne hS hS' c2 w1'
        go_wp2_with fail
        go_roundw
        case rel => exact ⟨j + 1, .inl hlt, by go_num, Hri, hbz⟩
        case measure => simp [intOf]; omega
      · rw [decide_eq_false hc, Bool.false_and] at hri3
        have Hri := Lib.hid hri3
        have hcb : 0 ≤ cmpRow x y := (by omega); obtain ⟨c, hcc⟩ : ∃ c, cmpRow x y = c := ⟨_, rfl⟩; rw [hcc] at c2 hcb; clear hcc
        clear hri3 hc
        go_upto_region 4 with fail
        refine wp_region_lex (Bel wr) false (by kernel_rfl) (by kernel_rfl) (by kernel_rfl) (bel_drew wr) ?_
        have hne := bel_some wr
        have hS := bel_drew wr
        have b1 := sub_row hrow1; have b2 := sub_row hrow2
        repeat (refine wpLx_loose ?_ ?_; (focus (simp only [chainOp]; done)); intro K hK; go_simp; refine hK _ ?_; clear hK K)
        refine wpLx_chain ?_ ?_ ?_
        focus (exact hS)
        focus (simp only [chainOp]; done)
        intro K hK
        go_simp
        refine (c2).mono ?_
        rintro e w' ⟨rfl, hb⟩
        replace hS := bel_next hS hb
        refine ⟨_, rfl, hS, hK _ _ ?_⟩
        clear hK K hb
        repeat (refine wpLx_loose ?_ ?_; (focus (simp only [chainOp]; done)); intro K hK; go_simp; refine hK _ ?_; clear hK K)
        refine wpLx_nil ?_
        intro hS
        have hS' : Below wr.heap.size wr w' := hS
        have hbz := bel2 hb hS'
        clear b1 b2 hne hS hS' c2 w1'
        go_wp2_with fail
        go_ret
        exact ⟨ret_bool (by rw [Hri.out]), hbz⟩
    · have hrt : risB R = true := by
        rw [hri.out]
        have hl1 : (R.drop j).length ≤ 1 := by rw [List.length_drop, Hlen.out]; omega
        generalize R.drop j = Z at hl1
        match Z, hl1 with
        | [], _ => rfl
        | [_], _ => rfl
      have Hrt := Lib.hid hrt
      have hlt2 : decide ((j : Int) + 1 < n) = false := by simp; omega
      have hlt3 : decide (j + 1 < n) = false := by simp; omega
      clear hrt hri hlt hj
      go_wp2_with fail
      go_ret
      exact ⟨ret_bool (by rw [Hrt.out]), hb⟩

theorem blong (x : BRow) (w : World) : Calls Try.prog 76 #[.agg (bRowC x)] w fun e w' => e = .returned (.bool (decide (16 < x.val.size))) ∧ Below w.heap.size w w' := by
  have hB : Below w.heap.size w (w.alloc (.cells (bRowC x) 120)) := (Below.refl _ _).alloc (Nat.le_refl _) _
  have a2 : (w.alloc (.cells (bRowC x) 120)).cell? ⟨w.heap.size, 32, none⟩ = some (.string x.val) := by simp [go_sem]
  go_enter Try.func76, Try.ntmps76
  go_upto_region 1 with fail
  generalize w.alloc (.cells (bRowC x) 120) = W at *
  go_wp2_with fail
  go_ret
  exact ⟨ret_bool (decide_eq_decide.2 (by omega)), hB⟩

theorem any_none_index (w : World) (A : Option Addr) (cap : Nat) (f : Value) :
    Calls Try.prog 100 #[.slice A 0 cap, f] w fun e w' => e = .returned (.int .i64 (-1)) ∧ w = w' := by
  go_enter Try.func100, Try.ntmps100
  go_wp2_with fail
  go_loopw [8] (fun i wr => i = .int .i64 0 ∧ wr = w) (fun _ _ => 0)
  case atStart => exact ⟨rfl, rfl⟩
  case round =>
    obtain ⟨rfl, rfl⟩ := hrel
    go_wp2_with fail
    go_ret
    exact ⟨rfl, rfl⟩
theorem any_none (w : World) (A : Option Addr) (cap : Nat) (f : Value) :
    Calls Try.prog 75 #[.slice A 0 cap, f] w fun e w' => e = .returned (.bool false) ∧ w = w' := by
  go_enter Try.func75, Try.ntmps75
  go_wp2_with fail
  refine (any_none_index _ A cap f).mono ?_; rintro e w1 ⟨rfl, rfl⟩
  go_wp2_with fail
  go_ret
  exact ⟨rfl, rfl⟩

theorem bcontains (w : World) (A : Option Addr) (n cap : Nat) (R : List BRow) (h : RowsIn w A n R) (hn : n ≤ 4294967296) :
    Calls Try.prog 75 #[.slice A n cap, .func (.func 76) #[] #[]] w fun e w' => e = .returned (.bool (longB R)) ∧ Below w.heap.size w w' := by
  have hlen := h.len
  by_cases h0 : n = 0
  · subst h0
    have hR : R = [] := List.eq_nil_of_length_eq_zero hlen
    subst hR
    refine (any_none w A cap _).mono ?_
    rintro e w' ⟨rfl, rfl⟩
    exact ⟨rfl, Below.refl _ _⟩
  · obtain ⟨g, o, rfl, hr0, -, -⟩ := RowsIn.get h (show 0 < n by omega) (by omega)
    have hcon := AnyQ.slices_ContainsFunc Try.layContRow 33 isAggRow sizeRow (fun x : BRow => (bRowC x).toList) (by simp) (fun x => decide (16 < x.val.size)) 76 #[]
      (enters_of Try.func76 (by kernel_rfl) rfl) g o n cap R w (fun W x hb => (blong x W).mono fun e w' hh => ⟨hh.1, hb.trans (hh.2.mono hb.size)⟩) (by omega) (by omega) (rowAt_lt hr0) (fun j hj i v hv => by
        obtain ⟨g', o', he, hr, -, -⟩ := RowsIn.get h (show j < n by omega) hj
        injection he with he
        injection he with he1 he2
        subst he1; subst he2
        have hi : i < 33 := by
          have := (List.getElem?_eq_some_iff.1 hv).1
          simpa using this
        rw [rowAt_cell hr hi, ← hv, getElem!_pos R j hj]
        simp)
    refine hcon.mono ?_
    rintro e w' ⟨rfl, hb⟩
    rw [List.take_of_length_le (by omega)]
    exact ⟨rfl, hb⟩

end Go.Proofs.Ytlonihfhgfmplaa
