/- Part 12 of the texts that lead to this claim: the walks of the functions and the plain law, in order. -/
import Derived.Test.YtgfpjjppeldhbaaGreatDoorMo11
import Derived.LoopN

/- The reference of operations (petrelref07): in. -/
namespace Go.Proofs.YtgfpjjppeldhbaaGreatDoor
open Go.RowKit

def inB (s : ByteArray) (c : Int) : Bool := s.data.toList.any fun b => ((b.toNat : Int) == c)
theorem rop_in (s : ByteArray) (c : Int) (w : World) (hs : s.size ≤ 9223372036854775807) : Calls Tryz.prog 144 #[.string s, .int .u8 c] w fun e w' => e = .returned (.bool (inB s c)) ∧ w = w' := by
  have hlen : s.data.toList.length = s.size := Array.length_toList
  have hin : inB s c = (s.data.toList.drop 0).any fun b => ((b.toNat : Int) == c) := rfl
  have Hin := Lib.hid hin
  clear hin
  go_enter Tryz.func144, Tryz.ntmps144
  go_wp2_with fail
  go_loopw [5] (fun i wr => ∃ k : Nat, k ≤ s.size ∧ i = .int .i64 k ∧ wr = w ∧ Hid (inB s c = (s.data.toList.drop k).any fun b => ((b.toNat : Int) == c))) (fun i _ => s.size - (intOf i).toNat)
  case atStart => exact ⟨0, Nat.zero_le _, rfl, rfl, Hin⟩
  case round =>
    obtain ⟨k, hk, rfl, rfl, hd⟩ := hrel
    by_cases hlt : k < s.size
    · have hg : s.data.toList.drop k = s[k]'hlt :: s.data.toList.drop (k + 1) := by
        rw [List.drop_eq_getElem_cons (show k < s.data.toList.length by rw [hlen]; exact hlt)]; rfl
      have hd2 := hd.out
      rw [hg, List.any_cons] at hd2
      obtain ⟨b, hb⟩ : ∃ b, s[k]'hlt = b := ⟨_, rfl⟩
      rw [hb] at hd2
      cases hc : ((b.toNat : Int) == c) with
      | true =>
        rw [hc, Bool.true_or] at hd2
        have Hd := Lib.hid hd2
        clear hd hd2 hg
        go_wp2_with fail
        go_ret
        exact ⟨ret_bool (by rw [Hd.out]), rfl⟩
      | false =>
        rw [hc, Bool.false_or] at hd2
        have Hd := Lib.hid hd2
        clear hd hd2 hg
        go_wp2_with fail
        go_roundw
        case rel => exact ⟨k + 1, by omega, by go_num, trivial, Hd⟩
        case measure => simp [intOf]; omega
    · have hd2 := hd.out
      rw [List.drop_eq_nil_of_le (by rw [hlen]; omega)] at hd2
      have Hd := Lib.hid hd2
      clear hd hd2
      go_wp2_with fail
      go_ret
      exact ⟨ret_bool (by rw [Hd.out]; rfl), rfl⟩

end Go.Proofs.YtgfpjjppeldhbaaGreatDoor

/- The reference Same (petrelref06): are two lists of ids one? -/
namespace Go.Proofs.YtgfpjjppeldhbaaGreatDoor
open Go.RowKit

set_option maxHeartbeats 1000000 in
theorem rsame_ids (w : World) (A B : Option Addr) (n m cap cap' : Nat) (X Y : List Id32) (hx : TagsIn w A n X) (hy : TagsIn w B m Y) (hn : n ≤ 1000000) (hm : m ≤ 1000000) :
    Calls Tryz.prog 32 #[.slice A n cap, .slice B m cap'] w fun e w' => e = .returned (.bool (decide (X = Y))) ∧ Below w.heap.size w w' := by
  have hlx := hx.len
  have hly := hy.len
  have Hlx := Lib.hid hlx; have Hly := Lib.hid hly
  by_cases hnm : n = m
  · subst hnm
    clear hlx hly
    go_enter Tryz.func32, Tryz.ntmps32
    go_wp2_with fail
    go_loopw [5] (fun i wr => ∃ k : Nat, k ≤ n ∧ i = .int .i64 k ∧ Hid (X.take k = Y.take k) ∧ Below w.heap.size w wr) (fun i _ => n - (intOf i).toNat)
    case atStart => exact ⟨0, Nat.zero_le _, rfl, rfl, Below.refl _ _⟩
    case round =>
      obtain ⟨k, hk, rfl, heq, hb⟩ := hrel
      by_cases hlt : k < n
      · obtain ⟨q, o, rfl, hr⟩ := TagsIn.get (SlR.below hx hb) hlt (by rw [Hlx.out]; exact hlt)
        obtain ⟨q2, o2, rfl, hr2⟩ := TagsIn.get (SlR.below hy hb) hlt (by rw [Hly.out]; exact hlt)
        have hX : X.take (k + 1) = X.take k ++ [X[k]'(by rw [Hlx.out]; exact hlt)] := by rw [List.take_add_one, List.getElem?_eq_getElem (by rw [Hlx.out]; exact hlt)]; rfl
        have hY : Y.take (k + 1) = Y.take k ++ [Y[k]'(by rw [Hly.out]; exact hlt)] := by rw [List.take_add_one, List.getElem?_eq_getElem (by rw [Hly.out]; exact hlt)]; rfl
        obtain ⟨x, hx'⟩ : ∃ x, X[k]'(by rw [Hlx.out]; exact hlt) = x := ⟨_, rfl⟩
        obtain ⟨y, hy'⟩ : ∃ y, Y[k]'(by rw [Hly.out]; exact hlt) = y := ⟨_, rfl⟩
        rw [hx'] at hr hX
        rw [hy'] at hr2 hY
        have HX := Lib.hid hX; have HY := Lib.hid hY
        clear hX hY
        have HX' := Lib.hid hx'; have HY' := Lib.hid hy'
        clear hx' hy'
        go_upto_region 6 with fail
        refine wp_region_lex (Bel wr) false (by kernel_rfl) (by kernel_rfl) (by kernel_rfl) (bel_drew wr) ?_
        have hne := bel_some wr
        have hS := bel_drew wr
        have b1 := sub_row hr; have b2 := sub_row hr2
        repeat (refine wpLx_loose ?_ ?_; (focus (simp only [chainOp]; done)); intro K hK; go_simp; refine hK _ ?_; clear hK K)
        refine wpLx_nil ?_
        intro hS
        clear hne hS b1 b2 hr hr2
        have hb' : Below w.heap.size w wr.drew := hb.drew
        cases hpe : (x == y) with
        | true =>
          have e := beq_iff_eq.1 hpe
          have E := Lib.hid e
          clear e
          go_wp2_with fail
          go_roundw
          case rel => exact ⟨k + 1, by omega, by go_num, (show X.take (k + 1) = Y.take (k + 1) by rw [HX.out, HY.out, heq.out, E.out]), hb'⟩
          case measure => simp [intOf]; omega
        | false =>
          have hne : X ≠ Y := by
            intro e
            subst e
            have : x = y := HX'.out.symm.trans HY'.out
            rw [beq_iff_eq.2 this] at hpe
            cases hpe
          have hd := Lib.hid (decide_eq_false hne)
          clear hne
          go_wp2_with fail
          go_ret
          exact ⟨ret_bool (by rw [hd.out]), hb'⟩
      · have hkn : k = n := by omega
        have e : X = Y := by
          have := heq.out
          rwa [List.take_of_length_le (by rw [Hlx.out]; omega), List.take_of_length_le (by rw [Hly.out]; omega)] at this
        have E := Lib.hid (decide_eq_true e)
        clear e hkn
        go_wp2_with fail
        go_ret
        exact ⟨ret_bool (by rw [E.out]), hb⟩
  · have hne : X ≠ Y := by intro e; subst e; exact hnm (hlx.symm.trans hly)
    have hd := Lib.hid (decide_eq_false hne)
    have hnm2 : (n == m) = false := by simpa using hnm
    have hnm3 : ((n : Int) == (m : Int)) = false := by rw [beq_eq_false_iff_ne]; omega
    clear hlx hly hne
    go_enter Tryz.func32, Tryz.ntmps32
    go_wp2_with fail
    go_ret
    exact ⟨ret_bool (by rw [hd.out]), Below.refl _ _⟩

end Go.Proofs.YtgfpjjppeldhbaaGreatDoor

/- The reference of operations (petrelref07): Check; Is of petrelref06. -/
namespace Go.Proofs.YtgfpjjppeldhbaaGreatDoor
open Go.RowKit

theorem ris_sort (R : List Id32) : decide (R = sortC cmpId R) = risI R := by
  rw [Bool.eq_iff_iff, decide_eq_true_eq, risI_ok]
  exact ⟨fun h => by rw [h]; exact ris_sortC totId R, fun h => (sortC_ris totId h).symm⟩
theorem ris6 (w : World) (A : Option Addr) (n cap : Nat) (R : List Id32) (h : TagsIn w A n R) (hn : n ≤ 1000000) :
    Calls Tryz.prog 97 #[.slice A n cap] w fun e w' => e = .returned (.bool (risI R)) ∧ Below w.heap.size w w' := by
  have hlen := h.len
  have hsl := sortC_length (c := cmpId) R
  rw [hlen] at hsl
  have c1 := rset w A n cap R h hn
  have c2 := fun w1 (hb : Below w.heap.size w w1) A' cap' (hs : IdsW w1 A' (sortC cmpId R).length cap' (sortC cmpId R)) => rsame_ids w1 A A' n (sortC cmpId R).length cap cap' R (sortC cmpId R) (SlR.below h hb) hs.rd hn (by omega)
  have Hs := Lib.hid (ris_sort R)
  clear hlen hsl
  go_enter Tryz.func97, Tryz.ntmps97
  go_wp2_with fail
  refine c1.mono ?_; rintro e w1 ⟨A', cap', rfl, hs, _, hb1⟩
  go_wp2_with fail
  refine (c2 w1 hb1 A' cap' hs).mono ?_; rintro e w2 ⟨rfl, hb2⟩
  go_wp2_with fail
  go_ret
  exact ⟨ret_bool (by rw [Hs.out]), bel2 hb1 hb2⟩

theorem emptyS : (⟨#[]⟩ : ByteArray).size = 0 := rfl
set_option maxRecDepth 100000 in
set_option maxHeartbeats 4000000 in
theorem rop_check (o : OpV) (A : Option Addr) (c : Nat) (w : World) (h : plainO o) (hT : TagsIn w A o.refs.length o.refs) (hl : o.refs.length ≤ 1000000) (hks : o.key.size ≤ 9223372036854775807) (hvs : o.val.size ≤ 9223372036854775807) :
    Calls Tryz.prog 70 #[.agg (opC o A c)] w fun e w' => e = .returned (.int .i64 (chkN o)) ∧ Below w.heap.size w w' := by
  have hT0 : TagsIn (w.alloc (.cells (opC o A c) 52)) A o.refs.length o.refs := SlR.below hT ((Below.refl _ _).alloc (Nat.le_refl _) _)
  have hck : chkN o = if 16 < o.key.size ∨ 16 < o.val.size then 3 else if numO o = false then 5 else if 8 < o.refs.length then 6 else if risI o.refs = false then 4 else 0 := rfl
  have hno : numO o = (!(decide (o.k = 4) && decide (o.n < 0)) && (decide (o.n < 2147483648) && decide (-2147483648 ≤ o.n))) := rfl
  obtain ⟨rb, hrb⟩ : ∃ rb, risI o.refs = rb := ⟨_, rfl⟩
  rw [hrb] at hck
  rw [hno] at hck
  obtain ⟨k, n, key, val, ref, refs⟩ := o
  unfold opC at hT0 ⊢
  unfold plainO at h
  dsimp only at *
  have Hck := Lib.hid hck
  have Hrb := Lib.hid hrb
  clear hck hno hrb hT
  rcases h with ⟨rfl, rfl, rfl, rfl, rfl⟩ | ⟨rfl, rfl, rfl, rfl, rfl⟩ | ⟨rfl, rfl, rfl, rfl⟩ | ⟨rfl, rfl, rfl⟩ | ⟨rfl, rfl, rfl⟩ | ⟨rfl, rfl, rfl, rfl⟩ | ⟨rfl, rfl, rfl, rfl, rfl⟩
  · show Calls Tryz.prog 70 #[.agg (opPC ⟨1, n, ⟨#[]⟩, ⟨#[]⟩, id0, .slice A 0 c⟩)] w _
    change TagsIn (w.alloc (.cells (opPC ⟨1, n, ⟨#[]⟩, ⟨#[]⟩, id0, .slice A 0 c⟩) 52)) A 0 [] at hT0
    have hB : Below w.heap.size w (w.alloc (.cells (opPC ⟨1, n, ⟨#[]⟩, ⟨#[]⟩, id0, .slice A 0 c⟩) 52)) := (Below.refl _ _).alloc (Nat.le_refl _) _
    have hr : rowAt (w.alloc (.cells (opPC ⟨1, n, ⟨#[]⟩, ⟨#[]⟩, id0, .slice A 0 c⟩) 52)) w.heap.size 0 37 = some (opPC ⟨1, n, ⟨#[]⟩, ⟨#[]⟩, id0, .slice A 0 c⟩) := by simp [go_sem]
    have x0 := rowAt_cell hr (j := 0) (by omega); have x1 := rowAt_cell hr (j := 1) (by omega); have x2 := rowAt_cell hr (j := 2) (by omega); have x3 := rowAt_cell hr (j := 3) (by omega); have x5 := rowAt_cell hr (j := 36) (by omega)
    have x4 := rowAt_sub hr (j := 4) (m := 32) (by omega)
    simp only [opPC_g0, opPC_g1, opPC_g2, opPC_g3, opPC_g36, opPC_e4, Nat.zero_add] at x0 x1 x2 x3 x4 x5
    have c1 := rop_has 1 (w.alloc (.cells (opPC ⟨1, n, ⟨#[]⟩, ⟨#[]⟩, id0, .slice A 0 c⟩) 52)) (by omega)
    have i1 := rop_in (hasS 1) 78 (w.alloc (.cells (opPC ⟨1, n, ⟨#[]⟩, ⟨#[]⟩, id0, .slice A 0 c⟩) 52)) (by decide)
    have i2 := rop_in (hasS 1) 75 (w.alloc (.cells (opPC ⟨1, n, ⟨#[]⟩, ⟨#[]⟩, id0, .slice A 0 c⟩) 52)) (by decide)
    have i3 := rop_in (hasS 1) 86 (w.alloc (.cells (opPC ⟨1, n, ⟨#[]⟩, ⟨#[]⟩, id0, .slice A 0 c⟩) 52)) (by decide)
    have i4 := rop_in (hasS 1) 82 (w.alloc (.cells (opPC ⟨1, n, ⟨#[]⟩, ⟨#[]⟩, id0, .slice A 0 c⟩) 52)) (by decide)
    have i5 := rop_in (hasS 1) 83 (w.alloc (.cells (opPC ⟨1, n, ⟨#[]⟩, ⟨#[]⟩, id0, .slice A 0 c⟩) 52)) (by decide)
    rw [show inB (hasS 1) 78 = true by decide +kernel] at i1
    rw [show inB (hasS 1) 75 = false by decide +kernel] at i2
    rw [show inB (hasS 1) 86 = false by decide +kernel] at i3
    rw [show inB (hasS 1) 82 = false by decide +kernel] at i4
    rw [show inB (hasS 1) 83 = false by decide +kernel] at i5
    rw [show hasS 1 = ⟨#[78]⟩ from rfl] at c1 i1 i2 i3 i4 i5
    clear hr
    go_enter Tryz.func70, Tryz.ntmps70
    go_upto_region 1 with fail
    obtain ⟨ga, hga⟩ : ∃ ga, w.heap.size = ga := ⟨_, rfl⟩
    have Hga := Lib.hid hga
    rw [hga] at x0 x1 x2 x3 x4 x5 hB ⊢
    obtain ⟨W, hW⟩ : ∃ W, W = w.alloc (.cells (opPC ⟨1, n, ⟨#[]⟩, ⟨#[]⟩, id0, .slice A 0 c⟩) 52) := ⟨_, rfl⟩
    rw [← hW] at x0 x1 x2 x3 x4 x5 hB c1 i1 i2 i3 i4 i5 hT0 ⊢
    clear hW hga
    go_wp2_with fail
    refine c1.mono ?_; rintro e w1 ⟨rfl, rfl⟩
    go_wp2_with fail
    refine i1.mono ?_; rintro e w1 ⟨rfl, rfl⟩
    go_wp2_with fail
    refine i2.mono ?_; rintro e w1 ⟨rfl, rfl⟩
    go_wp2_with fail
    refine i3.mono ?_; rintro e w1 ⟨rfl, rfl⟩
    go_wp2_with fail
    refine i4.mono ?_; rintro e w1 ⟨rfl, rfl⟩
    go_wp2_with fail
    refine i5.mono ?_; rintro e w1 ⟨rfl, rfl⟩
    clear c1 i1 i2 i3 i4 i5
    have cis := ris6 W A _ c _ hT0 hl
    rw [Hrb.out] at cis
    rw [← Hga.out] at hB
    go_wp2_with fail
    all_goals
      first
      | (go_ret; exact ⟨ret_int (by rw [Hck.out]; (try simp only [emptyS, List.length_nil] at *); (repeat' split) <;> (first | rfl | omega | (simp_all; done) | (simp_all; omega))), hB⟩)
      | (refine cis.mono ?_; rintro e w2 ⟨rfl, hb2⟩
         have hBB := bel2 hB hb2
         clear hT0 cis x0 x1 x2 x3 x4 x5 hb2
         cases rb <;> (go_wp2_with fail; go_ret; exact ⟨ret_int (by rw [Hck.out]; (try simp only [emptyS, List.length_nil] at *); (repeat' split) <;> (first | rfl | omega | (simp_all; done) | (simp_all; omega))), hBB⟩))
  · show Calls Tryz.prog 70 #[.agg (opPC ⟨2, 0, ⟨#[]⟩, val, id0, .slice A 0 c⟩)] w _
    change TagsIn (w.alloc (.cells (opPC ⟨2, 0, ⟨#[]⟩, val, id0, .slice A 0 c⟩) 52)) A 0 [] at hT0
    have hB : Below w.heap.size w (w.alloc (.cells (opPC ⟨2, 0, ⟨#[]⟩, val, id0, .slice A 0 c⟩) 52)) := (Below.refl _ _).alloc (Nat.le_refl _) _
    have hr : rowAt (w.alloc (.cells (opPC ⟨2, 0, ⟨#[]⟩, val, id0, .slice A 0 c⟩) 52)) w.heap.size 0 37 = some (opPC ⟨2, 0, ⟨#[]⟩, val, id0, .slice A 0 c⟩) := by simp [go_sem]
    have x0 := rowAt_cell hr (j := 0) (by omega); have x1 := rowAt_cell hr (j := 1) (by omega); have x2 := rowAt_cell hr (j := 2) (by omega); have x3 := rowAt_cell hr (j := 3) (by omega); have x5 := rowAt_cell hr (j := 36) (by omega)
    have x4 := rowAt_sub hr (j := 4) (m := 32) (by omega)
    simp only [opPC_g0, opPC_g1, opPC_g2, opPC_g3, opPC_g36, opPC_e4, Nat.zero_add] at x0 x1 x2 x3 x4 x5
    have c1 := rop_has 2 (w.alloc (.cells (opPC ⟨2, 0, ⟨#[]⟩, val, id0, .slice A 0 c⟩) 52)) (by omega)
    have i1 := rop_in (hasS 2) 78 (w.alloc (.cells (opPC ⟨2, 0, ⟨#[]⟩, val, id0, .slice A 0 c⟩) 52)) (by decide)
    have i2 := rop_in (hasS 2) 75 (w.alloc (.cells (opPC ⟨2, 0, ⟨#[]⟩, val, id0, .slice A 0 c⟩) 52)) (by decide)
    have i3 := rop_in (hasS 2) 86 (w.alloc (.cells (opPC ⟨2, 0, ⟨#[]⟩, val, id0, .slice A 0 c⟩) 52)) (by decide)
    have i4 := rop_in (hasS 2) 82 (w.alloc (.cells (opPC ⟨2, 0, ⟨#[]⟩, val, id0, .slice A 0 c⟩) 52)) (by decide)
    have i5 := rop_in (hasS 2) 83 (w.alloc (.cells (opPC ⟨2, 0, ⟨#[]⟩, val, id0, .slice A 0 c⟩) 52)) (by decide)
    rw [show inB (hasS 2) 78 = false by decide +kernel] at i1
    rw [show inB (hasS 2) 75 = false by decide +kernel] at i2
    rw [show inB (hasS 2) 86 = true by decide +kernel] at i3
    rw [show inB (hasS 2) 82 = false by decide +kernel] at i4
    rw [show inB (hasS 2) 83 = false by decide +kernel] at i5
    rw [show hasS 2 = ⟨#[86]⟩ from rfl] at c1 i1 i2 i3 i4 i5
    clear hr
    go_enter Tryz.func70, Tryz.ntmps70
    go_upto_region 1 with fail
    obtain ⟨ga, hga⟩ : ∃ ga, w.heap.size = ga := ⟨_, rfl⟩
    have Hga := Lib.hid hga
    rw [hga] at x0 x1 x2 x3 x4 x5 hB ⊢
    obtain ⟨W, hW⟩ : ∃ W, W = w.alloc (.cells (opPC ⟨2, 0, ⟨#[]⟩, val, id0, .slice A 0 c⟩) 52) := ⟨_, rfl⟩
    rw [← hW] at x0 x1 x2 x3 x4 x5 hB c1 i1 i2 i3 i4 i5 hT0 ⊢
    clear hW hga
    go_wp2_with fail
    refine c1.mono ?_; rintro e w1 ⟨rfl, rfl⟩
    go_wp2_with fail
    refine i1.mono ?_; rintro e w1 ⟨rfl, rfl⟩
    go_wp2_with fail
    refine i2.mono ?_; rintro e w1 ⟨rfl, rfl⟩
    go_wp2_with fail
    refine i3.mono ?_; rintro e w1 ⟨rfl, rfl⟩
    go_wp2_with fail
    refine i4.mono ?_; rintro e w1 ⟨rfl, rfl⟩
    go_wp2_with fail
    refine i5.mono ?_; rintro e w1 ⟨rfl, rfl⟩
    clear c1 i1 i2 i3 i4 i5
    have cis := ris6 W A _ c _ hT0 hl
    rw [Hrb.out] at cis
    rw [← Hga.out] at hB
    go_wp2_with fail
    all_goals
      first
      | (go_ret; exact ⟨ret_int (by rw [Hck.out]; (try simp only [emptyS, List.length_nil] at *); (repeat' split) <;> (first | rfl | omega | (simp_all; done) | (simp_all; omega))), hB⟩)
      | (refine cis.mono ?_; rintro e w2 ⟨rfl, hb2⟩
         have hBB := bel2 hB hb2
         clear hT0 cis x0 x1 x2 x3 x4 x5 hb2
         cases rb <;> (go_wp2_with fail; go_ret; exact ⟨ret_int (by rw [Hck.out]; (try simp only [emptyS, List.length_nil] at *); (repeat' split) <;> (first | rfl | omega | (simp_all; done) | (simp_all; omega))), hBB⟩))
  · show Calls Tryz.prog 70 #[.agg (opPC ⟨3, 0, ⟨#[]⟩, val, id0, .slice A refs.length c⟩)] w _
    change TagsIn (w.alloc (.cells (opPC ⟨3, 0, ⟨#[]⟩, val, id0, .slice A refs.length c⟩) 52)) A refs.length refs at hT0
    have hB : Below w.heap.size w (w.alloc (.cells (opPC ⟨3, 0, ⟨#[]⟩, val, id0, .slice A refs.length c⟩) 52)) := (Below.refl _ _).alloc (Nat.le_refl _) _
    have hr : rowAt (w.alloc (.cells (opPC ⟨3, 0, ⟨#[]⟩, val, id0, .slice A refs.length c⟩) 52)) w.heap.size 0 37 = some (opPC ⟨3, 0, ⟨#[]⟩, val, id0, .slice A refs.length c⟩) := by simp [go_sem]
    have x0 := rowAt_cell hr (j := 0) (by omega); have x1 := rowAt_cell hr (j := 1) (by omega); have x2 := rowAt_cell hr (j := 2) (by omega); have x3 := rowAt_cell hr (j := 3) (by omega); have x5 := rowAt_cell hr (j := 36) (by omega)
    have x4 := rowAt_sub hr (j := 4) (m := 32) (by omega)
    simp only [opPC_g0, opPC_g1, opPC_g2, opPC_g3, opPC_g36, opPC_e4, Nat.zero_add] at x0 x1 x2 x3 x4 x5
    have c1 := rop_has 3 (w.alloc (.cells (opPC ⟨3, 0, ⟨#[]⟩, val, id0, .slice A refs.length c⟩) 52)) (by omega)
    have i1 := rop_in (hasS 3) 78 (w.alloc (.cells (opPC ⟨3, 0, ⟨#[]⟩, val, id0, .slice A refs.length c⟩) 52)) (by decide)
    have i2 := rop_in (hasS 3) 75 (w.alloc (.cells (opPC ⟨3, 0, ⟨#[]⟩, val, id0, .slice A refs.length c⟩) 52)) (by decide)
    have i3 := rop_in (hasS 3) 86 (w.alloc (.cells (opPC ⟨3, 0, ⟨#[]⟩, val, id0, .slice A refs.length c⟩) 52)) (by decide)
    have i4 := rop_in (hasS 3) 82 (w.alloc (.cells (opPC ⟨3, 0, ⟨#[]⟩, val, id0, .slice A refs.length c⟩) 52)) (by decide)
    have i5 := rop_in (hasS 3) 83 (w.alloc (.cells (opPC ⟨3, 0, ⟨#[]⟩, val, id0, .slice A refs.length c⟩) 52)) (by decide)
    rw [show inB (hasS 3) 78 = false by decide +kernel] at i1
    rw [show inB (hasS 3) 75 = false by decide +kernel] at i2
    rw [show inB (hasS 3) 86 = true by decide +kernel] at i3
    rw [show inB (hasS 3) 82 = false by decide +kernel] at i4
    rw [show inB (hasS 3) 83 = true by decide +kernel] at i5
    rw [show hasS 3 = ⟨#[86, 83]⟩ from rfl] at c1 i1 i2 i3 i4 i5
    clear hr
    go_enter Tryz.func70, Tryz.ntmps70
    go_upto_region 1 with fail
    obtain ⟨ga, hga⟩ : ∃ ga, w.heap.size = ga := ⟨_, rfl⟩
    have Hga := Lib.hid hga
    rw [hga] at x0 x1 x2 x3 x4 x5 hB ⊢
    obtain ⟨W, hW⟩ : ∃ W, W = w.alloc (.cells (opPC ⟨3, 0, ⟨#[]⟩, val, id0, .slice A refs.length c⟩) 52) := ⟨_, rfl⟩
    rw [← hW] at x0 x1 x2 x3 x4 x5 hB c1 i1 i2 i3 i4 i5 hT0 ⊢
    clear hW hga
    go_wp2_with fail
    refine c1.mono ?_; rintro e w1 ⟨rfl, rfl⟩
    go_wp2_with fail
    refine i1.mono ?_; rintro e w1 ⟨rfl, rfl⟩
    go_wp2_with fail
    refine i2.mono ?_; rintro e w1 ⟨rfl, rfl⟩
    go_wp2_with fail
    refine i3.mono ?_; rintro e w1 ⟨rfl, rfl⟩
    go_wp2_with fail
    refine i4.mono ?_; rintro e w1 ⟨rfl, rfl⟩
    go_wp2_with fail
    refine i5.mono ?_; rintro e w1 ⟨rfl, rfl⟩
    clear c1 i1 i2 i3 i4 i5
    have cis := ris6 W A _ c _ hT0 hl
    rw [Hrb.out] at cis
    rw [← Hga.out] at hB
    go_wp2_with fail
    all_goals
      first
      | (go_ret; exact ⟨ret_int (by rw [Hck.out]; (try simp only [emptyS, List.length_nil] at *); (repeat' split) <;> (first | rfl | omega | (simp_all; done) | (simp_all; omega))), hB⟩)
      | (refine cis.mono ?_; rintro e w2 ⟨rfl, hb2⟩
         have hBB := bel2 hB hb2
         clear hT0 cis x0 x1 x2 x3 x4 x5 hb2
         cases rb <;> (go_wp2_with fail; go_ret; exact ⟨ret_int (by rw [Hck.out]; (try simp only [emptyS, List.length_nil] at *); (repeat' split) <;> (first | rfl | omega | (simp_all; done) | (simp_all; omega))), hBB⟩))
  · show Calls Tryz.prog 70 #[.agg (opPC ⟨4, n, key, val, id0, .slice A 0 c⟩)] w _
    change TagsIn (w.alloc (.cells (opPC ⟨4, n, key, val, id0, .slice A 0 c⟩) 52)) A 0 [] at hT0
    have hB : Below w.heap.size w (w.alloc (.cells (opPC ⟨4, n, key, val, id0, .slice A 0 c⟩) 52)) := (Below.refl _ _).alloc (Nat.le_refl _) _
    have hr : rowAt (w.alloc (.cells (opPC ⟨4, n, key, val, id0, .slice A 0 c⟩) 52)) w.heap.size 0 37 = some (opPC ⟨4, n, key, val, id0, .slice A 0 c⟩) := by simp [go_sem]
    have x0 := rowAt_cell hr (j := 0) (by omega); have x1 := rowAt_cell hr (j := 1) (by omega); have x2 := rowAt_cell hr (j := 2) (by omega); have x3 := rowAt_cell hr (j := 3) (by omega); have x5 := rowAt_cell hr (j := 36) (by omega)
    have x4 := rowAt_sub hr (j := 4) (m := 32) (by omega)
    simp only [opPC_g0, opPC_g1, opPC_g2, opPC_g3, opPC_g36, opPC_e4, Nat.zero_add] at x0 x1 x2 x3 x4 x5
    have c1 := rop_has 4 (w.alloc (.cells (opPC ⟨4, n, key, val, id0, .slice A 0 c⟩) 52)) (by omega)
    have i1 := rop_in (hasS 4) 78 (w.alloc (.cells (opPC ⟨4, n, key, val, id0, .slice A 0 c⟩) 52)) (by decide)
    have i2 := rop_in (hasS 4) 75 (w.alloc (.cells (opPC ⟨4, n, key, val, id0, .slice A 0 c⟩) 52)) (by decide)
    have i3 := rop_in (hasS 4) 86 (w.alloc (.cells (opPC ⟨4, n, key, val, id0, .slice A 0 c⟩) 52)) (by decide)
    have i4 := rop_in (hasS 4) 82 (w.alloc (.cells (opPC ⟨4, n, key, val, id0, .slice A 0 c⟩) 52)) (by decide)
    have i5 := rop_in (hasS 4) 83 (w.alloc (.cells (opPC ⟨4, n, key, val, id0, .slice A 0 c⟩) 52)) (by decide)
    rw [show inB (hasS 4) 78 = true by decide +kernel] at i1
    rw [show inB (hasS 4) 75 = true by decide +kernel] at i2
    rw [show inB (hasS 4) 86 = true by decide +kernel] at i3
    rw [show inB (hasS 4) 82 = false by decide +kernel] at i4
    rw [show inB (hasS 4) 83 = false by decide +kernel] at i5
    rw [show hasS 4 = ⟨#[75, 86, 78]⟩ from rfl] at c1 i1 i2 i3 i4 i5
    clear hr
    go_enter Tryz.func70, Tryz.ntmps70
    go_upto_region 1 with fail
    obtain ⟨ga, hga⟩ : ∃ ga, w.heap.size = ga := ⟨_, rfl⟩
    have Hga := Lib.hid hga
    rw [hga] at x0 x1 x2 x3 x4 x5 hB ⊢
    obtain ⟨W, hW⟩ : ∃ W, W = w.alloc (.cells (opPC ⟨4, n, key, val, id0, .slice A 0 c⟩) 52) := ⟨_, rfl⟩
    rw [← hW] at x0 x1 x2 x3 x4 x5 hB c1 i1 i2 i3 i4 i5 hT0 ⊢
    clear hW hga
    go_wp2_with fail
    refine c1.mono ?_; rintro e w1 ⟨rfl, rfl⟩
    go_wp2_with fail
    refine i1.mono ?_; rintro e w1 ⟨rfl, rfl⟩
    go_wp2_with fail
    refine i2.mono ?_; rintro e w1 ⟨rfl, rfl⟩
    go_wp2_with fail
    refine i3.mono ?_; rintro e w1 ⟨rfl, rfl⟩
    go_wp2_with fail
    refine i4.mono ?_; rintro e w1 ⟨rfl, rfl⟩
    go_wp2_with fail
    refine i5.mono ?_; rintro e w1 ⟨rfl, rfl⟩
    clear c1 i1 i2 i3 i4 i5
    have cis := ris6 W A _ c _ hT0 hl
    rw [Hrb.out] at cis
    rw [← Hga.out] at hB
    go_wp2_with fail
    all_goals
      first
      | (go_ret; exact ⟨ret_int (by rw [Hck.out]; (try simp only [emptyS, List.length_nil] at *); (repeat' split) <;> (first | rfl | omega | (simp_all; done) | (simp_all; omega))), hB⟩)
      | (refine cis.mono ?_; rintro e w2 ⟨rfl, hb2⟩
         have hBB := bel2 hB hb2
         clear hT0 cis x0 x1 x2 x3 x4 x5 hb2
         cases rb <;> (go_wp2_with fail; go_ret; exact ⟨ret_int (by rw [Hck.out]; (try simp only [emptyS, List.length_nil] at *); (repeat' split) <;> (first | rfl | omega | (simp_all; done) | (simp_all; omega))), hBB⟩))
  · show Calls Tryz.prog 70 #[.agg (opPC ⟨5, 0, key, val, id0, .slice A refs.length c⟩)] w _
    change TagsIn (w.alloc (.cells (opPC ⟨5, 0, key, val, id0, .slice A refs.length c⟩) 52)) A refs.length refs at hT0
    have hB : Below w.heap.size w (w.alloc (.cells (opPC ⟨5, 0, key, val, id0, .slice A refs.length c⟩) 52)) := (Below.refl _ _).alloc (Nat.le_refl _) _
    have hr : rowAt (w.alloc (.cells (opPC ⟨5, 0, key, val, id0, .slice A refs.length c⟩) 52)) w.heap.size 0 37 = some (opPC ⟨5, 0, key, val, id0, .slice A refs.length c⟩) := by simp [go_sem]
    have x0 := rowAt_cell hr (j := 0) (by omega); have x1 := rowAt_cell hr (j := 1) (by omega); have x2 := rowAt_cell hr (j := 2) (by omega); have x3 := rowAt_cell hr (j := 3) (by omega); have x5 := rowAt_cell hr (j := 36) (by omega)
    have x4 := rowAt_sub hr (j := 4) (m := 32) (by omega)
    simp only [opPC_g0, opPC_g1, opPC_g2, opPC_g3, opPC_g36, opPC_e4, Nat.zero_add] at x0 x1 x2 x3 x4 x5
    have c1 := rop_has 5 (w.alloc (.cells (opPC ⟨5, 0, key, val, id0, .slice A refs.length c⟩) 52)) (by omega)
    have i1 := rop_in (hasS 5) 78 (w.alloc (.cells (opPC ⟨5, 0, key, val, id0, .slice A refs.length c⟩) 52)) (by decide)
    have i2 := rop_in (hasS 5) 75 (w.alloc (.cells (opPC ⟨5, 0, key, val, id0, .slice A refs.length c⟩) 52)) (by decide)
    have i3 := rop_in (hasS 5) 86 (w.alloc (.cells (opPC ⟨5, 0, key, val, id0, .slice A refs.length c⟩) 52)) (by decide)
    have i4 := rop_in (hasS 5) 82 (w.alloc (.cells (opPC ⟨5, 0, key, val, id0, .slice A refs.length c⟩) 52)) (by decide)
    have i5 := rop_in (hasS 5) 83 (w.alloc (.cells (opPC ⟨5, 0, key, val, id0, .slice A refs.length c⟩) 52)) (by decide)
    rw [show inB (hasS 5) 78 = false by decide +kernel] at i1
    rw [show inB (hasS 5) 75 = true by decide +kernel] at i2
    rw [show inB (hasS 5) 86 = true by decide +kernel] at i3
    rw [show inB (hasS 5) 82 = false by decide +kernel] at i4
    rw [show inB (hasS 5) 83 = true by decide +kernel] at i5
    rw [show hasS 5 = ⟨#[75, 86, 83]⟩ from rfl] at c1 i1 i2 i3 i4 i5
    clear hr
    go_enter Tryz.func70, Tryz.ntmps70
    go_upto_region 1 with fail
    obtain ⟨ga, hga⟩ : ∃ ga, w.heap.size = ga := ⟨_, rfl⟩
    have Hga := Lib.hid hga
    rw [hga] at x0 x1 x2 x3 x4 x5 hB ⊢
    obtain ⟨W, hW⟩ : ∃ W, W = w.alloc (.cells (opPC ⟨5, 0, key, val, id0, .slice A refs.length c⟩) 52) := ⟨_, rfl⟩
    rw [← hW] at x0 x1 x2 x3 x4 x5 hB c1 i1 i2 i3 i4 i5 hT0 ⊢
    clear hW hga
    go_wp2_with fail
    refine c1.mono ?_; rintro e w1 ⟨rfl, rfl⟩
    go_wp2_with fail
    refine i1.mono ?_; rintro e w1 ⟨rfl, rfl⟩
    go_wp2_with fail
    refine i2.mono ?_; rintro e w1 ⟨rfl, rfl⟩
    go_wp2_with fail
    refine i3.mono ?_; rintro e w1 ⟨rfl, rfl⟩
    go_wp2_with fail
    refine i4.mono ?_; rintro e w1 ⟨rfl, rfl⟩
    go_wp2_with fail
    refine i5.mono ?_; rintro e w1 ⟨rfl, rfl⟩
    clear c1 i1 i2 i3 i4 i5
    have cis := ris6 W A _ c _ hT0 hl
    rw [Hrb.out] at cis
    rw [← Hga.out] at hB
    go_wp2_with fail
    all_goals
      first
      | (go_ret; exact ⟨ret_int (by rw [Hck.out]; (try simp only [emptyS, List.length_nil] at *); (repeat' split) <;> (first | rfl | omega | (simp_all; done) | (simp_all; omega))), hB⟩)
      | (refine cis.mono ?_; rintro e w2 ⟨rfl, hb2⟩
         have hBB := bel2 hB hb2
         clear hT0 cis x0 x1 x2 x3 x4 x5 hb2
         cases rb <;> (go_wp2_with fail; go_ret; exact ⟨ret_int (by rw [Hck.out]; (try simp only [emptyS, List.length_nil] at *); (repeat' split) <;> (first | rfl | omega | (simp_all; done) | (simp_all; omega))), hBB⟩))
  · show Calls Tryz.prog 70 #[.agg (opPC ⟨6, 0, ⟨#[]⟩, val, ref, .slice A 0 c⟩)] w _
    change TagsIn (w.alloc (.cells (opPC ⟨6, 0, ⟨#[]⟩, val, ref, .slice A 0 c⟩) 52)) A 0 [] at hT0
    have hB : Below w.heap.size w (w.alloc (.cells (opPC ⟨6, 0, ⟨#[]⟩, val, ref, .slice A 0 c⟩) 52)) := (Below.refl _ _).alloc (Nat.le_refl _) _
    have hr : rowAt (w.alloc (.cells (opPC ⟨6, 0, ⟨#[]⟩, val, ref, .slice A 0 c⟩) 52)) w.heap.size 0 37 = some (opPC ⟨6, 0, ⟨#[]⟩, val, ref, .slice A 0 c⟩) := by simp [go_sem]
    have x0 := rowAt_cell hr (j := 0) (by omega); have x1 := rowAt_cell hr (j := 1) (by omega); have x2 := rowAt_cell hr (j := 2) (by omega); have x3 := rowAt_cell hr (j := 3) (by omega); have x5 := rowAt_cell hr (j := 36) (by omega)
    have x4 := rowAt_sub hr (j := 4) (m := 32) (by omega)
    simp only [opPC_g0, opPC_g1, opPC_g2, opPC_g3, opPC_g36, opPC_e4, Nat.zero_add] at x0 x1 x2 x3 x4 x5
    have c1 := rop_has 6 (w.alloc (.cells (opPC ⟨6, 0, ⟨#[]⟩, val, ref, .slice A 0 c⟩) 52)) (by omega)
    have i1 := rop_in (hasS 6) 78 (w.alloc (.cells (opPC ⟨6, 0, ⟨#[]⟩, val, ref, .slice A 0 c⟩) 52)) (by decide)
    have i2 := rop_in (hasS 6) 75 (w.alloc (.cells (opPC ⟨6, 0, ⟨#[]⟩, val, ref, .slice A 0 c⟩) 52)) (by decide)
    have i3 := rop_in (hasS 6) 86 (w.alloc (.cells (opPC ⟨6, 0, ⟨#[]⟩, val, ref, .slice A 0 c⟩) 52)) (by decide)
    have i4 := rop_in (hasS 6) 82 (w.alloc (.cells (opPC ⟨6, 0, ⟨#[]⟩, val, ref, .slice A 0 c⟩) 52)) (by decide)
    have i5 := rop_in (hasS 6) 83 (w.alloc (.cells (opPC ⟨6, 0, ⟨#[]⟩, val, ref, .slice A 0 c⟩) 52)) (by decide)
    rw [show inB (hasS 6) 78 = false by decide +kernel] at i1
    rw [show inB (hasS 6) 75 = false by decide +kernel] at i2
    rw [show inB (hasS 6) 86 = true by decide +kernel] at i3
    rw [show inB (hasS 6) 82 = true by decide +kernel] at i4
    rw [show inB (hasS 6) 83 = false by decide +kernel] at i5
    rw [show hasS 6 = ⟨#[82, 86]⟩ from rfl] at c1 i1 i2 i3 i4 i5
    clear hr
    go_enter Tryz.func70, Tryz.ntmps70
    go_upto_region 1 with fail
    obtain ⟨ga, hga⟩ : ∃ ga, w.heap.size = ga := ⟨_, rfl⟩
    have Hga := Lib.hid hga
    rw [hga] at x0 x1 x2 x3 x4 x5 hB ⊢
    obtain ⟨W, hW⟩ : ∃ W, W = w.alloc (.cells (opPC ⟨6, 0, ⟨#[]⟩, val, ref, .slice A 0 c⟩) 52) := ⟨_, rfl⟩
    rw [← hW] at x0 x1 x2 x3 x4 x5 hB c1 i1 i2 i3 i4 i5 hT0 ⊢
    clear hW hga
    go_wp2_with fail
    refine c1.mono ?_; rintro e w1 ⟨rfl, rfl⟩
    go_wp2_with fail
    refine i1.mono ?_; rintro e w1 ⟨rfl, rfl⟩
    go_wp2_with fail
    refine i2.mono ?_; rintro e w1 ⟨rfl, rfl⟩
    go_wp2_with fail
    refine i3.mono ?_; rintro e w1 ⟨rfl, rfl⟩
    go_wp2_with fail
    refine i4.mono ?_; rintro e w1 ⟨rfl, rfl⟩
    go_wp2_with fail
    refine i5.mono ?_; rintro e w1 ⟨rfl, rfl⟩
    clear c1 i1 i2 i3 i4 i5
    have cis := ris6 W A _ c _ hT0 hl
    rw [Hrb.out] at cis
    rw [← Hga.out] at hB
    go_wp2_with fail
    all_goals
      first
      | (go_ret; exact ⟨ret_int (by rw [Hck.out]; (try simp only [emptyS, List.length_nil] at *); (repeat' split) <;> (first | rfl | omega | (simp_all; done) | (simp_all; omega))), hB⟩)
      | (refine cis.mono ?_; rintro e w2 ⟨rfl, hb2⟩
         have hBB := bel2 hB hb2
         clear hT0 cis x0 x1 x2 x3 x4 x5 hb2
         cases rb <;> (go_wp2_with fail; go_ret; exact ⟨ret_int (by rw [Hck.out]; (try simp only [emptyS, List.length_nil] at *); (repeat' split) <;> (first | rfl | omega | (simp_all; done) | (simp_all; omega))), hBB⟩))
  · show Calls Tryz.prog 70 #[.agg (opPC ⟨7, 0, ⟨#[]⟩, ⟨#[]⟩, ref, .slice A 0 c⟩)] w _
    change TagsIn (w.alloc (.cells (opPC ⟨7, 0, ⟨#[]⟩, ⟨#[]⟩, ref, .slice A 0 c⟩) 52)) A 0 [] at hT0
    have hB : Below w.heap.size w (w.alloc (.cells (opPC ⟨7, 0, ⟨#[]⟩, ⟨#[]⟩, ref, .slice A 0 c⟩) 52)) := (Below.refl _ _).alloc (Nat.le_refl _) _
    have hr : rowAt (w.alloc (.cells (opPC ⟨7, 0, ⟨#[]⟩, ⟨#[]⟩, ref, .slice A 0 c⟩) 52)) w.heap.size 0 37 = some (opPC ⟨7, 0, ⟨#[]⟩, ⟨#[]⟩, ref, .slice A 0 c⟩) := by simp [go_sem]
    have x0 := rowAt_cell hr (j := 0) (by omega); have x1 := rowAt_cell hr (j := 1) (by omega); have x2 := rowAt_cell hr (j := 2) (by omega); have x3 := rowAt_cell hr (j := 3) (by omega); have x5 := rowAt_cell hr (j := 36) (by omega)
    have x4 := rowAt_sub hr (j := 4) (m := 32) (by omega)
    simp only [opPC_g0, opPC_g1, opPC_g2, opPC_g3, opPC_g36, opPC_e4, Nat.zero_add] at x0 x1 x2 x3 x4 x5
    have c1 := rop_has 7 (w.alloc (.cells (opPC ⟨7, 0, ⟨#[]⟩, ⟨#[]⟩, ref, .slice A 0 c⟩) 52)) (by omega)
    have i1 := rop_in (hasS 7) 78 (w.alloc (.cells (opPC ⟨7, 0, ⟨#[]⟩, ⟨#[]⟩, ref, .slice A 0 c⟩) 52)) (by decide)
    have i2 := rop_in (hasS 7) 75 (w.alloc (.cells (opPC ⟨7, 0, ⟨#[]⟩, ⟨#[]⟩, ref, .slice A 0 c⟩) 52)) (by decide)
    have i3 := rop_in (hasS 7) 86 (w.alloc (.cells (opPC ⟨7, 0, ⟨#[]⟩, ⟨#[]⟩, ref, .slice A 0 c⟩) 52)) (by decide)
    have i4 := rop_in (hasS 7) 82 (w.alloc (.cells (opPC ⟨7, 0, ⟨#[]⟩, ⟨#[]⟩, ref, .slice A 0 c⟩) 52)) (by decide)
    have i5 := rop_in (hasS 7) 83 (w.alloc (.cells (opPC ⟨7, 0, ⟨#[]⟩, ⟨#[]⟩, ref, .slice A 0 c⟩) 52)) (by decide)
    rw [show inB (hasS 7) 78 = false by decide +kernel] at i1
    rw [show inB (hasS 7) 75 = false by decide +kernel] at i2
    rw [show inB (hasS 7) 86 = false by decide +kernel] at i3
    rw [show inB (hasS 7) 82 = true by decide +kernel] at i4
    rw [show inB (hasS 7) 83 = false by decide +kernel] at i5
    rw [show hasS 7 = ⟨#[82]⟩ from rfl] at c1 i1 i2 i3 i4 i5
    clear hr
    go_enter Tryz.func70, Tryz.ntmps70
    go_upto_region 1 with fail
    obtain ⟨ga, hga⟩ : ∃ ga, w.heap.size = ga := ⟨_, rfl⟩
    have Hga := Lib.hid hga
    rw [hga] at x0 x1 x2 x3 x4 x5 hB ⊢
    obtain ⟨W, hW⟩ : ∃ W, W = w.alloc (.cells (opPC ⟨7, 0, ⟨#[]⟩, ⟨#[]⟩, ref, .slice A 0 c⟩) 52) := ⟨_, rfl⟩
    rw [← hW] at x0 x1 x2 x3 x4 x5 hB c1 i1 i2 i3 i4 i5 hT0 ⊢
    clear hW hga
    go_wp2_with fail
    refine c1.mono ?_; rintro e w1 ⟨rfl, rfl⟩
    go_wp2_with fail
    refine i1.mono ?_; rintro e w1 ⟨rfl, rfl⟩
    go_wp2_with fail
    refine i2.mono ?_; rintro e w1 ⟨rfl, rfl⟩
    go_wp2_with fail
    refine i3.mono ?_; rintro e w1 ⟨rfl, rfl⟩
    go_wp2_with fail
    refine i4.mono ?_; rintro e w1 ⟨rfl, rfl⟩
    go_wp2_with fail
    refine i5.mono ?_; rintro e w1 ⟨rfl, rfl⟩
    clear c1 i1 i2 i3 i4 i5
    have cis := ris6 W A _ c _ hT0 hl
    rw [Hrb.out] at cis
    rw [← Hga.out] at hB
    go_wp2_with fail
    all_goals
      first
      | (go_ret; exact ⟨ret_int (by rw [Hck.out]; (try simp only [emptyS, List.length_nil] at *); (repeat' split) <;> (first | rfl | omega | (simp_all; done) | (simp_all; omega))), hB⟩)
      | (refine cis.mono ?_; rintro e w2 ⟨rfl, hb2⟩
         have hBB := bel2 hB hb2
         clear hT0 cis x0 x1 x2 x3 x4 x5 hb2
         cases rb <;> (go_wp2_with fail; go_ret; exact ⟨ret_int (by rw [Hck.out]; (try simp only [emptyS, List.length_nil] at *); (repeat' split) <;> (first | rfl | omega | (simp_all; done) | (simp_all; omega))), hBB⟩))

end Go.Proofs.YtgfpjjppeldhbaaGreatDoor

/- The reference Num (petrelref01): numbers and ids as bytes. -/
namespace Go.Proofs.YtgfpjjppeldhbaaGreatDoor
open Go.RowKit

def pow256 : Nat → Int | 0 => 1 | k + 1 => 256 * pow256 k

theorem beL_snoc (k n : Nat) : beL (k + 1) n = beL k (n / 256) ++ [UInt8.ofNat n] := by
  induction k generalizing n with
  | zero => simp [beL]
  | succ k ih =>
    have h1 := ih n
    show UInt8.ofNat (n / 256 ^ (k + 1)) :: beL (k + 1) n = (UInt8.ofNat (n / 256 / 256 ^ k) :: beL k (n / 256)) ++ [UInt8.ofNat n]
    rw [h1, Nat.pow_succ, Nat.mul_comm, ← Nat.div_div_eq_div_mul]
    rfl

theorem mk1 (w : World) : (Instr.makeSlice 37 (.int .i64 1) (.int .i64 1)).run Tryz.prog w = .ok (.slice (some ⟨w.heap.size, 0, none⟩) 1 1) (w.alloc (.cells #[.int .u8 0] 5)) := by kernel_rfl
theorem mk4 (w : World) : (Instr.makeSlice 37 (.int .i64 4) (.int .i64 4)).run Tryz.prog w = .ok (.slice (some ⟨w.heap.size, 0, none⟩) 4 4) (w.alloc (.cells #[.int .u8 0, .int .u8 0, .int .u8 0, .int .u8 0] 5)) := by kernel_rfl
theorem conv_bytes (w : World) (bs : List UInt8) (n : Nat) (hn : n = bs.length) (cs : Array Value) (hc : cs = (bs.map byteC).toArray) :
    (convert 37 9 (.slice (some ⟨w.heap.size, 0, none⟩) n n)).run Tryz.prog (w.alloc (.cells cs 5)) = .ok (.string ⟨bs.toArray⟩) (w.alloc (.cells cs 5)) := by
  subst hn; subst hc
  exact run_convert_bytes_back (P := Tryz.prog) _ 37 9 5 ⟨w.heap.size, 0, none⟩ bs.length bs Tryz.underlying37 Tryz.underlying5 Tryz.underlying9 (fun j hj => by simp [go_sem, byteC, hj])
theorem u8n (n : Nat) : ((n : Int) % 256) = ((UInt8.ofNat n).toNat : Int) := by simp
set_option maxHeartbeats 1000000 in
set_option maxRecDepth 100000 in
theorem rnum1 (n : Nat) (w : World) (h : n < 256) :
    Calls Tryz.prog 83 #[.int .i64 n, .int .i64 1] w fun e w' => e = .returned (.tuple #[.string ⟨(beL 1 n).toArray⟩, .int .i64 0]) ∧ Below w.heap.size w w' := by
  have hd1 : decide ((n : Int) < 0) = false := by simp
  have hd2 : decide (256 ≤ (n : Int)) = false := by simp; omega
  have hcv := conv_bytes w (beL 1 n) 1 rfl #[.int .u8 ((n : Int) % 256)] (by rw [u8n]; simp [beL, byteC])
  obtain ⟨bs, hbs⟩ : ∃ bs, beL 1 n = bs := ⟨_, rfl⟩
  rw [hbs] at hcv ⊢
  clear hbs
  have hmk := mk1
  go_enter Tryz.func83, Tryz.ntmps83
  go_wp2_with fail
  refine wp_loop_rounds 1 ?_
  rw [rounds_succ]
  go_wp2_with fail
  refine wp_loop_rounds 2 ?_
  rw [rounds_succ]
  go_wp2_with fail
  rw [rounds_succ]
  go_wp2_with fail
  go_ret2
  exact ⟨rfl, (Below.refl _ _).alloc (Nat.le_refl _) _⟩

set_option maxHeartbeats 1000000 in
set_option maxRecDepth 100000 in
theorem rnum4 (n : Nat) (w : World) (h : n < 4294967296) :
    Calls Tryz.prog 83 #[.int .i64 n, .int .i64 4] w fun e w' => e = .returned (.tuple #[.string ⟨(beL 4 n).toArray⟩, .int .i64 0]) ∧ Below w.heap.size w w' := by
  have hd1 : decide ((n : Int) < 0) = false := by simp
  have hd2 : decide (4294967296 ≤ (n : Int)) = false := by simp; omega
  have hcv := conv_bytes w (beL 4 n) 4 rfl #[.int .u8 ((n : Int) / 256 / 256 / 256 % 256), .int .u8 ((n : Int) / 256 / 256 % 256), .int .u8 ((n : Int) / 256 % 256), .int .u8 ((n : Int) % 256)] (by
    have e1 : (n : Int) / 256 = ((n / 256 : Nat) : Int) := by simp
    have e2 : ((n / 256 : Nat) : Int) / 256 = ((n / 256 / 256 : Nat) : Int) := by simp
    have e3 : ((n / 256 / 256 : Nat) : Int) / 256 = ((n / 256 / 256 / 256 : Nat) : Int) := by simp
    rw [e1, e2, e3, u8n, u8n, u8n, u8n, beL_snoc, beL_snoc, beL_snoc]
    simp [beL, byteC])
  obtain ⟨bs, hbs⟩ : ∃ bs, beL 4 n = bs := ⟨_, rfl⟩
  rw [hbs] at hcv ⊢
  clear hbs
  have hmk := mk4
  go_enter Tryz.func83, Tryz.ntmps83
  go_wp2_with fail
  refine wp_loop_rounds 4 ?_
  rw [rounds_succ]
  go_wp2_with fail
  rw [rounds_succ]
  go_wp2_with fail
  rw [rounds_succ]
  go_wp2_with fail
  rw [rounds_succ]
  go_wp2_with fail
  refine wp_loop_rounds 5 ?_
  rw [rounds_succ]
  go_wp2_with fail
  rw [rounds_succ]
  go_wp2_with fail
  rw [rounds_succ]
  go_wp2_with fail
  rw [rounds_succ]
  go_wp2_with fail
  rw [rounds_succ]
  go_wp2_with fail
  go_ret2
  exact ⟨rfl, (Below.refl _ _).alloc (Nat.le_refl _) _⟩

theorem rnumP (n M : Nat) (w : World) (hM : M = 1 ∨ M = 4) (h : n < 256 ^ M) :
    Calls Tryz.prog 83 #[.int .i64 n, .int .i64 M] w fun e w' => ∃ s : ByteArray, e = .returned (.tuple #[.string s, .int .i64 0]) ∧ s.size = M ∧ s.data.toList = beL M n ∧ Below w.heap.size w w' := by
  have c : Calls Tryz.prog 83 #[.int .i64 n, .int .i64 M] w fun e w' => e = .returned (.tuple #[.string ⟨(beL M n).toArray⟩, .int .i64 0]) ∧ Below w.heap.size w w' := by
    rcases hM with rfl | rfl
    · exact rnum1 n w h
    · exact rnum4 n w h
  exact c.mono fun _ _ ⟨he, hb⟩ => ⟨_, he, (by show (beL M n).toArray.size = M; simp [beL_length]), by simp, hb⟩

end Go.Proofs.YtgfpjjppeldhbaaGreatDoor

/- The reference of operations (petrelref07): Put of an increment. -/
namespace Go.Proofs.YtgfpjjppeldhbaaGreatDoor
open Go.RowKit

theorem chk_inc (n : Nat) (hn : n < 1000) : chkN ⟨1, n, ⟨#[]⟩, ⟨#[]⟩, id0, []⟩ = 0 := by
  unfold chkN numO risI
  simp only [emptyS, List.length_nil]
  have h1 : decide ((n : Int) < 2147483648) = true := decide_eq_true (by omega)
  have h2 : decide (-2147483648 ≤ (n : Int)) = true := decide_eq_true (by omega)
  rw [h1, h2]
  rfl
/-- The bytes of an increment. -/
def incL (n : Nat) : List UInt8 := beL 1 1 ++ beL 4 (n + 2147483648)
set_option maxRecDepth 100000 in
set_option maxHeartbeats 2000000 in
theorem rop_put_inc (n : Nat) (w : World) (hn : n < 1000) :
    Calls Tryz.prog 41 #[.agg (opPC ⟨1, n, ⟨#[]⟩, ⟨#[]⟩, id0, .slice none 0 0⟩)] w fun e w' => ∃ s : ByteArray, e = .returned (.tuple #[.string s, .int .i64 0]) ∧ s.data.toList = incL n ∧ Below w.heap.size w w' := by
  have hB : Below w.heap.size w (w.alloc (.cells (opPC ⟨1, n, ⟨#[]⟩, ⟨#[]⟩, id0, .slice none 0 0⟩) 52)) := (Below.refl _ _).alloc (Nat.le_refl _) _
  have hr : rowAt (w.alloc (.cells (opPC ⟨1, n, ⟨#[]⟩, ⟨#[]⟩, id0, .slice none 0 0⟩) 52)) w.heap.size 0 37 = some (opPC ⟨1, n, ⟨#[]⟩, ⟨#[]⟩, id0, .slice none 0 0⟩) := by simp [go_sem]
  have cck := rop_check ⟨1, n, ⟨#[]⟩, ⟨#[]⟩, id0, []⟩ none 0 (w.alloc (.cells (opPC ⟨1, n, ⟨#[]⟩, ⟨#[]⟩, id0, .slice none 0 0⟩) 52)) (.inl ⟨rfl, rfl, rfl, rfl, rfl⟩) SlR.nil_ (by simp) (by rw [emptyS]; omega) (by rw [emptyS]; omega)
  rw [chk_inc n hn] at cck
  change Calls Tryz.prog _ #[.agg (opPC ⟨1, n, ⟨#[]⟩, ⟨#[]⟩, id0, .slice none 0 0⟩)] _ _ at cck
  go_enter Tryz.func41, Tryz.ntmps41
  go_upto_region 1 with fail
  obtain ⟨ga, hga⟩ : ∃ ga, w.heap.size = ga := ⟨_, rfl⟩
  have Hga := Lib.hid hga
  rw [hga] at hr hB ⊢
  obtain ⟨W, hW⟩ : ∃ W, W = w.alloc (.cells (opPC ⟨1, n, ⟨#[]⟩, ⟨#[]⟩, id0, .slice none 0 0⟩) 52) := ⟨_, rfl⟩
  rw [← hW] at hr hB cck ⊢
  clear hW hga
  go_wp2_with fail
  refine cck.mono ?_; rintro e w1 ⟨rfl, hb1⟩
  have hr1 : rowAt w1 ga 0 37 = some (opPC ⟨1, n, ⟨#[]⟩, ⟨#[]⟩, id0, .slice none 0 0⟩) := (rowAt_of_block (hb1.block ga (rowAt_lt hr)) _ _).trans hr
  have hB1 : Below ga w w1 := hB.trans (hb1.mono (by have := hB.size; have := Hga.out; omega))
  have x0 := rowAt_cell hr1 (j := 0) (by omega)
  rw [opPC_g0, Nat.zero_add] at x0
  clear hr hB cck hb1
  go_wp2_with fail
  refine (rnumP 1 1 _ (.inl rfl) (by omega)).mono ?_; rintro e w2 ⟨s1, rfl, hs1, hl1, hb2⟩
  have hr2 : rowAt w2 ga 0 37 = some (opPC ⟨1, n, ⟨#[]⟩, ⟨#[]⟩, id0, .slice none 0 0⟩) := (rowAt_of_block (hb2.block ga (rowAt_lt hr1)) _ _).trans hr1
  have hB2 : Below ga w w2 := hB1.trans (hb2.mono (by have := rowAt_lt hr1; omega))
  clear hr1 hB1 hb2 x0
  have x0 := rowAt_cell hr2 (j := 0) (by omega); have x1 := rowAt_cell hr2 (j := 1) (by omega)
  rw [opPC_g0, Nat.zero_add] at x0
  rw [opPC_g1, Nat.zero_add] at x1
  have Hl1 := Lib.hid hl1; have Hs1 := Lib.hid hs1
  clear hl1
  have ch := rop_has 1 w2 (by omega)
  rw [show hasS 1 = ⟨#[78]⟩ from rfl] at ch
  go_wp2_with fail
  refine ch.mono ?_; rintro e w3 ⟨rfl, rfl⟩
  have hb0 : (((⟨#[78]⟩ : ByteArray)[0]'(by decide)).toNat : Int) = 78 := rfl
  have cn := rnumP (n + 2147483648) 4 w2 (.inr rfl) (by omega)
  rw [show ((n + 2147483648 : Nat) : Int) = (n : Int) + 2147483648 from by omega] at cn
  have hw1 : ((n : Int) + 2147483648 + 9223372036854775808) % 18446744073709551616 - 9223372036854775808 = (n : Int) + 2147483648 := by omega
  have hle : (((⟨#[78]⟩ : ByteArray).size : Nat) : Int) = 1 := rfl
  go_wp2_with fail
  refine wp_loop_rounds 2 ?_
  rw [rounds_succ]
  go_wp2_with fail
  refine cn.mono ?_; rintro e w4 ⟨s2, rfl, hs2, hl2, hb4⟩
  have hB4 : Below ga w w4 := hB2.trans (hb4.mono (by have := rowAt_lt hr2; omega))
  have hsz : (s1 ++ s2).size ≤ 9223372036854775807 := by rw [ByteArray.size_append]; omega
  have hss : ¬ 9223372036854775807 < s1.size + s2.size := by omega
  have Hl2 := Lib.hid hl2
  clear hb4 hr2 x0 x1 hl2 cn
  go_wp2_with fail
  rw [rounds_succ]
  go_wp2_with fail
  go_ret2
  refine ⟨s1 ++ s2, rfl, ?_, by rw [Hga.out]; exact hB4⟩
  rw [ByteArray.data_append, Array.toList_append, Hl1.out, Hl2.out]; rfl

theorem inc2_e : opE (incL 2) = 0 := by decide +kernel
theorem inc2_k : (opO (incL 2)).k = 1 := by decide +kernel
theorem inc2_n : (opO (incL 2)).n = 2 := by decide +kernel

end Go.Proofs.YtgfpjjppeldhbaaGreatDoor

/- The reference Same (petrelref26): are two values one? -/
namespace Go.Proofs.YtgfpjjppeldhbaaGreatDoor
open Go.RowKit

/-- A value, its pairs told. -/
def valC (k n : Int) (A : Option Addr) (m c : Nat) : Array Value := valVC ⟨k, n, .slice A m c⟩

set_option maxRecDepth 100000 in
set_option maxHeartbeats 1000000 in
theorem rsame26 (w : World) (k n k' n' : Int) (A B : Option Addr) (m m' c c' : Nat) (X Y : List Pair) (hx : PairsIn w A m X) (hy : PairsIn w B m' Y) (hm : m ≤ 1000000) (hm' : m' ≤ 1000000) :
    Calls Tryz.prog 15 #[.agg (valC k n A m c), .agg (valC k' n' B m' c')] w fun e w' => e = .returned (.bool (decide (k = k' ∧ n = n' ∧ X = Y))) ∧ Below w.heap.size w w' := by
  have hB : Below w.heap.size w ((w.alloc (.cells (valC k n A m c) 25)).alloc (.cells (valC k' n' B m' c') 25)) := ((Below.refl _ _).alloc (Nat.le_refl _) _).alloc (by simp) _
  have hx1 := SlR.below hx hB
  have hy1 := SlR.below hy hB
  have cp := rpairs _ A B m m' c c' X Y hx1 hy1 hm hm'
  unfold valC at hB cp ⊢
  have hd : decide (k = k' ∧ n = n' ∧ X = Y) = ((k == k') && (n == n') && decide (X = Y)) := by
    rw [Bool.eq_iff_iff]; simp [and_assoc]
  obtain ⟨b, hb⟩ : ∃ b, decide (X = Y) = b := ⟨_, rfl⟩
  rw [hb] at cp hd
  have Hd := Lib.hid hd
  clear hd hx1 hy1 hb hx hy
  obtain ⟨b1, h1⟩ : ∃ b1, (k == k') = b1 := ⟨_, rfl⟩
  obtain ⟨b2, h2⟩ : ∃ b2, (n == n') = b2 := ⟨_, rfl⟩
  have Hd2 : Hid (decide (k = k' ∧ n = n' ∧ X = Y) = (b1 && b2 && b)) := by show _ = _; rw [Hd.out, h1, h2]
  clear Hd
  cases b1 <;> cases b2
  all_goals
    go_enter Tryz.func15, Tryz.ntmps15
    go_wp2_with fail
    first
    | (go_ret; exact ⟨ret_bool (by rw [Hd2.out]; rfl), hB⟩)
    | (refine cp.mono ?_; rintro e w1 ⟨rfl, hb1⟩
       have hBB := bel2 hB hb1
       clear cp hb1 hB
       go_wp2_with fail
       go_ret
       exact ⟨ret_bool (by rw [Hd2.out]; rfl), hBB⟩)

end Go.Proofs.YtgfpjjppeldhbaaGreatDoor

/- Package view: a view that nobody made; the law's awake. -/
namespace Go.Proofs.YtgfpjjppeldhbaaGreatDoor
open Go.RowKit

theorem vfold_nil (m : MarkV) (w : World) : Calls Tryz.prog 26 #[.pointer none, .agg (markVC m)] w fun e w' => e = .returned (.bool false) ∧ Below w.heap.size w w' := by
  have hB : Below w.heap.size w (w.alloc (.cells (markVC m) 41)) := (Below.refl _ _).alloc (Nat.le_refl _) _
  go_enter Tryz.func26, Tryz.ntmps26
  go_upto_region 1 with fail
  generalize w.alloc (.cells (markVC m) 41) = W at *
  refine wp_region_lex (Bel W) false (by kernel_rfl) (by kernel_rfl) (by kernel_rfl) (bel_drew W) ?_
  have hne := bel_some W
  have hS := bel_drew W
  repeat (refine wpLx_loose ?_ ?_; (focus (simp only [chainOp]; done)); intro K hK; go_simp; refine hK _ ?_; clear hK K)
  refine wpLx_chain ?_ ?_ ?_
  focus (exact hS)
  focus (simp only [chainOp]; done)
  intro K hK
  go_simp
  refine (vnone_nil _).mono ?_
  rintro e w' ⟨rfl, rfl⟩
  refine ⟨_, rfl, hS, hK _ _ ?_⟩
  clear hK K
  repeat (refine wpLx_loose ?_ ?_; (focus (simp only [chainOp]; done)); intro K hK; go_simp; refine hK _ ?_; clear hK K)
  refine wpLx_nil ?_
  intro hS
  go_wp2_with fail
  go_ret
  exact ⟨rfl, bel2 hB hS⟩
theorem vfold_zero (m : MarkV) (w : World) (g : Nat) (h : w.cell? ⟨g, 1, none⟩ = some (.map none)) : Calls Tryz.prog 26 #[.pointer (some ⟨g, 0, none⟩), .agg (markVC m)] w fun e w' => e = .returned (.bool false) ∧ Below w.heap.size w w' := by
  have hB : Below w.heap.size w (w.alloc (.cells (markVC m) 41)) := (Below.refl _ _).alloc (Nat.le_refl _) _
  have hc : (w.alloc (.cells (markVC m) 41)).cell? ⟨g, 1, none⟩ = some (.map none) := (World.cell?_alloc_lt w _ _ (World.block_lt_of_cell? w _ h)).trans h
  go_enter Tryz.func26, Tryz.ntmps26
  go_upto_region 1 with fail
  generalize w.alloc (.cells (markVC m) 41) = W at *
  refine wp_region_lex (Bel W) false (by kernel_rfl) (by kernel_rfl) (by kernel_rfl) (bel_drew W) ?_
  have hne := bel_some W
  have hS := bel_drew W
  repeat (refine wpLx_loose ?_ ?_; (focus (simp only [chainOp]; done)); intro K hK; go_simp; refine hK _ ?_; clear hK K)
  refine wpLx_chain ?_ ?_ ?_
  focus (exact hS)
  focus (simp only [chainOp]; done)
  intro K hK
  go_simp
  refine (vnone_zero W.drew g hc).mono ?_
  rintro e w' ⟨rfl, rfl⟩
  refine ⟨_, rfl, hS, hK _ _ ?_⟩
  clear hK K
  repeat (refine wpLx_loose ?_ ?_; (focus (simp only [chainOp]; done)); intro K hK; go_simp; refine hK _ ?_; clear hK K)
  refine wpLx_nil ?_
  intro hS
  go_wp2_with fail
  go_ret
  exact ⟨rfl, bel2 hB hS⟩
set_option maxRecDepth 100000 in
theorem vval_nil (w : World) : Calls Tryz.prog 24 #[.pointer none] w fun e w' => e = .returned (.agg (valVC valV0)) ∧ Below w.heap.size w w' := by
  have hB : Below w.heap.size w (w.alloc (.cells (valVC valV0) 25)) := (Below.refl _ _).alloc (Nat.le_refl _) _
  have hg : (w.alloc (.cells (valVC valV0) 25)).heap[w.heap.size]? = some (.cells (valVC valV0) 25 (0, 0)) := heap_alloc_new w _
  go_enter Tryz.func24, Tryz.ntmps24
  go_upto_region 1 with fail
  obtain ⟨ga, hga⟩ : ∃ ga, w.heap.size = ga := ⟨_, rfl⟩
  have Hga := Lib.hid hga
  rw [hga] at hg hB ⊢
  obtain ⟨W, hW⟩ : ∃ W, W = w.alloc (.cells (valVC valV0) 25) := ⟨_, rfl⟩
  rw [← hW] at hg hB  ⊢
  clear hW hga
  go_wp2_with fail
  refine (vnone_nil _).mono ?_; rintro e w1 ⟨rfl, rfl⟩
  have hsto := run_stS_at (P := Tryz.prog) infoValV W ga (valVC valV0) (valVC valV0) _ hg (by simp) (by simp) (valVC_one _ rfl)
  have hkf : Keep [ga] W (W.setRow ga (valVC valV0)) := ⟨rfl, rfl, rfl, by simp [World.setRow], fun x _ hx => setRow_other W ga x _ (by simpa using hx)⟩
  have Hfin := Lib.hid (setRow_heap W ga _ (valVC valV0) _ _ hg)
  have hBf : Below ga w (W.setRow ga (valVC valV0)) := hB.trans (hkf.below (by have := hB.size; have := Hga.out; omega) (by simp))
  have HBf := Lib.hid hBf
  clear hBf hkf hg hB
  go_wp2_with fail
  refine bodyPost_ret (results_cell_row Tryz.results24 _ _ ga 25 (valVC valV0) (0, 0) _ rfl Hfin.out Tryz.underlying25 rfl (by rw [valVC_size]; exact infoValV)) rfl ?_
  exact ⟨rfl, by rw [Hga.out]; exact HBf.out⟩
set_option maxRecDepth 100000 in
theorem vval_zero (w : World) (g : Nat) (h : w.cell? ⟨g, 1, none⟩ = some (.map none)) : Calls Tryz.prog 24 #[.pointer (some ⟨g, 0, none⟩)] w fun e w' => e = .returned (.agg (valVC valV0)) ∧ Below w.heap.size w w' := by
  have hc : (w.alloc (.cells (valVC valV0) 25)).cell? ⟨g, 1, none⟩ = some (.map none) := (World.cell?_alloc_lt w _ _ (World.block_lt_of_cell? w _ h)).trans h
  have hB : Below w.heap.size w (w.alloc (.cells (valVC valV0) 25)) := (Below.refl _ _).alloc (Nat.le_refl _) _
  have hg : (w.alloc (.cells (valVC valV0) 25)).heap[w.heap.size]? = some (.cells (valVC valV0) 25 (0, 0)) := heap_alloc_new w _
  go_enter Tryz.func24, Tryz.ntmps24
  go_upto_region 1 with fail
  obtain ⟨ga, hga⟩ : ∃ ga, w.heap.size = ga := ⟨_, rfl⟩
  have Hga := Lib.hid hga
  rw [hga] at hg hB ⊢
  obtain ⟨W, hW⟩ : ∃ W, W = w.alloc (.cells (valVC valV0) 25) := ⟨_, rfl⟩
  rw [← hW] at hg hB hc ⊢
  clear hW hga
  go_wp2_with fail
  refine (vnone_zero _ g hc).mono ?_; rintro e w1 ⟨rfl, rfl⟩
  have hsto := run_stS_at (P := Tryz.prog) infoValV W ga (valVC valV0) (valVC valV0) _ hg (by simp) (by simp) (valVC_one _ rfl)
  have hkf : Keep [ga] W (W.setRow ga (valVC valV0)) := ⟨rfl, rfl, rfl, by simp [World.setRow], fun x _ hx => setRow_other W ga x _ (by simpa using hx)⟩
  have Hfin := Lib.hid (setRow_heap W ga _ (valVC valV0) _ _ hg)
  have hBf : Below ga w (W.setRow ga (valVC valV0)) := hB.trans (hkf.below (by have := hB.size; have := Hga.out; omega) (by simp))
  have HBf := Lib.hid hBf
  clear hBf hkf hg hB
  go_wp2_with fail
  refine bodyPost_ret (results_cell_row Tryz.results24 _ _ ga 25 (valVC valV0) (0, 0) _ rfl Hfin.out Tryz.underlying25 rfl (by rw [valVC_size]; exact infoValV)) rfl ?_
  exact ⟨rfl, by rw [Hga.out]; exact HBf.out⟩

def id1v : Id32 := ⟨1 :: List.replicate 31 0, by simp⟩
@[go_sem ↓] theorem buildId1v_run (w : World) : (Instr.build 39 #[(0, .int .u8 1)]).run Tryz.prog w = .ok (.agg (idC id1v)) w := by kernel_rfl
@[go_sem] theorem id1v_set : (idC id0).setIfInBounds 0 (.int .u8 1) = idC id1v := by simp [idC, id0, id1v, byteC, List.replicate]
def caS : ByteArray := ⟨#[99, 97]⟩
theorem ca_kind : kindB caS = 1 := by decide +kernel

set_option maxRecDepth 100000 in
set_option maxHeartbeats 1000000 in
theorem awake26 (w : World) (hp : PartsVar w) : Calls Tryz.prog 22 #[] w fun e w' => e = .returned (.bool true) ∧ Below w.heap.size w w' := by
  have hca : (⟨#[99, 97]⟩ : ByteArray) = caS := rfl
  have c1 := vnew caS w (by decide) 1 ca_kind (by omega) 100 (fun a b gs => gs = a.heap.size ∧ TallyAt b gs 0) (fun w => (vfresh_t w).mono fun e w' ⟨h1, h2, h3⟩ => ⟨w.heap.size, h1, ⟨rfl, h2⟩, h3⟩)
  go_enter Tryz.func22, Tryz.ntmps22
  go_wp2_with fail
  refine c1.mono ?_; rintro e w1 ⟨g, b, gt, w2, w3, rfl, hv, ⟨hgt, hT⟩, hb23, hb31, hg, hbl, hb2, hB⟩
  have hT1 : TallyAt w1 gt 0 := hT.kept (Keep.of_below hb31) (by simp)
  have hgtb : gt ≠ b := by omega
  have hgtg : gt ≠ g := by have := hT.lt; omega
  have hgl : w.heap.size ≤ gt := by have := hb23.size; have := hB.size; omega
  have hp1 := hp.below hB
  have hbn : b ≠ 0 := by have := hp.lt; omega
  clear hT hgt hb23 hb31 hg hb2 c1 hca
  have cp := rop_put_inc 2 w1 (by omega)
  change Calls Tryz.prog _ #[.agg (opPC ⟨1, 2, ⟨#[]⟩, ⟨#[]⟩, id0, .slice none 0 0⟩)] _ _ at cp
  go_wp2_with fail
  refine cp.mono ?_; rintro e w4 ⟨s, rfl, hs, hb4⟩
  have hv4 := hv.below hb4
  have hT4 : TallyAt w4 gt 0 := hT1.kept (Keep.of_below hb4) (by simp)
  have hp4 := hp1.below hb4
  have hB4 := bel2 hB hb4
  clear hv hT1 hp1 hb4 cp hB
  have hfit : fits caS ⟨id1v, 1, s⟩ := by
    unfold fits
    simp only [hs]
    exact ⟨inc2_e, by rw [inc2_k, ca_kind]; rfl⟩
  have hsz : s.size ≤ 9223372036854775807 := by
    have : s.data.toList.length = 5 := by rw [hs]; rfl
    have e : s.size = s.data.toList.length := Array.length_toList.symm
    omega
  have cf := vfold_new ⟨id1v, 1, s⟩ w4 g caS b [] _ hv4 (by simp) hp4 hbn hsz (by decide)
    (fun w' => ViewAt w' g caS b [id1v] (.iface 100 (.pointer (some ⟨gt, 0, none⟩))) ∧ TallyAt w' gt 2 ∧ Below w.heap.size w w')
    (fun hn => absurd hfit hn)
    (fun _ w5 A c hv5 hk5 hp5 _ => by
      have hT5 : TallyAt w5 gt 0 := hT4.kept hk5 (by simpa using hgtb)
      have hn : (opO s.data.toList).n = 2 := by rw [hs]; exact inc2_n
      refine (vdoes_t ⟨id1v, 1, s⟩ _ A c w5 g gt caS b _ 0 hv5 hT5 (by rw [hn]; omega) (by rw [hn]; omega)).mono ?_
      rintro e w6 ⟨rfl, h6, hk6⟩
      rw [hn, show wrap64 (0 + 2) = 2 from by decide +kernel] at h6
      refine ⟨rfl, hv5.kept hk6 (by simpa using fun e => hgtg e.symm) (by simpa using fun e => hgtb e.symm), h6, ?_⟩
      have hB5 := hB4.trans (hk5.below (B := w.heap.size) hB4.size (by simpa using hbl))
      exact hB5.trans (hk6.below (B := w.heap.size) hB5.size (by simpa using hgl)))
  have Hcf := cf
  clear hfit hs hsz cf hp4 hT4
  go_wp2_with fail
  refine Hcf.mono ?_; rintro e w5 ⟨rfl, hv5, hT5, hB5⟩
  clear Hcf hv4 hB4
  have cv := vvalue_t w5 g gt caS b _ 2 hv5 hT5 (by decide) ca_kind
  go_wp2_with fail
  refine cv.mono ?_; rintro e w6 ⟨rfl, hb6⟩
  have hv6 := hv5.below hb6
  have hB6 := bel2 hB5 hb6
  clear cv hv5 hT5 hB5 hb6
  have ch := vhas id1v w6 g caS b _ _ hv6
  rw [show decide (id1v ∈ [id1v]) = true from by simp] at ch
  go_wp2_with fail
  refine ch.mono ?_; rintro e w7 ⟨rfl, hb7⟩
  have hB7 := bel2 hB6 hb7
  clear ch hv6 hB6 hb7
  go_wp2_with fail
  go_ret
  exact ⟨rfl, hB7⟩

set_option maxRecDepth 100000 in
set_option maxHeartbeats 2000000 in
theorem viewZero_any (m : MarkV) (w : World) (hp : PartsVar w) : Calls Tryz.prog 8 #[.agg (markVC m)] w fun e w' => e = .returned (.bool true) ∧ Below w.heap.size w w' := by
  have hz : ∀ w, (zeroValue 79).run Tryz.prog w = .ok (.agg #[.string ⟨#[]⟩, .map none, .nilIface]) w := fun w => by kernel_rfl
  go_enter Tryz.func8, Tryz.ntmps8
  go_wp2_with fail
  refine (vfold_nil m _).mono ?_; rintro e w1 ⟨rfl, hb1⟩
  have h1 : w1.cell? ⟨w.heap.size + 1, 1, none⟩ = some (.map none) := (hb1.cell (p := ⟨w.heap.size + 1, 1, none⟩) (by simp)).trans (by simp [go_sem])
  have r1 : rowAt w1 w.heap.size 0 34 = some (markVC m) := (rowAt_of_block (hb1.block w.heap.size (by simp; omega)) 0 34).trans (by simp [go_sem])
  have hw1 : Below w.heap.size w w1 := bel2 (((Below.refl _ _).alloc (Nat.le_refl _) _).alloc (by simp) _) hb1
  clear hb1
  go_wp2_with fail
  refine (vfold_zero m _ _ h1).mono ?_; rintro e w2 ⟨rfl, hb2⟩
  have h2 : w2.cell? ⟨w.heap.size + 1, 1, none⟩ = some (.map none) := (hb2.cell (World.block_lt_of_cell? w1 _ h1)).trans h1
  have r2 : rowAt w2 w.heap.size 0 34 = some (markVC m) := (rowAt_of_block (hb2.block w.heap.size (rowAt_lt r1)) 0 34).trans r1
  have hw2 := bel2 hw1 hb2
  clear hb2 h1 hw1 r1
  have d2 := rowAt_sub r2 (j := 0) (m := 32) (by omega)
  rw [markVC_e0] at d2
  go_wp2_with fail
  refine (vhas_nil m.id _).mono ?_; rintro e w3 ⟨rfl, hb3⟩
  have h3 : w3.cell? ⟨w.heap.size + 1, 1, none⟩ = some (.map none) := (hb3.cell (World.block_lt_of_cell? w2 _ h2)).trans h2
  have d3 : rowAt w3 w.heap.size 0 32 = some (idC m.id) := (rowAt_of_block (hb3.block w.heap.size (rowAt_lt d2)) 0 32).trans d2
  have hw3 := bel2 hw2 hb3
  clear hb3 h2 hw2 r2 d2
  go_wp2_with fail
  refine (vhas_zero m.id _ _ h3).mono ?_; rintro e w4 ⟨rfl, hb4⟩
  have h4 : w4.cell? ⟨w.heap.size + 1, 1, none⟩ = some (.map none) := (hb4.cell (World.block_lt_of_cell? w3 _ h3)).trans h3
  have hw4 := bel2 hw3 hb4
  clear hb4 h3 hw3 d3
  go_wp2_with fail
  refine (vids_nil _).mono ?_; rintro e w5 ⟨rfl, rfl⟩
  go_wp2_with fail
  refine (vids_zero _ _ h4).mono ?_; rintro e w5 ⟨rfl, rfl⟩
  go_wp2_with fail
  refine (vtop_nil _).mono ?_; rintro e w5 ⟨rfl, rfl⟩
  go_wp2_with fail
  refine (vtop_zero _ _ h4).mono ?_; rintro e w5 ⟨rfl, rfl⟩
  go_wp2_with fail
  refine (vput_nil _).mono ?_; rintro e w5 ⟨rfl, rfl⟩
  go_wp2_with fail
  refine (vput_zero _ _ h4).mono ?_; rintro e w5 ⟨rfl, rfl⟩
  have he : ((⟨#[]⟩ : ByteArray) ++ ⟨#[]⟩) = ⟨#[]⟩ := rfl
  have h00 : (((⟨#[]⟩ : ByteArray) ++ ⟨#[]⟩) ++ ⟨#[]⟩) ++ ⟨#[]⟩ = ⟨#[]⟩ := rfl
  go_wp2_with fail
  refine (vval_nil _).mono ?_; rintro e w5 ⟨rfl, hb5⟩
  have h5 : w5.cell? ⟨w.heap.size + 1, 1, none⟩ = some (.map none) := (hb5.cell (World.block_lt_of_cell? w4 _ h4)).trans h4
  have hw5 := bel2 hw4 hb5
  clear hb5 h4 hw4
  have cs := rsame26 w5 0 0 0 0 none none 0 0 0 0 [] [] SlR.nil_ SlR.nil_ (by omega) (by omega)
  change Calls Tryz.prog _ #[.agg (valVC valV0), .agg (valVC valV0)] _ _ at cs
  rw [show decide ((0 : Int) = 0 ∧ (0 : Int) = 0 ∧ ([] : List Pair) = []) = true from by simp] at cs
  go_wp2_with fail
  refine cs.mono ?_; rintro e w6 ⟨rfl, hb6⟩
  have h6 : w6.cell? ⟨w.heap.size + 1, 1, none⟩ = some (.map none) := (hb6.cell (World.block_lt_of_cell? w5 _ h5)).trans h5
  have hw6 := bel2 hw5 hb6
  clear hb6 h5 hw5 cs
  go_wp2_with fail
  refine (vval_zero _ _ h6).mono ?_; rintro e w7 ⟨rfl, hb7⟩
  have hw7 := bel2 hw6 hb7
  clear hb7 h6 hw6
  have cs := rsame26 w7 0 0 0 0 none none 0 0 0 0 [] [] SlR.nil_ SlR.nil_ (by omega) (by omega)
  change Calls Tryz.prog _ #[.agg (valVC valV0), .agg (valVC valV0)] _ _ at cs
  rw [show decide ((0 : Int) = 0 ∧ (0 : Int) = 0 ∧ ([] : List Pair) = []) = true from by simp] at cs
  go_wp2_with fail
  refine cs.mono ?_; rintro e w8 ⟨rfl, hb8⟩
  have hw8 := bel2 hw7 hb8
  clear hb8 hw7 cs
  go_wp2_with fail
  refine (awake26 w8 (hp.below hw8)).mono ?_; rintro e w9 ⟨rfl, hb9⟩
  have hw9 := bel2 hw8 hb9
  clear hb9 hw8
  go_wp2_with fail
  go_ret
  exact ⟨rfl, hw9⟩

end Go.Proofs.YtgfpjjppeldhbaaGreatDoor

/- The reference of operations (petrelref07.Of): the plain law, field by field. -/
namespace Go.Proofs.YtgfpjjppeldhbaaGreatDoor
open Go.RowKit

/-- An operation being read: its fields, the bytes left, the fault. -/
structure OfS where
  n : Int
  key : ByteArray
  val : ByteArray
  ref : Id32
  refs : List Id32
  l : List UInt8
  e : Int
def ofS0 (l : List UInt8) (e : Int) : OfS := ⟨0, ⟨#[]⟩, ⟨#[]⟩, id0, [], l, e⟩
def ofLoop (N : Nat) (s : IdsR) : IdsR := idLoop N s
/-- One field more, by its letter. -/
def ofStep (k : Nat) (s : OfS) (c : UInt8) : OfS :=
  if c = 78 then ⟨if k = 1 then (numV 4 s.l s.e : Int) - 2147483648 else (numV 4 s.l s.e : Int), s.key, s.val, s.ref, s.refs, rawL 4 s.l s.e, rawE 4 s.l s.e⟩
  else if c = 75 then ⟨s.n, txV s.l s.e, s.val, s.ref, s.refs, txL s.l s.e, txE s.l s.e⟩
  else if c = 86 then ⟨s.n, s.key, txV s.l s.e, s.ref, s.refs, txL s.l s.e, txE s.l s.e⟩
  else if c = 82 then ⟨s.n, s.key, s.val, idOf (rawV 32 s.l s.e), s.refs, rawL 32 s.l s.e, rawE 32 s.l s.e⟩
  else ⟨s.n, s.key, s.val, s.ref, (ofLoop (numV 1 s.l s.e) ⟨s.refs, rawL 1 s.l s.e, rawE 1 s.l s.e⟩).ids, (ofLoop (numV 1 s.l s.e) ⟨s.refs, rawL 1 s.l s.e, rawE 1 s.l s.e⟩).l, (ofLoop (numV 1 s.l s.e) ⟨s.refs, rawL 1 s.l s.e, rawE 1 s.l s.e⟩).e⟩
section
variable (k : Nat) (n : Int) (key val : ByteArray) (ref : Id32) (refs : List Id32) (l : List UInt8) (e : Int)
theorem of_78 : ofStep k ⟨n, key, val, ref, refs, l, e⟩ 78 = ⟨if k = 1 then (numV 4 l e : Int) - 2147483648 else (numV 4 l e : Int), key, val, ref, refs, rawL 4 l e, rawE 4 l e⟩ := rfl
theorem of_75 : ofStep k ⟨n, key, val, ref, refs, l, e⟩ 75 = ⟨n, txV l e, val, ref, refs, txL l e, txE l e⟩ := rfl
theorem of_86 : ofStep k ⟨n, key, val, ref, refs, l, e⟩ 86 = ⟨n, key, txV l e, ref, refs, txL l e, txE l e⟩ := rfl
theorem of_82 : ofStep k ⟨n, key, val, ref, refs, l, e⟩ 82 = ⟨n, key, val, idOf (rawV 32 l e), refs, rawL 32 l e, rawE 32 l e⟩ := rfl
theorem of_83 : ofStep k ⟨n, key, val, ref, refs, l, e⟩ 83 = ⟨n, key, val, ref, (ofLoop (numV 1 l e) ⟨refs, rawL 1 l e, rawE 1 l e⟩).ids, (ofLoop (numV 1 l e) ⟨refs, rawL 1 l e, rawE 1 l e⟩).l, (ofLoop (numV 1 l e) ⟨refs, rawL 1 l e, rawE 1 l e⟩).e⟩ := rfl
end
def OfS.op (k : Nat) (s : OfS) : OpR := ⟨⟨k, s.n, s.key, s.val, s.ref, s.refs⟩, s.l, s.e⟩
theorem of_run (k : Nat) (l : List UInt8) (e : Int) (h1 : 1 ≤ k) (h7 : k ≤ 7) : ((hasS k).data.toList.foldl (ofStep k) (ofS0 l e)).op k = takeO k l e := by
  have h : k = 1 ∨ k = 2 ∨ k = 3 ∨ k = 4 ∨ k = 5 ∨ k = 6 ∨ k = 7 := by omega
  rcases h with rfl | rfl | rfl | rfl | rfl | rfl | rfl <;> rfl
theorem has_size (k : Nat) : (hasS k).size ≤ 3 := by
  unfold hasS
  repeat' split
  all_goals decide
theorem has_chars (k : Nat) : ∀ c ∈ (hasS k).data.toList, c = 78 ∨ c = 75 ∨ c = 86 ∨ c = 82 ∨ c = 83 := by
  unfold hasS
  repeat' split
  all_goals decide
theorem has_empty (k : Nat) : (hasS k).toList.isEmpty = decide (k = 0 ∨ 7 < k) := by
  rw [ByteArray.toList_eq]
  by_cases h : k ≤ 7
  · have h8 : k = 0 ∨ k = 1 ∨ k = 2 ∨ k = 3 ∨ k = 4 ∨ k = 5 ∨ k = 6 ∨ k = 7 := by omega
    rcases h8 with rfl | rfl | rfl | rfl | rfl | rfl | rfl | rfl <;> rfl
  · have hs : hasS k = ⟨#[]⟩ := by unfold hasS; rw [if_neg (by omega), if_neg (by omega), if_neg (by omega), if_neg (by omega), if_neg (by omega), if_neg (by omega), if_neg (by omega)]
    rw [hs, decide_eq_true (by omega)]; rfl
theorem take_small (k : Nat) (l : List UInt8) (e : Int) (h1 : 1 ≤ k) (h7 : k ≤ 7) : (takeO k l e).o.key.size ≤ 9223372036854775807 ∧ (takeO k l e).o.val.size ≤ 9223372036854775807 := by
  have hz : (⟨#[]⟩ : ByteArray).size = 0 := rfl
  have ht := fun l e => txV_size l e
  have h : k = 1 ∨ k = 2 ∨ k = 3 ∨ k = 4 ∨ k = 5 ∨ k = 6 ∨ k = 7 := by omega
  rcases h with rfl | rfl | rfl | rfl | rfl | rfl | rfl
  · exact ⟨by show (⟨#[]⟩ : ByteArray).size ≤ _; omega, by show (⟨#[]⟩ : ByteArray).size ≤ _; omega⟩
  · exact ⟨by show (⟨#[]⟩ : ByteArray).size ≤ _; omega, Nat.le_trans (ht _ _) (by omega)⟩
  · exact ⟨by show (⟨#[]⟩ : ByteArray).size ≤ _; omega, Nat.le_trans (ht _ _) (by omega)⟩
  · exact ⟨Nat.le_trans (ht _ _) (by omega), Nat.le_trans (ht _ _) (by omega)⟩
  · exact ⟨Nat.le_trans (ht _ _) (by omega), Nat.le_trans (ht _ _) (by omega)⟩
  · exact ⟨by show (⟨#[]⟩ : ByteArray).size ≤ _; omega, Nat.le_trans (ht _ _) (by omega)⟩
  · exact ⟨by show (⟨#[]⟩ : ByteArray).size ≤ _; omega, by show (⟨#[]⟩ : ByteArray).size ≤ _; omega⟩

end Go.Proofs.YtgfpjjppeldhbaaGreatDoor
