/- The references: petrelref23, petrelref06, petrelref01. -/
import Derived.Test.YtlonihfhgfmplaaRow
import Derived.Test.YtlonihfhgfmplaaPut
namespace Go.Proofs.Ytlonihfhgfmplaa
open Go.RowKit

def rowS (x : Row) : Setting := ⟨x.val, x.n, x.id⟩
set_option maxHeartbeats 1000000 in
theorem rcheck (x : Row) (w : World) (hk : x.key.size ≤ 9223372036854775807) (hv : x.val.size ≤ 9223372036854775807) :
    Calls Try.prog 18 #[.agg (rowC x)] w fun e w' => e = .returned (.int .i64 (checkE x.key (rowS x))) ∧ Below w.heap.size w w' := by
  obtain ⟨xk, xv, xn, xi⟩ := x
  dsimp only at hk hv
  go_enter Try.func18, Try.ntmps18
  go_wp2_with fail
  all_goals
    go_ret
    refine ⟨ret_int ?_, (Below.refl _ _).alloc (Nat.le_refl _) _⟩
    unfold checkE rowS
    first
      | rw [if_pos (by simp only; omega)]
      | rw [if_neg (by simp only; omega), if_pos (by simp only; omega)]
      | rw [if_neg (by simp only; omega), if_neg (by simp only; omega)]

theorem idB_lt (d : Id32) {k : Nat} (h : k < 32) : idB d k = ((d.l[k]'(by rw [d.h]; exact h)).toNat : Int) := by
  unfold idB; rw [List.getD_eq_getElem?_getD, List.getElem?_eq_getElem (by rw [d.h]; exact h)]; rfl
theorem drop_id (d : Id32) {k : Nat} (h : k < 32) : d.l.drop k = d.l[k]'(by rw [d.h]; exact h) :: d.l.drop (k + 1) := List.drop_eq_getElem_cons (by rw [d.h]; exact h)

theorem cmpB_cons (u v : UInt8) (l m : List UInt8) : cmpB (u :: l) (v :: m) = if u < v then -1 else if v < u then 1 else cmpB l m := rfl
set_option maxHeartbeats 2000000 in
theorem rcompare (a b : Id32) (w : World) : Calls Try.prog 106 #[.agg (idC a), .agg (idC b)] w fun e w' => e = .returned (.int .i64 (cmpId a b)) ∧ Below w.heap.size w w' := by
  go_enter Try.func106, Try.ntmps106
  go_wp2_with fail
  have hca : Hid (∀ k, k < 32 → ((w.alloc (.cells (idC a) 24)).alloc (.cells (idC b) 24)).cell? ⟨w.heap.size, k, none⟩ = some (.int .u8 (idB a k))) := fun k hk => by simp [go_sem, hk]
  have hcb : Hid (∀ k, k < 32 → ((w.alloc (.cells (idC a) 24)).alloc (.cells (idC b) 24)).cell? ⟨w.heap.size + 1, k, none⟩ = some (.int .u8 (idB b k))) := fun k hk => by simp [go_sem, hk]
  have hB : Below w.heap.size w ((w.alloc (.cells (idC a) 24)).alloc (.cells (idC b) 24)) := ((Below.refl _ _).alloc (Nat.le_refl _) _).alloc (by simp) _
  generalize (w.alloc (.cells (idC a) 24)).alloc (.cells (idC b) 24) = W at *
  go_loopw [5] (fun i wr => ∃ k : Nat, k ≤ 32 ∧ i = .int .i64 k ∧ Hid (cmpB (a.l.drop k) (b.l.drop k) = cmpId a b) ∧ Below W.heap.size W wr) (fun i _ => 32 - (intOf i).toNat)
  case atStart => exact ⟨0, by omega, rfl, rfl, Below.refl _ _⟩
  case round =>
    obtain ⟨k, hk, rfl, hd, hb⟩ := hrel
    by_cases hlt : k < 32
    · have ca := (hb.cell (p := ⟨w.heap.size, k, none⟩) (World.block_lt_of_cell? W _ (hca.out k hlt))).trans (hca.out k hlt)
      have cb := (hb.cell (p := ⟨w.heap.size + 1, k, none⟩) (World.block_lt_of_cell? W _ (hcb.out k hlt))).trans (hcb.out k hlt)
      have hdr : cmpId a b = if idB a k < idB b k then -1 else if idB b k < idB a k then 1 else cmpB (a.l.drop (k + 1)) (b.l.drop (k + 1)) := by
        rw [← hd.out, drop_id a hlt, drop_id b hlt, idB_lt a hlt, idB_lt b hlt, cmpB_cons]
        simp only [UInt8.lt_iff_toNat_lt, Int.ofNat_lt]
      obtain ⟨x, hx⟩ : ∃ x, idB a k = x := ⟨_, rfl⟩
      obtain ⟨y, hy⟩ : ∃ y, idB b k = y := ⟨_, rfl⟩
      rw [hx, hy] at hdr
      rw [hx] at ca
      rw [hy] at cb
      have Hdr := Lib.hid hdr
      clear hdr hx hy
      go_upto_region 4 with fail
      refine wp_region_lex (Bel wr) false (by kernel_rfl) (by kernel_rfl) (by kernel_rfl) (bel_drew wr) ?_
      have hne := bel_some wr
      have hS := bel_drew wr
      have b1 := sub_cell ca; have b2 := sub_cell cb
      repeat (refine wpLx_loose ?_ ?_; (focus (simp only [chainOp]; done)); intro K hK; go_simp; refine hK _ ?_; clear hK K)
      refine wpLx_nil ?_
      intro hS
      have hb1 : Below W.heap.size W wr.drew := hb.drew
      clear hne hS b1 b2
      by_cases h1 : x < y
      · go_wp2_with fail
        go_ret
        exact ⟨ret_int (by rw [Hdr.out, if_pos (by omega)]), hB.trans (hb1.mono hB.size)⟩
      · go_upto_region 6 with fail
        refine wp_region_lex (Bel wr.drew) false (by kernel_rfl) (by kernel_rfl) (by kernel_rfl) (bel_drew wr.drew) ?_
        have hne := bel_some wr.drew
        have hS := bel_drew wr.drew
        have b1 := sub_cell (W := wr.drew) ca; have b2 := sub_cell (W := wr.drew) cb
        repeat (refine wpLx_loose ?_ ?_; (focus (simp only [chainOp]; done)); intro K hK; go_simp; refine hK _ ?_; clear hK K)
        refine wpLx_nil ?_
        intro hS
        clear hne hS b1 b2
        by_cases h2 : y < x
        · go_wp2_with fail
          go_ret
          exact ⟨ret_int (by rw [Hdr.out, if_neg (by omega), if_pos (by omega)]), hB.trans (hb1.drew.mono hB.size)⟩
        · go_wp2_with fail
          go_roundw
          case rel => exact ⟨k + 1, by omega, by go_num, (show cmpB _ _ = _ by rw [Hdr.out, if_neg (by omega), if_neg (by omega)]), hb1.drew⟩
          case measure => simp [intOf]; omega
    · have hk32 : k = 32 := by omega
      subst hk32
      go_wp2_with fail
      go_ret
      have h0 := hd.out
      rw [List.drop_eq_nil_of_le (by rw [a.h]; omega), List.drop_eq_nil_of_le (by rw [b.h]; omega)] at h0
      exact ⟨ret_int (by rw [← h0]; rfl), hB.trans (hb.mono hB.size)⟩

def gtS (a b : ByteArray) : Bool := !bltS a b && !(a.toList == b.toList)
theorem gtS_cmp (a b : ByteArray) : gtS a b = decide (0 < cmpS a b) := by
  have h1 := bltS_cmp a b
  have h2 : (a.toList == b.toList) = decide (cmpS a b = 0) := by
    rw [Bool.eq_iff_iff, beq_iff_eq, decide_eq_true_eq, cmpS_zero, toList_inj]
  unfold gtS
  rw [h1, h2, Bool.eq_iff_iff]
  simp only [Bool.and_eq_true, Bool.not_eq_true', decide_eq_false_iff_not, decide_eq_true_eq]
  omega
def laterB (a b : Row) : Bool := decide (b.n < a.n) || ((a.n == b.n) && (decide (0 < cmpId a.id b.id) || ((cmpId a.id b.id == 0) && gtS a.val b.val)))
theorem orL3 (i c s : Int) : decide (0 < orL [i, c, s]) = (decide (0 < i) || ((i == 0) && (decide (0 < c) || ((c == 0) && decide (0 < s))))) := by
  simp only [orL]
  by_cases h1 : i = 0
  · subst h1
    by_cases h2 : c = 0
    · subst h2
      by_cases h3 : s = 0 <;> simp [h3]
    · simp [h2]
  · simp [h1]
theorem laterB_eq (a b : Row) : laterB a b = decide (0 < cmpSet (rowS a) (rowS b)) := by
  have h : cmpSet (rowS a) (rowS b) = orL [cmpI a.n b.n, cmpId a.id b.id, cmpS a.val b.val] := rfl
  have h1 : decide (0 < cmpI a.n b.n) = decide (b.n < a.n) := by
    rw [Bool.eq_iff_iff]; simp only [decide_eq_true_eq]; unfold cmpI; repeat' split
    all_goals omega
  have h2 : (cmpI a.n b.n == 0) = (a.n == b.n) := by
    rw [Bool.eq_iff_iff]; simp only [beq_iff_eq]; unfold cmpI; repeat' split
    all_goals omega
  rw [h, orL3, h1, h2]
  unfold laterB
  rw [gtS_cmp]

set_option maxRecDepth 100000 in
set_option maxHeartbeats 2000000 in
theorem rlater (a b : Row) (w : World) : Calls Try.prog 87 #[.agg (rowC a), .agg (rowC b)] w fun e w' => e = .returned (.bool (laterB a b)) ∧ Below w.heap.size w w' := by
  have c1 := rcompare a.id b.id ((w.alloc (.cells (rowC a) 32)).alloc (.cells (rowC b) 32))
  have hB : Below w.heap.size w ((w.alloc (.cells (rowC a) 32)).alloc (.cells (rowC b) 32)) := ((Below.refl _ _).alloc (Nat.le_refl _) _).alloc (by simp) _
  have ra : rowAt ((w.alloc (.cells (rowC a) 32)).alloc (.cells (rowC b) 32)) w.heap.size 0 35 = some (rowC a) := by simp [go_sem]
  have rb : rowAt ((w.alloc (.cells (rowC a) 32)).alloc (.cells (rowC b) 32)) (w.heap.size + 1) 0 35 = some (rowC b) := by simp [go_sem]
  go_enter Try.func87, Try.ntmps87
  go_upto_region 1 with fail
  generalize (w.alloc (.cells (rowC a) 32)).alloc (.cells (rowC b) 32) = W at *
  have a1 : W.cell? ⟨w.heap.size, 1, none⟩ = some (.string a.val) := by have := rowAt_cell ra (j := 1) (by omega); rwa [rowC_g1] at this
  have a2 : W.cell? ⟨w.heap.size, 2, none⟩ = some (.int .i64 a.n) := by have := rowAt_cell ra (j := 2) (by omega); rwa [rowC_g2] at this
  have a3 : rowAt W w.heap.size 3 32 = some (idC a.id) := by have := rowAt_sub ra (j := 3) (m := 32) (by omega); rwa [rowC_e3] at this
  have b1 : W.cell? ⟨w.heap.size + 1, 1, none⟩ = some (.string b.val) := by have := rowAt_cell rb (j := 1) (by omega); rwa [rowC_g1] at this
  have b2 : W.cell? ⟨w.heap.size + 1, 2, none⟩ = some (.int .i64 b.n) := by have := rowAt_cell rb (j := 2) (by omega); rwa [rowC_g2] at this
  have b3 : rowAt W (w.heap.size + 1) 3 32 = some (idC b.id) := by have := rowAt_sub rb (j := 3) (m := 32) (by omega); rwa [rowC_e3] at this
  clear ra rb
  go_wp2_with fail
  refine c1.mono ?_; rintro e W2 ⟨rfl, hb⟩
  have d1 := (hb.cell (p := ⟨w.heap.size, 1, none⟩) (World.block_lt_of_cell? W _ a1)).trans a1
  have d2 := (hb.cell (p := ⟨w.heap.size, 2, none⟩) (World.block_lt_of_cell? W _ a2)).trans a2
  have e1 := (hb.cell (p := ⟨w.heap.size + 1, 1, none⟩) (World.block_lt_of_cell? W _ b1)).trans b1
  have e2 := (hb.cell (p := ⟨w.heap.size + 1, 2, none⟩) (World.block_lt_of_cell? W _ b2)).trans b2
  have hB2 := hB.trans (hb.mono hB.size)
  clear a1 a2 a3 b1 b2 b3 hb hB c1
  go_wp2_with fail
  all_goals
    go_ret
    refine ⟨ret_bool ?_, hB2⟩
    simp_all [laterB, gtS, bltS]

end Go.Proofs.Ytlonihfhgfmplaa
