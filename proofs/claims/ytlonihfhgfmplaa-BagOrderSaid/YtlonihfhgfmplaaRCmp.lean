/- The reference's order of ids: the walk. -/
import Derived.Test.YtlonihfhgfmplaaCmp
import Derived.Test.YtlonihfhgfmplaaLex
namespace Go.Proofs.Ytlonihfhgfmplaa
open Go.RowKit

theorem idB_lt (d : Id32) {k : Nat} (h : k < 32) : idB d k = ((d.l[k]'(by rw [d.h]; exact h)).toNat : Int) := by
  unfold idB; rw [List.getD_eq_getElem?_getD, List.getElem?_eq_getElem (by rw [d.h]; exact h)]; rfl
theorem drop_id (d : Id32) {k : Nat} (h : k < 32) : d.l.drop k = d.l[k]'(by rw [d.h]; exact h) :: d.l.drop (k + 1) := List.drop_eq_getElem_cons (by rw [d.h]; exact h)

theorem cmpB_cons (u v : UInt8) (l m : List UInt8) : cmpB (u :: l) (v :: m) = if u < v then -1 else if v < u then 1 else cmpB l m := rfl
set_option maxHeartbeats 2000000 in
theorem rcompare (a b : Id32) (w : World) : Calls Try.prog 106 #[.agg (idC a), .agg (idC b)] w fun e w' => e = .returned (.int .i64 (cmpId a b)) ∧ Below w.heap.size w w' := by
  go_enter Try.func106, Try.ntmps106
  go_wp2_with fail
  have hca : Hid (∀ k, k < 32 → ((w.alloc (.cells (idC a) 24)).alloc (.cells (idC b) 24)).cell? ⟨w.heap.size, k, none⟩ = some (.int .u8 (idB a k))) := fun k hk => by simp [go_sem, hk]
  have hcb : Hid (∀ k, k < 32 → ((w.alloc (.cells (idC a) 24)).alloc (.cells (idC b) 24)).cell? ⟨w.heap.size + 1, k, none⟩ = some (.int .u8 (idB b k))) := fun k hk => by simp [go_sem, hk]
  have hB : Below w.heap.size w ((w.alloc (.cells (idC a) 24)).alloc (.cells (idC b) 24)) := ((Below.refl _ _).alloc (Nat.le_refl _) _).alloc (by simp) _
  generalize (w.alloc (.cells (idC a) 24)).alloc (.cells (idC b) 24) = W at *
  go_loopw [5] (fun i wr => ∃ k : Nat, k ≤ 32 ∧ i = .int .i64 k ∧ Hid (cmpB (a.l.drop k) (b.l.drop k) = cmpId a b) ∧ Below W.heap.size W wr) (fun i _ => 32 - (intOf i).toNat)
  case atStart => exact ⟨0, by omega, rfl, rfl, Below.refl _ _⟩
  case round =>
    obtain ⟨k, hk, rfl, hd, hb⟩ := hrel
    by_cases hlt : k < 32
    · have ca := (hb.cell (p := ⟨w.heap.size, k, none⟩) (World.block_lt_of_cell? W _ (hca.out k hlt))).trans (hca.out k hlt)
      have cb := (hb.cell (p := ⟨w.heap.size + 1, k, none⟩) (World.block_lt_of_cell? W _ (hcb.out k hlt))).trans (hcb.out k hlt)
      have hdr : cmpId a b = if idB a k < idB b k then -1 else if idB b k < idB a k then 1 else cmpB (a.l.drop (k + 1)) (b.l.drop (k + 1)) := by
        rw [← hd.out, drop_id a hlt, drop_id b hlt, idB_lt a hlt, idB_lt b hlt, cmpB_cons]
        simp only [UInt8.lt_iff_toNat_lt, Int.ofNat_lt]
      obtain ⟨x, hx⟩ : ∃ x, idB a k = x := ⟨_, rfl⟩
      obtain ⟨y, hy⟩ : ∃ y, idB b k = y := ⟨_, rfl⟩
      rw [hx, hy] at hdr
      rw [hx] at ca
      rw [hy] at cb
      have Hdr := Lib.hid hdr
      clear hdr hx hy
      go_upto_region 4 with fail
      refine wp_region_lex (Bel wr) false (by kernel_rfl) (by kernel_rfl) (by kernel_rfl) (bel_drew wr) ?_
      have hne := bel_some wr
      have hS := bel_drew wr
      have b1 := sub_cell ca; have b2 := sub_cell cb
      repeat (refine wpLx_loose ?_ ?_; (focus (simp only [chainOp]; done)); intro K hK; go_simp; refine hK _ ?_; clear hK K)
      refine wpLx_nil ?_
      intro hS
      have hb1 : Below W.heap.size W wr.drew := hb.drew
      clear hne hS b1 b2
      by_cases h1 : x < y
      · go_wp2_with fail
        go_ret
        exact ⟨ret_int (by rw [Hdr.out, if_pos (by omega)]), hB.trans (hb1.mono hB.size)⟩
      · go_upto_region 6 with fail
        refine wp_region_lex (Bel wr.drew) false (by kernel_rfl) (by kernel_rfl) (by kernel_rfl) (bel_drew wr.drew) ?_
        have hne := bel_some wr.drew
        have hS := bel_drew wr.drew
        have b1 := sub_cell (W := wr.drew) ca; have b2 := sub_cell (W := wr.drew) cb
        repeat (refine wpLx_loose ?_ ?_; (focus (simp only [chainOp]; done)); intro K hK; go_simp; refine hK _ ?_; clear hK K)
        refine wpLx_nil ?_
        intro hS
        clear hne hS b1 b2
        by_cases h2 : y < x
        · go_wp2_with fail
          go_ret
          exact ⟨ret_int (by rw [Hdr.out, if_neg (by omega), if_pos (by omega)]), hB.trans (hb1.drew.mono hB.size)⟩
        · go_wp2_with fail
          go_roundw
          case rel => exact ⟨k + 1, by omega, by go_num, (show cmpB _ _ = _ by rw [Hdr.out, if_neg (by omega), if_neg (by omega)]), hb1.drew⟩
          case measure => simp [intOf]; omega
    · have hk32 : k = 32 := by omega
      subst hk32
      go_wp2_with fail
      go_ret
      have h0 := hd.out
      rw [List.drop_eq_nil_of_le (by rw [a.h]; omega), List.drop_eq_nil_of_le (by rw [b.h]; omega)] at h0
      exact ⟨ret_int (by rw [← h0]; rfl), hB.trans (hb.mono hB.size)⟩

end Go.Proofs.Ytlonihfhgfmplaa
