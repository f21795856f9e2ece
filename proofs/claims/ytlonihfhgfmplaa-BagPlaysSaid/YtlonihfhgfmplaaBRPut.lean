/- The reference of bags: rows as bytes, Put. -/
import Derived.Test.YtlonihfhgfmplaaBPut
import Derived.Test.YtlonihfhgfmplaaR1Ids
namespace Go.Proofs.Ytlonihfhgfmplaa
open Go.RowKit

set_option maxRecDepth 100000 in
set_option maxHeartbeats 2000000 in
theorem rrows (w : World) (A : Option Addr) (cap : Nat) (O : List BRow) (h : RowsIn w A O.length O) (hn : O.length ≤ 100000) (hok : ∀ x ∈ O, small x) :
    Calls Try.prog 72 #[.slice A O.length cap] w fun e w' => ∃ s : ByteArray, e = .returned (.string s) ∧ s.data.toList = rowsB O ∧ Below w.heap.size w w' := by
  have HokO := Lib.hid hok
  clear hok
  go_enter Try.func72, Try.ntmps72
  go_wp2_with fail
  refine (rnumP O.length 4 _ (.inr rfl) (by omega)).mono ?_; rintro e w2 ⟨s0, rfl, hs0z, hs0, hb2⟩
  have hs2 : RowsIn w2 A O.length O := SlR.below h hb2
  have Hs0 := Lib.hid hs0
  clear hs0
  go_wp2_with fail
  go_loopw [3, 5] (fun v i wr => ∃ (k : Nat) (s : ByteArray), k ≤ O.length ∧ i = .int .i64 k ∧ v = .string s ∧ s.size ≤ 4 + 49 * k ∧ Hid (s.data.toList = beL 4 O.length ++ (O.take k).flatMap rowB) ∧ Below w2.heap.size w2 wr) (fun _ i _ => O.length - (intOf i).toNat)
  case atStart => exact ⟨0, s0, Nat.zero_le _, rfl, rfl, by omega, (show s0.data.toList = _ by rw [Hs0.out]; simp), Below.refl _ _⟩
  case round =>
    obtain ⟨k, s, hk, rfl, rfl, hsz, hs, hb⟩ := hrel
    by_cases hlt : k < O.length
    · obtain ⟨q, o, rfl, _, hid, hval⟩ := RowsIn.get (SlR.below hs2 hb) hlt hlt
      have hck := HokO.out _ (List.getElem_mem hlt)
      have htk : (O.take (k + 1)).flatMap rowB = (O.take k).flatMap rowB ++ rowB O[k] := by
        have e : O.take (k + 1) = O.take k ++ [O[k]] := by rw [List.take_add_one, List.getElem?_eq_getElem hlt]; rfl
        rw [e, List.flatMap_append]; simp
      obtain ⟨⟨xi, xv⟩, hx⟩ : ∃ x, O[k]'hlt = x := ⟨_, rfl⟩
      rw [hx] at hval hid htk hck
      unfold small at hck
      dsimp only at hval hid hck
      have Htk := Lib.hid htk
      clear hx htk
      have hrow6 : rowAt (wr.alloc (.cells (idC xi) 24)) wr.heap.size 0 32 = some (idC xi) := by simp [go_sem]
      have c6 := rids xi (wr.alloc (.cells (idC xi) 24)) wr.heap.size 0 1 hrow6
      have hb6 : Below wr.heap.size wr (wr.alloc (.cells (idC xi) 24)) := (Below.refl _ _).alloc (Nat.le_refl _) _
      clear hrow6
      go_wp2_with fail
      refine c6.mono ?_; rintro e w6 ⟨s6, rfl, hs6, hb6'⟩
      have hbw6 : Below wr.heap.size wr w6 := bel2 hb6 hb6'
      have hval6 := (hbw6.cell (p := ⟨q, o + k * 33 + 32, none⟩) (World.block_lt_of_cell? wr _ hval)).trans hval
      have hs6s : s6.size = 33 := by
        have : s6.data.toList.length = s6.size := Array.length_toList
        rw [← this, hs6]; simp [xi.h]
      have ht6 := ids_tail hs6
      rw [hs6s] at ht6
      have Ht6 := Lib.hid ht6
      have hbw := hb.trans (hbw6.mono hb.size)
      clear c6 hb6 hb6' hval hid hs6 ht6
      go_wp2_with fail
      refine (rnumP xv.size 1 w6 (.inl rfl) (by omega)).mono ?_; rintro e w7 ⟨s7, rfl, hs7z, hs7, hb7⟩
      have hval7 := (hb7.cell (p := ⟨q, o + k * 33 + 32, none⟩) (World.block_lt_of_cell? w6 _ hval6)).trans hval6
      have hbw7 := hbw.trans (hb7.mono hbw.size)
      have Hs7 := Lib.hid hs7
      clear hs7 hval6
      have l1 : ¬ 9223372036854775807 < s.size + 32 := by omega
      have l2 : ¬ 9223372036854775807 < s.size + 32 + 1 := by omega
      have l3 : ¬ 9223372036854775807 < s.size + 32 + 1 + xv.size := by omega
      go_upto_region 7 with fail
      refine wp_region_lex (Bel w7) false (by kernel_rfl) (by kernel_rfl) (by kernel_rfl) (bel_drew w7) ?_
      have hne := bel_some w7
      have hS := bel_drew w7
      have b1 := sub_cell hval7
      repeat (refine wpLx_loose ?_ ?_; (focus (simp only [chainOp]; done)); intro K hK; go_simp; refine hK _ ?_; clear hK K)
      refine wpLx_nil ?_
      intro hS
      have hS' : Below w7.heap.size w7 w7.drew := hS
      have hbw' := hbw7.trans (hS'.mono hbw7.size)
      clear hne hS b1 l1 l2 l3
      go_wp2_with fail
      go_roundw
      case rel =>
        refine ⟨k + 1, _, by omega, by go_num, rfl, ?_, ?_, hbw'⟩
        · simp only [ByteArray.size_append]
          have : (s6.extract 1 33).size = 32 := by rw [ByteArray.size_extract]; omega
          omega
        · show _ = _
          rw [Htk.out]
          simp only [ByteArray.data_append, Array.toList_append, hs.out, Ht6.out, Hs7.out]
          simp [rowB, List.append_assoc]
      case measure => simp [intOf]; omega
    · have hk2 : k = O.length := by omega
      have e2 : O.take k = O := List.take_of_length_le (by omega)
      have hs' := hs.out
      rw [e2] at hs'
      have Hs := Lib.hid hs'
      clear hs hs' e2 hk2
      go_wp2_with fail
      go_ret
      exact ⟨s, rfl, (by rw [Hs.out]; rfl), bel2 hb2 hb⟩

theorem sortC_small {X : List BRow} (h : ∀ x ∈ X, small x) : ∀ x ∈ sortC cmpRow X, small x := fun x hx => h x ((mem_sortC totRow).1 hx)
theorem liveR_small {X G : List BRow} (h : ∀ x ∈ X, small x) : ∀ x ∈ liveR X G, small x := fun x hx => sortC_small h x (List.mem_filter.1 hx).1

set_option maxRecDepth 100000 in
set_option maxHeartbeats 2000000 in
theorem rbput (w : World) (g : Nat) (X G : List BRow) (h : RefAt w g X G) (hX : X.length ≤ 100000) (hG : G.length ≤ 100000) (sX : ∀ x ∈ X, small x) (sG : ∀ x ∈ G, small x) :
    Calls Try.prog 41 #[.pointer (some ⟨g, 0, none⟩)] w fun e w' => ∃ s : ByteArray, e = .returned (.string s) ∧ s.data.toList = putB (liveR X G) (sortC cmpRow G) ∧ Below w.heap.size w w' := by
  have hgl := h.lt
  have hl1 := liveR_len X G
  have hl2 := sortC_length (c := cmpRow) G
  have sL := liveR_small (G := G) sX
  have sS := sortC_small sG
  have hz1 := rowsB_len sL
  have hz2 := rowsB_len sS
  have hlive := fun w' (h' : RefAt w' g X G) => rlive w' g X G h' hX hG
  have hsrt := fun (w' : World) (A : Option Addr) (n cap : Nat) (h' : RowsIn w' A n G) (hn : n ≤ 1000000) => rsorted w' A n cap G h' hn
  obtain ⟨Z, hZ⟩ : ∃ Z, liveR X G = Z := ⟨_, rfl⟩
  obtain ⟨Y, hY⟩ : ∃ Y, sortC cmpRow G = Y := ⟨_, rfl⟩
  rw [hZ] at hlive sL hl1 hz1 ⊢
  rw [hY] at hsrt sS hl2 hz2 ⊢
  have HsL := Lib.hid sL; have HsS := Lib.hid sS
  clear hZ hY sL sS sX sG
  have hmk : ∀ w' : World, Below w.heap.size w w' → RefAt w' g X G := fun w' hb => h.below hb
  obtain ⟨A, n, cap, A', n', cap', hg, h1, h2, f1, f2, d1, d2⟩ := h
  have hn' := h2.len
  have hc1 : w.cell? ⟨g, 1, none⟩ = some (.slice A' n' cap') := by rw [cell_of_row w g 1 _ _ _ hg]; rfl
  have hnb : n' ≤ 1000000 := by omega
  clear hn'
  go_enter Try.func41, Try.ntmps41
  go_upto_region 1 with fail
  refine wp_region_lex (Bel w) false (by kernel_rfl) (by kernel_rfl) (by kernel_rfl) (bel_drew w) ?_
  have hne := bel_some w
  have hS := bel_drew w
  have b1 := sub_cell hc1
  repeat (refine wpLx_loose ?_ ?_; (focus (simp only [chainOp]; done)); intro K hK; go_simp; refine hK _ ?_; clear hK K)
  refine wpLx_chain ?_ ?_ ?_
  focus (exact hS)
  focus (simp only [chainOp]; done)
  intro K hK
  go_simp
  refine (hlive _ (hmk _ hS)).mono ?_; rintro e w1 ⟨LA, lc, rfl, hown1, hb1⟩
  replace hS := bel_next hS hb1
  refine ⟨_, rfl, hS, hK _ _ ?_⟩
  clear hK K hb1
  repeat (refine wpLx_loose ?_ ?_; (focus (simp only [chainOp]; done)); intro K hK; go_simp; refine hK _ ?_; clear hK K)
  refine wpLx_chain ?_ ?_ ?_
  focus (exact hS)
  focus (simp only [chainOp]; done)
  intro K hK
  go_simp
  refine (rrows _ _ _ _ hown1.slr (by omega) HsL.out).mono ?_; rintro e w2 ⟨s2, rfl, hs2, hb2⟩
  replace hS := bel_next hS hb2
  refine ⟨_, rfl, hS, hK _ _ ?_⟩
  clear hK K hb2 hown1
  repeat (refine wpLx_loose ?_ ?_; (focus (simp only [chainOp]; done)); intro K hK; go_simp; refine hK _ ?_; clear hK K)
  refine wpLx_chain ?_ ?_ ?_
  focus (exact hS)
  focus (simp only [chainOp]; done)
  intro K hK
  go_simp
  refine (hsrt _ _ _ _ (SlR.below h2 hS) hnb).mono ?_; rintro e w3 ⟨SA, sc, rfl, hown3, hb3⟩
  replace hS := bel_next hS hb3
  refine ⟨_, rfl, hS, hK _ _ ?_⟩
  clear hK K hb3
  repeat (refine wpLx_loose ?_ ?_; (focus (simp only [chainOp]; done)); intro K hK; go_simp; refine hK _ ?_; clear hK K)
  refine wpLx_chain ?_ ?_ ?_
  focus (exact hS)
  focus (simp only [chainOp]; done)
  intro K hK
  go_simp
  refine (rrows _ _ _ _ hown3.slr (by omega) HsS.out).mono ?_; rintro e w4 ⟨s4, rfl, hs4, hb4⟩
  replace hS := bel_next hS hb4
  refine ⟨_, rfl, hS, hK _ _ ?_⟩
  clear hK K hb4 hown3
  have z2 : s2.size = (rowsB Z).length := by rw [← hs2]; exact Array.length_toList.symm
  have z4 : s4.size = (rowsB Y).length := by rw [← hs4]; exact Array.length_toList.symm
  have l1 : ¬ 9223372036854775807 < s2.size + s4.size := by omega
  have Hs2 := Lib.hid hs2; have Hs4 := Lib.hid hs4
  clear hs2 hs4 z2 z4
  repeat (refine wpLx_loose ?_ ?_; (focus (simp only [chainOp]; done)); intro K hK; go_simp; refine hK _ ?_; clear hK K)
  refine wpLx_nil ?_
  intro hS
  clear hne b1
  go_wp2_with fail
  go_ret
  exact ⟨_, rfl, by rw [ByteArray.data_append, Array.toList_append, Hs2.out, Hs4.out]; rfl, hS⟩

end Go.Proofs.Ytlonihfhgfmplaa
