/- The reference Put (petrelref23): rows as bytes. -/
import Derived.Test.YtlonihfhgfmplaaRPairs
import Derived.Test.YtlonihfhgfmplaaRIds
namespace Go.Proofs.Ytlonihfhgfmplaa
open Go.RowKit

theorem einfoId : ElemInfo Try.prog 63 24 32 32 :=
  .of (z := .agg (idC id0)) Try.underlying63 (by kernel_rfl) (by kernel_rfl) (by kernel_rfl) (idC_size _) (by omega)
@[go_sem ↓] theorem bsId_rw (n : Nat) (parts : Array (Nat × Value)) : Instr.buildSlice 63 n parts = bsS 63 n parts := rfl
@[go_sem] theorem bsId_run (w : World) (x : Id32) : (bsS 63 1 #[(0, .agg (idC x))]).run Try.prog w = .ok (.slice (some ⟨w.heap.size, 0, none⟩) 1 1) (w.alloc (.cells (idC x) 24)) :=
  run_bsS1 einfoId (by omega) w (idC x) (by simp)

theorem insR_mem : ∀ (l : List Row) (x y : Row), y ∈ insR l x → y = x ∨ y ∈ l
  | [], x, y, h => by simp [insR] at h; exact .inl h
  | a :: l, x, y, h => by
    unfold insR at h
    split at h
    · rcases List.mem_cons.1 h with h | h
      · right; simp [h]
      · rcases insR_mem l x y h with h | h
        · exact .inl h
        · right; simp [h]
    · split at h
      · split at h
        · rcases List.mem_cons.1 h with h | h
          · exact .inl h
          · right; simp [h]
        · exact .inr h
      · rcases List.mem_cons.1 h with h | h
        · exact .inl h
        · exact .inr h
theorem foldR_mem : ∀ (l a : List Row) (y : Row), y ∈ l.foldl insR a → y ∈ a ∨ y ∈ l
  | [], a, y, h => .inl h
  | x :: l, a, y, h => by
    rcases foldR_mem l (insR a x) y h with h | h
    · rcases insR_mem a x y h with h | h
      · right; simp [h]
      · exact .inl h
    · right; simp [h]
theorem latestR_mem (l : List Row) (y : Row) (h : y ∈ latestR l) : y ∈ l := by
  rcases foldR_mem l [] y h with h | h
  · cases h
  · exact h

theorem rnumS (n M : Nat) (w : World) (hM : M = 1 ∨ M = 4) (h : n < 256 ^ M) :
    Calls Try.prog 53 #[.int .i64 n, .int .i64 M] w fun e w' => ∃ s : ByteArray, e = .returned (.string s) ∧ s.size = M ∧ s.data.toList = beL M n ∧ Below w.heap.size w w' :=
  (rnumN n M w hM h).mono fun _ _ ⟨he, hb⟩ => ⟨_, he, (by show (beL M n).toArray.size = M; simp [beL_length]), by simp, hb⟩
theorem ids_tail {s : ByteArray} {d : Id32} (h : s.data.toList = 1 :: d.l) : (s.extract 1 s.size).data.toList = d.l := by
  have hs : s.data.toList.length = s.size := Array.length_toList
  rw [ByteArray.data_extract, Array.toList_extract, h]
  have : s.size = 33 := by rw [← hs, h]; simp [d.h]
  rw [this]
  simp [List.extract_eq_take_drop, List.take_of_length_le, d.h]

set_option maxRecDepth 100000 in
set_option maxHeartbeats 2000000 in
theorem rput (w : World) (A : Option Addr) (n cap : Nat) (R : List Row) (h : RowsIn w A n R) (hn : n ≤ 1000000) (hok : ∀ x ∈ R, checkE x.key (rowS x) = 0) :
    Calls Try.prog 23 #[.slice A n cap] w fun e w' => ∃ s : ByteArray, e = .returned (.string s) ∧ s.data.toList = putB ((latestR R).map rowL) ∧ Below w.heap.size w w' := by
  have hol : (latestR R).length ≤ 1000000 := by have := latestR_length R; have := RowsIn.len h; omega
  have hokO : Hid (∀ x ∈ latestR R, checkE x.key (rowS x) = 0) := fun x hx => hok x (latestR_mem R x hx)
  obtain ⟨O, hO⟩ : ∃ O, latestR R = O := ⟨_, rfl⟩
  have c1 := rlatest w A n cap R h hn
  rw [hO] at c1 hol hokO ⊢
  clear hO hok
  go_enter Try.func23, Try.ntmps23
  go_wp2_with fail
  refine c1.mono ?_; rintro e w1 ⟨A1, cap1, rfl, hown1, hb1⟩
  have hs1 : RowsIn w1 A1 O.length O := hown1.slr
  clear c1 hown1
  go_wp2_with fail
  refine (rnumN O.length 4 _ (.inr rfl) (by omega)).mono ?_; rintro e w2 ⟨rfl, hb2⟩
  have hs2 : RowsIn w2 A1 O.length O := SlR.below hs1 hb2
  have hb2' := bel2 hb1 hb2
  obtain ⟨s0, hs0⟩ : ∃ s0 : ByteArray, (⟨(beL 4 O.length).toArray⟩ : ByteArray) = s0 := ⟨_, rfl⟩
  have Hs0 := Lib.hid hs0
  rw [hs0]
  clear hs0 hb1 hb2 hs1
  go_wp2_with fail
  go_loopw [4, 5] (fun v i wr => ∃ (k : Nat) (s : ByteArray), k ≤ O.length ∧ i = .int .i64 k ∧ v = .string s ∧ s.size ≤ 4 + 70 * k ∧ Hid (s.data.toList = beL 4 O.length ++ ((O.take k).map rowL).flatMap rowB) ∧ Below w2.heap.size w2 wr) (fun _ i _ => O.length - (intOf i).toNat)
  case atStart => exact ⟨0, s0, Nat.zero_le _, rfl, rfl, (by rw [← Hs0.out]; show (beL 4 O.length).toArray.size ≤ _; simp [beL_length]), (show s0.data.toList = _ by rw [← Hs0.out]; simp), Below.refl _ _⟩
  case round =>
    obtain ⟨k, s, hk, rfl, rfl, hsz, hs, hb⟩ := hrel
    by_cases hlt : k < O.length
    · obtain ⟨q, o, rfl, hr, hkey, hval, hnn, hid⟩ := RowsIn.get (SlR.below hs2 hb) hlt hlt
      have hck := hokO.out _ (List.getElem_mem hlt)
      have htk : ((O.take (k + 1)).map rowL).flatMap rowB = ((O.take k).map rowL).flatMap rowB ++ rowB (rowL O[k]) := by
        have e : O.take (k + 1) = O.take k ++ [O[k]] := by rw [List.take_add_one, List.getElem?_eq_getElem hlt]; rfl
        rw [e, List.map_append, List.flatMap_append]; simp
      obtain ⟨⟨xk, xv, xn, xi⟩, hx⟩ : ∃ x, O[k]'hlt = x := ⟨_, rfl⟩
      rw [hx] at hkey hval hnn hid htk hck
      obtain ⟨ck, cv, cn0, cn1⟩ := checkE_bd hck
      simp only [rowS] at ck cv cn0 cn1 hkey hval hnn hid
      obtain ⟨nn, rfl⟩ : ∃ nn : Nat, xn = nn := ⟨xn.toNat, by omega⟩
      have Htk := Lib.hid htk
      clear hx hr htk hck
      have hrow6 : rowAt (wr.alloc (.cells (idC xi) 24)) wr.heap.size 0 32 = some (idC xi) := by simp [go_sem]
      have c6 := rids xi (wr.alloc (.cells (idC xi) 24)) wr.heap.size 0 1 hrow6
      have hb6 : Below wr.heap.size wr (wr.alloc (.cells (idC xi) 24)) := (Below.refl _ _).alloc (Nat.le_refl _) _
      clear hrow6
      go_wp2_with fail
      refine c6.mono ?_; rintro e w6 ⟨s6, rfl, hs6, hb6'⟩
      have hbw6 : Below wr.heap.size wr w6 := bel2 hb6 hb6'
      have hkey6 := (hbw6.cell (p := ⟨q, o + k * 35, none⟩) (World.block_lt_of_cell? wr _ hkey)).trans hkey
      have hval6 := (hbw6.cell (p := ⟨q, o + k * 35 + 1, none⟩) (World.block_lt_of_cell? wr _ hval)).trans hval
      have hnn6 := (hbw6.cell (p := ⟨q, o + k * 35 + 2, none⟩) (World.block_lt_of_cell? wr _ hnn)).trans hnn
      have hs6s : s6.size = 33 := by
        have : s6.data.toList.length = s6.size := Array.length_toList
        rw [← this, hs6]; simp [xi.h]
      have ht6 := ids_tail hs6
      rw [hs6s] at ht6
      have Ht6 := Lib.hid ht6
      have hbw := hb.trans (hbw6.mono hb.size)
      clear c6 hb6 hb6' hkey hval hnn hid hs6 ht6
      have l1 : ¬ 9223372036854775807 < s.size + 1 := by omega
      have l2 : ¬ 9223372036854775807 < s.size + 1 + xk.size := by omega
      have l3 : ¬ 9223372036854775807 < s.size + 1 + xk.size + 1 := by omega
      have l4 : ¬ 9223372036854775807 < s.size + 1 + xk.size + 1 + xv.size := by omega
      have l5 : ¬ 9223372036854775807 < s.size + 1 + xk.size + 1 + xv.size + 4 := by omega
      have l6 : ¬ 9223372036854775807 < s.size + 1 + xk.size + 1 + xv.size + 4 + 32 := by omega
      go_upto_region 7 with fail
      refine wp_region_lex (Bel w6) false (by kernel_rfl) (by kernel_rfl) (by kernel_rfl) (bel_drew w6) ?_
      have hne := bel_some w6
      have hS := bel_drew w6
      have b1 := sub_cell hkey6; have b2 := sub_cell hval6; have b3 := sub_cell hnn6
      repeat (refine wpLx_loose ?_ ?_; (focus (simp only [chainOp]; done)); intro K hK; go_simp; refine hK _ ?_; clear hK K)
      refine wpLx_chain ?_ ?_ ?_
      focus (exact hS)
      focus (simp only [chainOp]; done)
      intro K hK
      go_simp
      refine (rnumS xk.size 1 _ (.inl rfl) (by omega)).mono ?_
      rintro e w' ⟨sa, rfl, sas, sad, hb⟩
      replace hS := bel_next hS hb
      refine ⟨_, rfl, hS, hK _ _ ?_⟩
      clear hK K hb
      have saD := Lib.hid sad
      clear sad
      repeat (refine wpLx_loose ?_ ?_; (focus (simp only [chainOp]; done)); intro K hK; go_simp; refine hK _ ?_; clear hK K)
      refine wpLx_chain ?_ ?_ ?_
      focus (exact hS)
      focus (simp only [chainOp]; done)
      intro K hK
      go_simp
      refine (rnumS xv.size 1 _ (.inl rfl) (by omega)).mono ?_
      rintro e w' ⟨sb, rfl, sbs, sbd, hb⟩
      replace hS := bel_next hS hb
      refine ⟨_, rfl, hS, hK _ _ ?_⟩
      clear hK K hb
      have sbD := Lib.hid sbd
      clear sbd
      repeat (refine wpLx_loose ?_ ?_; (focus (simp only [chainOp]; done)); intro K hK; go_simp; refine hK _ ?_; clear hK K)
      refine wpLx_chain ?_ ?_ ?_
      focus (exact hS)
      focus (simp only [chainOp]; done)
      intro K hK
      go_simp
      refine (rnumS nn 4 _ (.inr rfl) (by omega)).mono ?_
      rintro e w' ⟨sc, rfl, scs, scd, hb⟩
      replace hS := bel_next hS hb
      refine ⟨_, rfl, hS, hK _ _ ?_⟩
      clear hK K hb
      have scD := Lib.hid scd
      clear scd
      repeat (refine wpLx_loose ?_ ?_; (focus (simp only [chainOp]; done)); intro K hK; go_simp; refine hK _ ?_; clear hK K)
      refine wpLx_nil ?_
      intro hS
      have hS' : Below w6.heap.size w6 w' := hS
      have hbw' := hbw.trans (hS'.mono hbw.size)
      clear hne hS b1 b2 b3 l1 l2 l3 l4 l5 l6
      go_wp2_with fail
      go_roundw
      case rel =>
        refine ⟨k + 1, _, by omega, by go_num, rfl, ?_, ?_, hbw'⟩
        · simp only [ByteArray.size_append]
          rw [sas, sbs, scs]
          have : (s6.extract 1 33).size = 32 := by rw [ByteArray.size_extract]; omega
          omega
        · show _ = _
          rw [Htk.out]
          simp only [ByteArray.data_append, Array.toList_append, hs.out, Ht6.out, saD.out, sbD.out, scD.out]
          simp [rowB, rowL, rowS, List.append_assoc]
      case measure => simp [intOf]; omega
    · have hk2 : k = O.length := by omega
      have e2 : O.take k = O := List.take_of_length_le (by omega)
      have hs' := hs.out
      rw [e2] at hs'
      have Hs := Lib.hid hs'
      clear hs hs' e2 hk2
      go_wp2_with fail
      go_ret
      exact ⟨s, rfl, (by rw [Hs.out]; unfold putB; simp), bel2 hb2' hb⟩

end Go.Proofs.Ytlonihfhgfmplaa
