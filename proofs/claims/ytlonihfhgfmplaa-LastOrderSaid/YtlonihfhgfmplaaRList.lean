/- The references List (petrelref23) and Pairs (petrelref22). -/
import Derived.Test.YtlonihfhgfmplaaLateW
namespace Go.Proofs.Ytlonihfhgfmplaa
open Go.RowKit

def pairR (x : Row) : Pair := ⟨x.key, x.val⟩
abbrev OwnP (w : World) (B : Nat) (A : Option Addr) (cap : Nat) (L : List Pair) : Prop := Own w B 42 2 A L.length cap (L.map pairC)

set_option maxRecDepth 100000 in
set_option maxHeartbeats 1000000 in
theorem rlist (w : World) (A : Option Addr) (n cap : Nat) (R : List Row) (h : RowsIn w A n R) (hn : n ≤ 1000000) :
    Calls Try.prog 21 #[.slice A n cap] w fun e w' => ∃ A' cap', e = .returned (.slice A' ((latestR R).map pairR).length cap') ∧ OwnP w' w.heap.size A' cap' ((latestR R).map pairR) ∧ Below w.heap.size w w' := by
  have hol : (latestR R).length ≤ 1000000 := by have := latestR_length R; have := RowsIn.len h; omega
  obtain ⟨O, hO⟩ : ∃ O, latestR R = O := ⟨_, rfl⟩
  have c1 := rlatest w A n cap R h hn
  rw [hO] at c1 hol ⊢
  clear hO
  go_enter Try.func21, Try.ntmps21
  go_wp2_with fail
  refine c1.mono ?_; rintro e w1 ⟨A1, cap1, rfl, hown1, hb1⟩
  have hs1 : RowsIn w1 A1 O.length O := hown1.slr
  clear c1
  go_wp2_with fail
  go_loopw [3, 5] (fun out i wr => ∃ (k : Nat) (A2 : Option Addr) (cap2 : Nat), k ≤ O.length ∧ i = .int .i64 k ∧ out = .slice A2 k cap2 ∧ Own wr w1.heap.size 42 2 A2 k cap2 (((O.take k).map pairR).map pairC) ∧ Below w1.heap.size w1 wr) (fun _ i _ => O.length - (intOf i).toNat)
  case atStart => exact ⟨0, none, 0, Nat.zero_le _, rfl, rfl, Own.nil _ _ _ _, Below.refl _ _⟩
  case round =>
    obtain ⟨k, A2, cap2, hk, rfl, rfl, hown, hb⟩ := hrel
    by_cases hlt : k < O.length
    · obtain ⟨q, o, rfl, hr, hkey, hval, _, _⟩ := RowsIn.get (SlR.below hs1 hb) hlt hlt
      have hq : q < w1.heap.size := SlR.old hs1 rfl (by omega)
      have hqb : q ∉ blk A2 := fun hx => by have := (hown.at_base hx).1; omega
      have htk : ((O.take (k + 1)).map pairR).map pairC = ((O.take k).map pairR).map pairC ++ [pairC (pairR O[k])] := by
        have e : O.take (k + 1) = O.take k ++ [O[k]] := by rw [List.take_add_one, List.getElem?_eq_getElem hlt]; rfl
        rw [e, List.map_append, List.map_append]; rfl
      obtain ⟨x, hx⟩ : ∃ x, O[k]'hlt = x := ⟨_, rfl⟩
      rw [hx] at hkey hval htk
      have Htk := Lib.hid htk
      have hsz := hb.size
      clear hx hr htk
      go_upto_region 6 with fail
      refine wp_region_lex (Kp (blk A2) wr) false (by kernel_rfl) (by kernel_rfl) (by kernel_rfl) (kp_drew (blk A2) wr) ?_
      have hne := kp_some (blk A2) wr
      have hS := kp_drew (blk A2) wr
      have b1 := ksub_cell hkey hqb
      have b2 := ksub_cell hval hqb
      repeat (refine wpLx_loose ?_ ?_; (focus (simp only [chainOp]; done)); intro K hK; go_simp; refine hK _ ?_; clear hK K)
      refine wpLx_chain ?_ ?_ ?_
      focus (exact hS)
      focus (simp only [chainOp]; done)
      intro K hK
      go_simp
      refine step_keep (Keep.trans (Keep.trans (Keep.refl (blk A2) wr) (Keep.drew _) (by simp)) (Keep.alloc _ _) (by simp)) (fun hS2 => ?_)
      refine hK _ _ ?_
      clear hK K
      have hk0 : Keep [] wr (wr.drew.alloc (.cells (pairC ⟨x.key, x.val⟩) 42)) := Keep.trans (Keep.drew wr) (Keep.alloc _ _) (by simp)
      have hownr := hown.kept hk0 (by simp)
      have hrow2 : rowAt (wr.drew.alloc (.cells (pairC ⟨x.key, x.val⟩) 42)) wr.heap.size 0 2 = some (pairC ⟨x.key, x.val⟩) := by simp [go_sem]
      refine Lx_append einfoPair rfl hownr rfl hrow2 (pairC_one _) (by omega) (by omega) (by simp; omega) ?_
      intro A3 cap3 w3 hown3 hk3 hsub3
      refine step_keep (Keep.trans (hk0.mono (S' := blk A2) (by simp)) hk3 (fun x hx => .inl hx)) (fun hS3 => ?_)
      repeat (refine wpLx_loose ?_ ?_; (focus (simp only [chainOp]; done)); intro K hK; go_simp; refine hK _ ?_; clear hK K)
      refine wpLx_nil ?_
      intro hS
      have hb3 : Below w1.heap.size w1 w3 := hb.trans ((Keep.trans (hk0.mono (S' := blk A2) (by simp)) hk3 (fun x hx => .inl hx)).below hsz (fun x hx => (hown.at_base hx).1))
      clear hne hS hS2 hS3 b1 b2
      go_wp2_with fail
      go_roundw
      case rel => exact ⟨k + 1, A3, cap3, by omega, by go_num, rfl, by rw [Htk.out]; exact hown3, hb3⟩
      case measure => simp [intOf]; omega
    · have e : k = O.length := by omega
      have e2 : O.take k = O := List.take_of_length_le (by omega)
      have hown' : OwnP wr w.heap.size A2 cap2 (O.map pairR) := by rw [e2] at hown; show Own _ _ _ _ _ _ _ _; rw [List.length_map, ← e]; exact hown.mono hb1.size
      have Ho := Lib.hid hown'
      have El := Lib.hid e
      clear e e2 hown hown'
      go_wp2_with fail
      go_ret
      refine ⟨A2, cap2, ?_, Ho.out, bel2 hb1 hb⟩
      rw [List.length_map, ← El.out]
      rfl

end Go.Proofs.Ytlonihfhgfmplaa
