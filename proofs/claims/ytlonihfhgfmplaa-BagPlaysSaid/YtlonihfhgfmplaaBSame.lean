/- The reference Same at two slices of the same ids. -/
import Derived.Test.YtlonihfhgfmplaaBagC
namespace Go.Proofs.Ytlonihfhgfmplaa
open Go.RowKit

set_option maxHeartbeats 1000000 in
theorem rsame6 (w : World) (A B : Option Addr) (n cap cap' : Nat) (X : List Id32) (hx : TagsIn w A n X) (hy : TagsIn w B n X) (hn : n ≤ 1000000) :
    Calls Try.prog 38 #[.slice A n cap, .slice B n cap'] w fun e w' => e = .returned (.bool true) ∧ Below w.heap.size w w' := by
  have hlx := hx.len
  have Hlx := Lib.hid hlx
  clear hlx
  go_enter Try.func38, Try.ntmps38
  go_wp2_with fail
  go_loopw [5] (fun i wr => ∃ k : Nat, k ≤ n ∧ i = .int .i64 k ∧ Below w.heap.size w wr) (fun i _ => n - (intOf i).toNat)
  case atStart => exact ⟨0, Nat.zero_le _, rfl, Below.refl _ _⟩
  case round =>
    obtain ⟨k, hk, rfl, hb⟩ := hrel
    by_cases hlt : k < n
    · obtain ⟨q, o, rfl, hr⟩ := TagsIn.get (SlR.below hx hb) hlt (by rw [Hlx.out]; exact hlt)
      obtain ⟨q2, o2, rfl, hr2⟩ := TagsIn.get (SlR.below hy hb) hlt (by rw [Hlx.out]; exact hlt)
      obtain ⟨x, hx'⟩ : ∃ x, X[k]'(by rw [Hlx.out]; exact hlt) = x := ⟨_, rfl⟩
      rw [hx'] at hr hr2
      clear hx'
      go_upto_region 6 with fail
      refine wp_region_lex (Bel wr) false (by kernel_rfl) (by kernel_rfl) (by kernel_rfl) (bel_drew wr) ?_
      have hne := bel_some wr
      have hS := bel_drew wr
      have b1 := sub_row hr; have b2 := sub_row hr2
      repeat (refine wpLx_loose ?_ ?_; (focus (simp only [chainOp]; done)); intro K hK; go_simp; refine hK _ ?_; clear hK K)
      refine wpLx_nil ?_
      intro hS
      clear hne hS b1 b2 hr hr2
      go_wp2_with fail
      go_roundw
      case rel => exact ⟨k + 1, by omega, by go_num, hb.drew⟩
      case measure => simp [intOf]; omega
    · go_wp2_with fail
      go_ret
      exact ⟨rfl, hb⟩

end Go.Proofs.Ytlonihfhgfmplaa
