/- The laws of package last: awake. -/
import Derived.Test.YtlonihfhgfmplaaLastL
namespace Go.Proofs.Ytlonihfhgfmplaa
open Go.RowKit

def id9 : Id32 := ⟨9 :: List.replicate 31 0, by simp⟩
@[go_sem ↓] theorem buildId_run (w : World) : (Instr.build 24 #[]).run Try.prog w = .ok (.agg (idC id0)) w := by kernel_rfl
@[go_sem ↓] theorem buildId9_run (w : World) : (Instr.build 24 #[(0, .int .u8 9)]).run Try.prog w = .ok (.agg (idC id9)) w := by kernel_rfl

def kK : ByteArray := ⟨#[107]⟩
def kA : ByteArray := ⟨#[97]⟩
def kB : ByteArray := ⟨#[98]⟩

set_option maxHeartbeats 1000000 in
theorem awake_any (w : World) : Calls Try.prog 14 #[] w fun e w' => e = .returned (.bool true) ∧ Below w.heap.size w w' := by
  go_enter Try.func14, Try.ntmps14
  go_wp2_with fail
  refine (lnew _).mono ?_; rintro e w1 ⟨g, b, rfl, h1, hg, hb, hw1⟩
  go_wp2_with fail
  refine (lset kK kA 2 id0 _ g b [] h1 (by decide) (by decide)).mono ?_; rintro e w2 ⟨rfl, h2, hk2⟩
  have e2 : setL [] kK ⟨kA, 2, id0⟩ = [(kK, ⟨kA, 2, id0⟩)] := by decide
  have c2 : checkE kK ⟨kA, 2, id0⟩ = 0 := by decide
  rw [e2] at h2
  rw [c2]
  have hw2 : Below w.heap.size w w2 := hw1.trans (hk2.below (by have := hw1.size; omega) (by simpa using hb))
  go_wp2_with fail
  refine (lset kK kB 1 id9 _ g b _ h2 (by decide) (by decide)).mono ?_; rintro e w3 ⟨rfl, h3, hk3⟩
  have e3 : setL [(kK, ⟨kA, 2, id0⟩)] kK ⟨kB, 1, id9⟩ = [(kK, ⟨kA, 2, id0⟩)] := by
    have hc : checkE kK ⟨kB, 1, id9⟩ = 0 := by decide
    have ho : ¬ 0 < cmpSet ⟨kB, 1, id9⟩ ⟨kA, 2, id0⟩ := by simp [cmpSet, orL, cmpI]
    unfold setL insL
    rw [if_pos hc, if_neg cmpS_irr, if_pos rfl, if_neg ho]
  have c3 : checkE kK ⟨kB, 1, id9⟩ = 0 := by decide
  rw [e3] at h3
  rw [c3]
  have hw3 : Below w.heap.size w w3 := hw2.trans (hk3.below (by have := hw2.size; omega) (by simpa using hb))
  go_wp2_with fail
  refine (lget kK _ g b _ h3 (by decide)).mono ?_; rintro e w4 ⟨rfl, hb4⟩
  have c4 : getS [(kK, ⟨kA, 2, id0⟩)] kK = kA := by decide
  have c5 : (getL [(kK, ⟨kA, 2, id0⟩)] kK).isSome = true := by decide
  rw [c4, c5]
  have h4 := h3.below hb4
  have hw4 := bel2 hw3 hb4
  have hka : kA = ⟨#[97]⟩ := rfl
  rw [hka]
  go_wp2_with fail
  refine (llist _ g b _ h4 (by simp)).mono ?_; rintro e w5 ⟨A, cap, rfl, hown, hb5⟩
  go_wp2_with fail
  go_ret
  exact ⟨rfl, bel2 hw4 hb5⟩

theorem lput_nil (w : World) : Calls Try.prog 22 #[.pointer none] w fun e w' => e = .returned (.string ⟨#[]⟩) ∧ w = w' := by
  go_enter Try.func22, Try.ntmps22
  go_wp2_with fail
  refine (lnone_nil _).mono ?_; rintro e w' ⟨rfl, rfl⟩
  go_wp2_with fail
  go_ret
  exact ⟨rfl, rfl⟩
theorem lput_zero (w : World) (g : Nat) (h : w.cell? ⟨g, 0, none⟩ = some (.map none)) : Calls Try.prog 22 #[.pointer (some ⟨g, 0, none⟩)] w fun e w' => e = .returned (.string ⟨#[]⟩) ∧ w = w' := by
  go_enter Try.func22, Try.ntmps22
  go_wp2_with fail
  refine (lnone_zero _ _ h).mono ?_; rintro e w' ⟨rfl, rfl⟩
  go_wp2_with fail
  go_ret
  exact ⟨rfl, rfl⟩

set_option maxRecDepth 100000 in
set_option maxHeartbeats 2000000 in
theorem lastZero_any (key : ByteArray) (n : Int) (w : World) : Calls Try.prog 5 #[.string key, .int .i64 n] w fun e w' => e = .returned (.bool true) ∧ Below w.heap.size w w' := by
  go_enter Try.func5, Try.ntmps5
  go_wp2_with fail
  refine (lget_nil key _).mono ?_; rintro e w1 ⟨rfl, hb1⟩
  have h1 : w1.cell? ⟨w.heap.size, 0, none⟩ = some (.map none) := (hb1.cell (p := ⟨w.heap.size, 0, none⟩) (by simp)).trans (by simp [go_sem])
  have hw1 : Below w.heap.size w w1 := bel2 ((Below.refl _ _).alloc (Nat.le_refl _) _) hb1
  clear hb1
  go_wp2_with fail
  refine (lget_zero key _ _ h1).mono ?_; rintro e w2 ⟨rfl, hb2⟩
  have h2 : w2.cell? ⟨w.heap.size, 0, none⟩ = some (.map none) := (hb2.cell (World.block_lt_of_cell? w1 _ h1)).trans h1
  have hw2 := bel2 hw1 hb2
  clear hb2 h1 hw1
  go_wp2_with fail
  refine (lset_nil key _ n _ _).mono ?_; rintro e w3 ⟨rfl, hb3⟩
  have h3 : w3.cell? ⟨w.heap.size, 0, none⟩ = some (.map none) := (hb3.cell (World.block_lt_of_cell? w2 _ h2)).trans h2
  have hw3 := bel2 hw2 hb3
  clear hb3 h2 hw2
  go_wp2_with fail
  refine (lset_zero key _ n _ _ _ h3).mono ?_; rintro e w4 ⟨rfl, hb4⟩
  have h4 : w4.cell? ⟨w.heap.size, 0, none⟩ = some (.map none) := (hb4.cell (World.block_lt_of_cell? w3 _ h3)).trans h3
  have hw4 := bel2 hw3 hb4
  clear hb4 h3 hw3
  go_wp2_with fail
  refine (llist_nil _).mono ?_; rintro e w5 ⟨rfl, rfl⟩
  go_wp2_with fail
  refine (llist_zero _ _ h4).mono ?_; rintro e w5 ⟨rfl, rfl⟩
  go_wp2_with fail
  have h0 : ((⟨#[]⟩ : ByteArray) ++ ⟨#[]⟩).toList = [] := by
    have : ((⟨#[]⟩ : ByteArray) ++ ⟨#[]⟩) = ⟨#[]⟩ := rfl
    rw [this, ByteArray.toList_eq]
  refine (lput_nil _).mono ?_; rintro e w5 ⟨rfl, rfl⟩
  go_wp2_with fail
  refine (lput_zero _ _ h4).mono ?_; rintro e w5 ⟨rfl, rfl⟩
  go_wp2_with fail
  refine (awake_any _).mono ?_; rintro e w5 ⟨rfl, hb5⟩
  go_wp2_with fail
  go_ret
  exact ⟨rfl, bel2 hw4 hb5⟩

end Go.Proofs.Ytlonihfhgfmplaa
