/- The laws of package bag: awake, BagZero. -/
import Derived.Test.YtlonihfhgfmplaaBagG
namespace Go.Proofs.Ytlonihfhgfmplaa
open Go.RowKit

def id1 : Id32 := ⟨1 :: List.replicate 31 0, by simp⟩
def id2 : Id32 := ⟨2 :: List.replicate 31 0, by simp⟩
@[go_sem ↓] theorem buildId1_run (w : World) : (Instr.build 24 #[(0, .int .u8 1)]).run Try.prog w = .ok (.agg (idC id1)) w := by kernel_rfl
@[go_sem ↓] theorem buildId2_run (w : World) : (Instr.build 24 #[(0, .int .u8 2)]).run Try.prog w = .ok (.agg (idC id2)) w := by kernel_rfl
@[go_sem ↓] theorem zeroBag_run (w : World) : (zeroValue 80).run Try.prog w = .ok (.agg #[.map none, .map none]) w := by kernel_rfl
@[go_sem] theorem id1_set : (idC id0).setIfInBounds 0 (.int .u8 1) = idC id1 := by simp [idC, id0, id1, byteC, List.replicate]
@[go_sem] theorem id2_set : (idC id0).setIfInBounds 0 (.int .u8 2) = idC id2 := by simp [idC, id0, id2, byteC, List.replicate]
def kA : ByteArray := ⟨#[97]⟩
theorem aw1 : addB [] [] ⟨id1, kA⟩ = [⟨id1, kA⟩] := by decide +kernel
theorem aw2 : addB [⟨id1, kA⟩] [] ⟨id2, kA⟩ = [⟨id1, kA⟩, ⟨id2, kA⟩] := by decide +kernel
theorem aw3 : remL [⟨id1, kA⟩, ⟨id2, kA⟩] kA [id1] = [⟨id2, kA⟩] := by decide +kernel
theorem aw4 : remG [] kA [id1] = [⟨id1, kA⟩] := by decide +kernel
theorem aw5 : (tagsOf [⟨id2, kA⟩] kA).length = 1 := by decide +kernel
theorem aw6 : (listB [⟨id2, kA⟩]).length = 1 := by decide +kernel

set_option maxRecDepth 100000 in
set_option maxHeartbeats 1000000 in
theorem awake_any (w : World) : Calls Try.prog 27 #[] w fun e w' => e = .returned (.bool true) ∧ Below w.heap.size w w' := by
  have hkA : (⟨#[97]⟩ : ByteArray) = kA := rfl
  go_enter Try.func27, Try.ntmps27
  go_wp2_with fail
  refine (bnew _).mono ?_; rintro e w1 ⟨g, bl, bg, rfl, h1, hg, hl, hb, hw1⟩
  go_wp2_with fail
  refine (badd id1 kA _ g bl bg _ _ h1 (by decide)).mono ?_; rintro e w2 ⟨rfl, h2, hk2⟩
  have c2 : longE kA = 0 := by decide
  rw [aw1] at h2
  rw [c2]
  have hw2 : Below w.heap.size w w2 := hw1.trans (hk2.below (by have := hw1.size; omega) (by simpa using hl))
  go_wp2_with fail
  refine (badd id2 kA _ g bl bg _ _ h2 (by decide)).mono ?_; rintro e w3 ⟨rfl, h3, hk3⟩
  rw [aw2] at h3
  rw [c2]
  have hw3 : Below w.heap.size w w3 := hw2.trans (hk3.below (by have := hw2.size; omega) (by simpa using hl))
  have hba : Below w3.heap.size w3 (w3.alloc (.cells (idC id1) 24)) := (Below.refl _ _).alloc (Nat.le_refl _) _
  have h3a := h3.below hba
  have hta : TagsIn (w3.alloc (.cells (idC id1) 24)) (some ⟨w3.heap.size, 0, none⟩) 1 [id1] := ⟨rfl, fun _ => ⟨w3.heap.size, 0, rfl, fun i hi => by
    have : i = 0 := by simpa using hi
    subst this
    simp [go_sem]⟩⟩
  have hw3a := bel2 hw3 hba
  clear hba h2 h1 hw1 hw2 hw3 hk2 hk3
  go_wp2_with fail
  refine (brem kA _ 1 1 [id1] _ g bl bg _ _ h3a hta (by decide) (by omega)).mono ?_; rintro e w4 ⟨rfl, h4, hk4⟩
  rw [if_neg (by decide), if_neg (by decide), aw3, aw4] at h4
  rw [c2]
  have hw4 : Below w.heap.size w w4 := hw3a.trans (hk4.below (by have := hw3a.size; omega) (by intro x hx; simp at hx; omega))
  clear hk4 hta h3a hw3a h3
  go_wp2_with fail
  refine (bhas kA _ g bl bg _ _ h4 (by simp)).mono ?_; rintro e w5 ⟨rfl, hb5⟩
  rw [aw5]
  have h5 := h4.below hb5
  have hw5 := bel2 hw4 hb5
  clear hb5 h4 hw4
  go_wp2_with fail
  refine (btags kA _ g bl bg _ _ h5 (by simp)).mono ?_; rintro e w6 ⟨A, cap, rfl, _, hb6⟩
  rw [aw5]
  have h6 := h5.below hb6
  have hw6 := bel2 hw5 hb6
  clear hb6 h5 hw5
  go_wp2_with fail
  refine (blist _ g bl bg _ _ h6 (by simp)).mono ?_; rintro e w7 ⟨A, cap, rfl, _, hb7⟩
  rw [aw6]
  have hw7 := bel2 hw6 hb7
  clear hb7 h6 hw6
  go_wp2_with fail
  go_ret
  exact ⟨rfl, hw7⟩

theorem bput_nil (w : World) : Calls Try.prog 40 #[.pointer none] w fun e w' => e = .returned (.string ⟨#[]⟩) ∧ w = w' := by
  go_enter Try.func40, Try.ntmps40
  go_wp2_with fail
  refine (bnone_nil _).mono ?_; rintro e w' ⟨rfl, rfl⟩
  go_wp2_with fail
  go_ret
  exact ⟨rfl, rfl⟩
theorem bput_zero (w : World) (g : Nat) (h : w.cell? ⟨g, 0, none⟩ = some (.map none)) : Calls Try.prog 40 #[.pointer (some ⟨g, 0, none⟩)] w fun e w' => e = .returned (.string ⟨#[]⟩) ∧ w = w' := by
  go_enter Try.func40, Try.ntmps40
  go_wp2_with fail
  refine (bnone_zero _ _ h).mono ?_; rintro e w' ⟨rfl, rfl⟩
  go_wp2_with fail
  go_ret
  exact ⟨rfl, rfl⟩

set_option maxRecDepth 100000 in
set_option maxHeartbeats 2000000 in
theorem bagZero_any (d : Id32) (v : ByteArray) (w : World) : Calls Try.prog 10 #[.agg (idC d), .string v] w fun e w' => e = .returned (.bool true) ∧ Below w.heap.size w w' := by
  have h0 : ((⟨#[]⟩ : ByteArray) ++ ⟨#[]⟩).toList = [] := by
    have : ((⟨#[]⟩ : ByteArray) ++ ⟨#[]⟩) = ⟨#[]⟩ := rfl
    rw [this, ByteArray.toList_eq]
  go_enter Try.func10, Try.ntmps10
  go_wp2_with fail
  refine (badd_nil d v _).mono ?_; rintro e w1 ⟨rfl, hb1⟩
  have h1 : w1.cell? ⟨w.heap.size + 1, 0, none⟩ = some (.map none) := (hb1.cell (p := ⟨w.heap.size + 1, 0, none⟩) (by simp)).trans (by simp [go_sem])
  have r1 : rowAt w1 w.heap.size 0 32 = some (idC d) := (rowAt_of_block (hb1.block w.heap.size (by simp; omega)) 0 32).trans (by simp [go_sem])
  have hw1 : Below w.heap.size w w1 := bel2 (((Below.refl _ _).alloc (Nat.le_refl _) _).alloc (by simp) _) hb1
  clear hb1
  go_wp2_with fail
  refine (badd_zero d v _ _ h1).mono ?_; rintro e w2 ⟨rfl, hb2⟩
  have h2 : w2.cell? ⟨w.heap.size + 1, 0, none⟩ = some (.map none) := (hb2.cell (World.block_lt_of_cell? w1 _ h1)).trans h1
  have hw2 := bel2 hw1 hb2
  clear hb2 h1 hw1 r1
  go_wp2_with fail
  refine (brem_nil v _ _).mono ?_; rintro e w3 ⟨rfl, rfl⟩
  go_wp2_with fail
  refine (brem_zero v _ _ _ h2).mono ?_; rintro e w3 ⟨rfl, rfl⟩
  go_wp2_with fail
  refine (bhas_nil v _).mono ?_; rintro e w3 ⟨rfl, rfl⟩
  go_wp2_with fail
  refine (bhas_zero v _ _ h2).mono ?_; rintro e w3 ⟨rfl, rfl⟩
  go_wp2_with fail
  refine (btags_nil v _).mono ?_; rintro e w3 ⟨rfl, rfl⟩
  go_wp2_with fail
  refine (btags_zero v _ _ h2).mono ?_; rintro e w3 ⟨rfl, rfl⟩
  go_wp2_with fail
  refine (blist_nil _).mono ?_; rintro e w3 ⟨rfl, rfl⟩
  go_wp2_with fail
  refine (blist_zero _ _ h2).mono ?_; rintro e w3 ⟨rfl, rfl⟩
  go_wp2_with fail
  refine (bput_nil _).mono ?_; rintro e w3 ⟨rfl, rfl⟩
  go_wp2_with fail
  refine (bput_zero _ _ h2).mono ?_; rintro e w3 ⟨rfl, rfl⟩
  go_wp2_with fail
  refine (awake_any _).mono ?_; rintro e w5 ⟨rfl, hb5⟩
  go_wp2_with fail
  go_ret
  exact ⟨rfl, bel2 hw2 hb5⟩

end Go.Proofs.Ytlonihfhgfmplaa
