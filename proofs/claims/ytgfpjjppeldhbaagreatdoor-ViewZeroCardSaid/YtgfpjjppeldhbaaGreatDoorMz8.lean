/- Part 8 of the texts that lead to this claim: the walks of the functions and the plain law, in order. -/
import Derived.Test.YtgfpjjppeldhbaaGreatDoorMz7
import Derived.LaidLaws
import Derived.LaidHandle
import Derived.Stop.Joined

/- The reference Same (petrelref26): are two values one? -/
namespace Go.Proofs.YtgfpjjppeldhbaaGreatDoor
open Go.RowKit

/-- A value, its pairs told. -/
def valC (k n : Int) (A : Option Addr) (m c : Nat) : Array Value := valVC ⟨k, n, .slice A m c⟩

set_option maxRecDepth 100000 in
set_option maxHeartbeats 1000000 in
theorem rsame26 (w : World) (k n k' n' : Int) (A B : Option Addr) (m m' c c' : Nat) (X Y : List Pair) (hx : PairsIn w A m X) (hy : PairsIn w B m' Y) (hm : m ≤ 1000000) (hm' : m' ≤ 1000000) :
    Calls Tryz.prog 15 #[.agg (valC k n A m c), .agg (valC k' n' B m' c')] w fun e w' => e = .returned (.bool (decide (k = k' ∧ n = n' ∧ X = Y))) ∧ Below w.heap.size w w' := by
  have hB : Below w.heap.size w ((w.alloc (.cells (valC k n A m c) 25)).alloc (.cells (valC k' n' B m' c') 25)) := ((Below.refl _ _).alloc (Nat.le_refl _) _).alloc (by simp) _
  have hx1 := SlR.below hx hB
  have hy1 := SlR.below hy hB
  have cp := rpairs _ A B m m' c c' X Y hx1 hy1 hm hm'
  unfold valC at hB cp ⊢
  have hd : decide (k = k' ∧ n = n' ∧ X = Y) = ((k == k') && (n == n') && decide (X = Y)) := by
    rw [Bool.eq_iff_iff]; simp [and_assoc]
  obtain ⟨b, hb⟩ : ∃ b, decide (X = Y) = b := ⟨_, rfl⟩
  rw [hb] at cp hd
  have Hd := Lib.hid hd
  clear hd hx1 hy1 hb hx hy
  obtain ⟨b1, h1⟩ : ∃ b1, (k == k') = b1 := ⟨_, rfl⟩
  obtain ⟨b2, h2⟩ : ∃ b2, (n == n') = b2 := ⟨_, rfl⟩
  have Hd2 : Hid (decide (k = k' ∧ n = n' ∧ X = Y) = (b1 && b2 && b)) := by show _ = _; rw [Hd.out, h1, h2]
  clear Hd
  cases b1 <;> cases b2
  all_goals
    go_enter Tryz.func15, Tryz.ntmps15
    go_wp2_with fail
    first
    | (go_ret; exact ⟨ret_bool (by rw [Hd2.out]; rfl), hB⟩)
    | (refine cp.mono ?_; rintro e w1 ⟨rfl, hb1⟩
       have hBB := bel2 hB hb1
       clear cp hb1 hB
       go_wp2_with fail
       go_ret
       exact ⟨ret_bool (by rw [Hd2.out]; rfl), hBB⟩)

end Go.Proofs.YtgfpjjppeldhbaaGreatDoor

/- Package view: a view that nobody made; the law's awake. -/
namespace Go.Proofs.YtgfpjjppeldhbaaGreatDoor
open Go.RowKit

theorem vfold_nil (m : MarkV) (w : World) : Calls Tryz.prog 26 #[.pointer none, .agg (markVC m)] w fun e w' => e = .returned (.bool false) ∧ Below w.heap.size w w' := by
  have hB : Below w.heap.size w (w.alloc (.cells (markVC m) 41)) := (Below.refl _ _).alloc (Nat.le_refl _) _
  go_enter Tryz.func26, Tryz.ntmps26
  go_upto_region 1 with fail
  generalize w.alloc (.cells (markVC m) 41) = W at *
  refine wp_region_lex (Bel W) false (by kernel_rfl) (by kernel_rfl) (by kernel_rfl) (bel_drew W) ?_
  have hne := bel_some W
  have hS := bel_drew W
  repeat (refine wpLx_loose ?_ ?_; (focus (simp only [chainOp]; done)); intro K hK; go_simp; refine hK _ ?_; clear hK K)
  refine wpLx_chain ?_ ?_ ?_
  focus (exact hS)
  focus (simp only [chainOp]; done)
  intro K hK
  go_simp
  refine (vnone_nil _).mono ?_
  rintro e w' ⟨rfl, rfl⟩
  refine ⟨_, rfl, hS, hK _ _ ?_⟩
  clear hK K
  repeat (refine wpLx_loose ?_ ?_; (focus (simp only [chainOp]; done)); intro K hK; go_simp; refine hK _ ?_; clear hK K)
  refine wpLx_nil ?_
  intro hS
  go_wp2_with fail
  go_ret
  exact ⟨rfl, bel2 hB hS⟩
theorem vfold_zero (m : MarkV) (w : World) (g : Nat) (h : w.cell? ⟨g, 1, none⟩ = some (.map none)) : Calls Tryz.prog 26 #[.pointer (some ⟨g, 0, none⟩), .agg (markVC m)] w fun e w' => e = .returned (.bool false) ∧ Below w.heap.size w w' := by
  have hB : Below w.heap.size w (w.alloc (.cells (markVC m) 41)) := (Below.refl _ _).alloc (Nat.le_refl _) _
  have hc : (w.alloc (.cells (markVC m) 41)).cell? ⟨g, 1, none⟩ = some (.map none) := (World.cell?_alloc_lt w _ _ (World.block_lt_of_cell? w _ h)).trans h
  go_enter Tryz.func26, Tryz.ntmps26
  go_upto_region 1 with fail
  generalize w.alloc (.cells (markVC m) 41) = W at *
  refine wp_region_lex (Bel W) false (by kernel_rfl) (by kernel_rfl) (by kernel_rfl) (bel_drew W) ?_
  have hne := bel_some W
  have hS := bel_drew W
  repeat (refine wpLx_loose ?_ ?_; (focus (simp only [chainOp]; done)); intro K hK; go_simp; refine hK _ ?_; clear hK K)
  refine wpLx_chain ?_ ?_ ?_
  focus (exact hS)
  focus (simp only [chainOp]; done)
  intro K hK
  go_simp
  refine (vnone_zero W.drew g hc).mono ?_
  rintro e w' ⟨rfl, rfl⟩
  refine ⟨_, rfl, hS, hK _ _ ?_⟩
  clear hK K
  repeat (refine wpLx_loose ?_ ?_; (focus (simp only [chainOp]; done)); intro K hK; go_simp; refine hK _ ?_; clear hK K)
  refine wpLx_nil ?_
  intro hS
  go_wp2_with fail
  go_ret
  exact ⟨rfl, bel2 hB hS⟩
set_option maxRecDepth 100000 in
theorem vval_nil (w : World) : Calls Tryz.prog 24 #[.pointer none] w fun e w' => e = .returned (.agg (valVC valV0)) ∧ Below w.heap.size w w' := by
  have hB : Below w.heap.size w (w.alloc (.cells (valVC valV0) 25)) := (Below.refl _ _).alloc (Nat.le_refl _) _
  have hg : (w.alloc (.cells (valVC valV0) 25)).heap[w.heap.size]? = some (.cells (valVC valV0) 25 (0, 0)) := heap_alloc_new w _
  go_enter Tryz.func24, Tryz.ntmps24
  go_upto_region 1 with fail
  obtain ⟨ga, hga⟩ : ∃ ga, w.heap.size = ga := ⟨_, rfl⟩
  have Hga := Lib.hid hga
  rw [hga] at hg hB ⊢
  obtain ⟨W, hW⟩ : ∃ W, W = w.alloc (.cells (valVC valV0) 25) := ⟨_, rfl⟩
  rw [← hW] at hg hB  ⊢
  clear hW hga
  go_wp2_with fail
  refine (vnone_nil _).mono ?_; rintro e w1 ⟨rfl, rfl⟩
  have hsto := run_stS_at (P := Tryz.prog) infoValV W ga (valVC valV0) (valVC valV0) _ hg (by simp) (by simp) (valVC_one _ rfl)
  have hkf : Keep [ga] W (W.setRow ga (valVC valV0)) := ⟨rfl, rfl, rfl, by simp [World.setRow], fun x _ hx => setRow_other W ga x _ (by simpa using hx)⟩
  have Hfin := Lib.hid (setRow_heap W ga _ (valVC valV0) _ _ hg)
  have hBf : Below ga w (W.setRow ga (valVC valV0)) := hB.trans (hkf.below (by have := hB.size; have := Hga.out; omega) (by simp))
  have HBf := Lib.hid hBf
  clear hBf hkf hg hB
  go_wp2_with fail
  refine bodyPost_ret (results_cell_row Tryz.results24 _ _ ga 25 (valVC valV0) (0, 0) _ rfl Hfin.out Tryz.underlying25 rfl (by rw [valVC_size]; exact infoValV)) rfl ?_
  exact ⟨rfl, by rw [Hga.out]; exact HBf.out⟩
set_option maxRecDepth 100000 in
theorem vval_zero (w : World) (g : Nat) (h : w.cell? ⟨g, 1, none⟩ = some (.map none)) : Calls Tryz.prog 24 #[.pointer (some ⟨g, 0, none⟩)] w fun e w' => e = .returned (.agg (valVC valV0)) ∧ Below w.heap.size w w' := by
  have hc : (w.alloc (.cells (valVC valV0) 25)).cell? ⟨g, 1, none⟩ = some (.map none) := (World.cell?_alloc_lt w _ _ (World.block_lt_of_cell? w _ h)).trans h
  have hB : Below w.heap.size w (w.alloc (.cells (valVC valV0) 25)) := (Below.refl _ _).alloc (Nat.le_refl _) _
  have hg : (w.alloc (.cells (valVC valV0) 25)).heap[w.heap.size]? = some (.cells (valVC valV0) 25 (0, 0)) := heap_alloc_new w _
  go_enter Tryz.func24, Tryz.ntmps24
  go_upto_region 1 with fail
  obtain ⟨ga, hga⟩ : ∃ ga, w.heap.size = ga := ⟨_, rfl⟩
  have Hga := Lib.hid hga
  rw [hga] at hg hB ⊢
  obtain ⟨W, hW⟩ : ∃ W, W = w.alloc (.cells (valVC valV0) 25) := ⟨_, rfl⟩
  rw [← hW] at hg hB hc ⊢
  clear hW hga
  go_wp2_with fail
  refine (vnone_zero _ g hc).mono ?_; rintro e w1 ⟨rfl, rfl⟩
  have hsto := run_stS_at (P := Tryz.prog) infoValV W ga (valVC valV0) (valVC valV0) _ hg (by simp) (by simp) (valVC_one _ rfl)
  have hkf : Keep [ga] W (W.setRow ga (valVC valV0)) := ⟨rfl, rfl, rfl, by simp [World.setRow], fun x _ hx => setRow_other W ga x _ (by simpa using hx)⟩
  have Hfin := Lib.hid (setRow_heap W ga _ (valVC valV0) _ _ hg)
  have hBf : Below ga w (W.setRow ga (valVC valV0)) := hB.trans (hkf.below (by have := hB.size; have := Hga.out; omega) (by simp))
  have HBf := Lib.hid hBf
  clear hBf hkf hg hB
  go_wp2_with fail
  refine bodyPost_ret (results_cell_row Tryz.results24 _ _ ga 25 (valVC valV0) (0, 0) _ rfl Hfin.out Tryz.underlying25 rfl (by rw [valVC_size]; exact infoValV)) rfl ?_
  exact ⟨rfl, by rw [Hga.out]; exact HBf.out⟩

def id1v : Id32 := ⟨1 :: List.replicate 31 0, by simp⟩
@[go_sem ↓] theorem buildId1v_run (w : World) : (Instr.build 39 #[(0, .int .u8 1)]).run Tryz.prog w = .ok (.agg (idC id1v)) w := by kernel_rfl
@[go_sem] theorem id1v_set : (idC id0).setIfInBounds 0 (.int .u8 1) = idC id1v := by simp [idC, id0, id1v, byteC, List.replicate]
def caS : ByteArray := ⟨#[99, 97]⟩
theorem ca_kind : kindB caS = 1 := by decide +kernel

set_option maxRecDepth 100000 in
set_option maxHeartbeats 1000000 in
theorem awake26 (w : World) (hp : PartsVar w) : Calls Tryz.prog 22 #[] w fun e w' => e = .returned (.bool true) ∧ Below w.heap.size w w' := by
  have hca : (⟨#[99, 97]⟩ : ByteArray) = caS := rfl
  have c1 := vnew caS w (by decide) 1 ca_kind (by omega) 100 (fun a b gs => gs = a.heap.size ∧ TallyAt b gs 0) (fun w => (vfresh_t w).mono fun e w' ⟨h1, h2, h3⟩ => ⟨w.heap.size, h1, ⟨rfl, h2⟩, h3⟩)
  go_enter Tryz.func22, Tryz.ntmps22
  go_wp2_with fail
  refine c1.mono ?_; rintro e w1 ⟨g, b, gt, w2, w3, rfl, hv, ⟨hgt, hT⟩, hb23, hb31, hg, hbl, hb2, hB⟩
  have hT1 : TallyAt w1 gt 0 := hT.kept (Keep.of_below hb31) (by simp)
  have hgtb : gt ≠ b := by omega
  have hgtg : gt ≠ g := by have := hT.lt; omega
  have hgl : w.heap.size ≤ gt := by have := hb23.size; have := hB.size; omega
  have hp1 := hp.below hB
  have hbn : b ≠ 0 := by have := hp.lt; omega
  clear hT hgt hb23 hb31 hg hb2 c1 hca
  have cp := rop_put_inc 2 w1 (by omega)
  change Calls Tryz.prog _ #[.agg (opPC ⟨1, 2, ⟨#[]⟩, ⟨#[]⟩, id0, .slice none 0 0⟩)] _ _ at cp
  go_wp2_with fail
  refine cp.mono ?_; rintro e w4 ⟨s, rfl, hs, hb4⟩
  have hv4 := hv.below hb4
  have hT4 : TallyAt w4 gt 0 := hT1.kept (Keep.of_below hb4) (by simp)
  have hp4 := hp1.below hb4
  have hB4 := bel2 hB hb4
  clear hv hT1 hp1 hb4 cp hB
  have hfit : fits caS ⟨id1v, 1, s⟩ := by
    unfold fits
    simp only [hs]
    exact ⟨inc2_e, by rw [inc2_k, ca_kind]; rfl⟩
  have hsz : s.size ≤ 9223372036854775807 := by
    have : s.data.toList.length = 5 := by rw [hs]; rfl
    have e : s.size = s.data.toList.length := Array.length_toList.symm
    omega
  have cf := vfold_new ⟨id1v, 1, s⟩ w4 g caS b [] _ hv4 (by simp) hp4 hbn hsz (by decide)
    (fun w' => ViewAt w' g caS b [id1v] (.iface 100 (.pointer (some ⟨gt, 0, none⟩))) ∧ TallyAt w' gt 2 ∧ Below w.heap.size w w')
    (fun hn => absurd hfit hn)
    (fun _ w5 A c hv5 hk5 hp5 _ => by
      have hT5 : TallyAt w5 gt 0 := hT4.kept hk5 (by simpa using hgtb)
      have hn : (opO s.data.toList).n = 2 := by rw [hs]; exact inc2_n
      refine (vdoes_t ⟨id1v, 1, s⟩ _ A c w5 g gt caS b _ 0 hv5 hT5 (by rw [hn]; omega) (by rw [hn]; omega)).mono ?_
      rintro e w6 ⟨rfl, h6, hk6⟩
      rw [hn, show wrap64 (0 + 2) = 2 from by decide +kernel] at h6
      refine ⟨rfl, hv5.kept hk6 (by simpa using fun e => hgtg e.symm) (by simpa using fun e => hgtb e.symm), h6, ?_⟩
      have hB5 := hB4.trans (hk5.below (B := w.heap.size) hB4.size (by simpa using hbl))
      exact hB5.trans (hk6.below (B := w.heap.size) hB5.size (by simpa using hgl)))
  have Hcf := cf
  clear hfit hs hsz cf hp4 hT4
  go_wp2_with fail
  refine Hcf.mono ?_; rintro e w5 ⟨rfl, hv5, hT5, hB5⟩
  clear Hcf hv4 hB4
  have cv := vvalue_t w5 g gt caS b _ 2 hv5 hT5 (by decide) ca_kind
  go_wp2_with fail
  refine cv.mono ?_; rintro e w6 ⟨rfl, hb6⟩
  have hv6 := hv5.below hb6
  have hB6 := bel2 hB5 hb6
  clear cv hv5 hT5 hB5 hb6
  have ch := vhas id1v w6 g caS b _ _ hv6
  rw [show decide (id1v ∈ [id1v]) = true from by simp] at ch
  go_wp2_with fail
  refine ch.mono ?_; rintro e w7 ⟨rfl, hb7⟩
  have hB7 := bel2 hB6 hb7
  clear ch hv6 hB6 hb7
  go_wp2_with fail
  go_ret
  exact ⟨rfl, hB7⟩

set_option maxRecDepth 100000 in
set_option maxHeartbeats 2000000 in
theorem viewZero_any (m : MarkV) (w : World) (hp : PartsVar w) : Calls Tryz.prog 8 #[.agg (markVC m)] w fun e w' => e = .returned (.bool true) ∧ Below w.heap.size w w' := by
  have hz : ∀ w, (zeroValue 79).run Tryz.prog w = .ok (.agg #[.string ⟨#[]⟩, .map none, .nilIface]) w := fun w => by kernel_rfl
  go_enter Tryz.func8, Tryz.ntmps8
  go_wp2_with fail
  refine (vfold_nil m _).mono ?_; rintro e w1 ⟨rfl, hb1⟩
  have h1 : w1.cell? ⟨w.heap.size + 1, 1, none⟩ = some (.map none) := (hb1.cell (p := ⟨w.heap.size + 1, 1, none⟩) (by simp)).trans (by simp [go_sem])
  have r1 : rowAt w1 w.heap.size 0 34 = some (markVC m) := (rowAt_of_block (hb1.block w.heap.size (by simp; omega)) 0 34).trans (by simp [go_sem])
  have hw1 : Below w.heap.size w w1 := bel2 (((Below.refl _ _).alloc (Nat.le_refl _) _).alloc (by simp) _) hb1
  clear hb1
  go_wp2_with fail
  refine (vfold_zero m _ _ h1).mono ?_; rintro e w2 ⟨rfl, hb2⟩
  have h2 : w2.cell? ⟨w.heap.size + 1, 1, none⟩ = some (.map none) := (hb2.cell (World.block_lt_of_cell? w1 _ h1)).trans h1
  have r2 : rowAt w2 w.heap.size 0 34 = some (markVC m) := (rowAt_of_block (hb2.block w.heap.size (rowAt_lt r1)) 0 34).trans r1
  have hw2 := bel2 hw1 hb2
  clear hb2 h1 hw1 r1
  have d2 := rowAt_sub r2 (j := 0) (m := 32) (by omega)
  rw [markVC_e0] at d2
  go_wp2_with fail
  refine (vhas_nil m.id _).mono ?_; rintro e w3 ⟨rfl, hb3⟩
  have h3 : w3.cell? ⟨w.heap.size + 1, 1, none⟩ = some (.map none) := (hb3.cell (World.block_lt_of_cell? w2 _ h2)).trans h2
  have d3 : rowAt w3 w.heap.size 0 32 = some (idC m.id) := (rowAt_of_block (hb3.block w.heap.size (rowAt_lt d2)) 0 32).trans d2
  have hw3 := bel2 hw2 hb3
  clear hb3 h2 hw2 r2 d2
  go_wp2_with fail
  refine (vhas_zero m.id _ _ h3).mono ?_; rintro e w4 ⟨rfl, hb4⟩
  have h4 : w4.cell? ⟨w.heap.size + 1, 1, none⟩ = some (.map none) := (hb4.cell (World.block_lt_of_cell? w3 _ h3)).trans h3
  have hw4 := bel2 hw3 hb4
  clear hb4 h3 hw3 d3
  go_wp2_with fail
  refine (vids_nil _).mono ?_; rintro e w5 ⟨rfl, rfl⟩
  go_wp2_with fail
  refine (vids_zero _ _ h4).mono ?_; rintro e w5 ⟨rfl, rfl⟩
  go_wp2_with fail
  refine (vtop_nil _).mono ?_; rintro e w5 ⟨rfl, rfl⟩
  go_wp2_with fail
  refine (vtop_zero _ _ h4).mono ?_; rintro e w5 ⟨rfl, rfl⟩
  go_wp2_with fail
  refine (vput_nil _).mono ?_; rintro e w5 ⟨rfl, rfl⟩
  go_wp2_with fail
  refine (vput_zero _ _ h4).mono ?_; rintro e w5 ⟨rfl, rfl⟩
  have he : ((⟨#[]⟩ : ByteArray) ++ ⟨#[]⟩) = ⟨#[]⟩ := rfl
  have h00 : (((⟨#[]⟩ : ByteArray) ++ ⟨#[]⟩) ++ ⟨#[]⟩) ++ ⟨#[]⟩ = ⟨#[]⟩ := rfl
  go_wp2_with fail
  refine (vval_nil _).mono ?_; rintro e w5 ⟨rfl, hb5⟩
  have h5 : w5.cell? ⟨w.heap.size + 1, 1, none⟩ = some (.map none) := (hb5.cell (World.block_lt_of_cell? w4 _ h4)).trans h4
  have hw5 := bel2 hw4 hb5
  clear hb5 h4 hw4
  have cs := rsame26 w5 0 0 0 0 none none 0 0 0 0 [] [] SlR.nil_ SlR.nil_ (by omega) (by omega)
  change Calls Tryz.prog _ #[.agg (valVC valV0), .agg (valVC valV0)] _ _ at cs
  rw [show decide ((0 : Int) = 0 ∧ (0 : Int) = 0 ∧ ([] : List Pair) = []) = true from by simp] at cs
  go_wp2_with fail
  refine cs.mono ?_; rintro e w6 ⟨rfl, hb6⟩
  have h6 : w6.cell? ⟨w.heap.size + 1, 1, none⟩ = some (.map none) := (hb6.cell (World.block_lt_of_cell? w5 _ h5)).trans h5
  have hw6 := bel2 hw5 hb6
  clear hb6 h5 hw5 cs
  go_wp2_with fail
  refine (vval_zero _ _ h6).mono ?_; rintro e w7 ⟨rfl, hb7⟩
  have hw7 := bel2 hw6 hb7
  clear hb7 h6 hw6
  have cs := rsame26 w7 0 0 0 0 none none 0 0 0 0 [] [] SlR.nil_ SlR.nil_ (by omega) (by omega)
  change Calls Tryz.prog _ #[.agg (valVC valV0), .agg (valVC valV0)] _ _ at cs
  rw [show decide ((0 : Int) = 0 ∧ (0 : Int) = 0 ∧ ([] : List Pair) = []) = true from by simp] at cs
  go_wp2_with fail
  refine cs.mono ?_; rintro e w8 ⟨rfl, hb8⟩
  have hw8 := bel2 hw7 hb8
  clear hb8 hw7 cs
  go_wp2_with fail
  refine (awake26 w8 (hp.below hw8)).mono ?_; rintro e w9 ⟨rfl, hb9⟩
  have hw9 := bel2 hw8 hb9
  clear hb9 hw8
  go_wp2_with fail
  go_ret
  exact ⟨rfl, hw9⟩

end Go.Proofs.YtgfpjjppeldhbaaGreatDoor

/- The frame of a tied law of the view: what the row's premise on the one variable gives a walk. -/
namespace Go.Proofs.YtgfpjjppeldhbaaGreatDoor
open Go.ChangeShapes Go.WideShapes Go.RowKit

theorem parts_of_laid {W : World} (h : laidMetH Tryz.prog [("petrel/op.parts", Rows.laid_petrel_op_parts)] W) : PartsVar W := by
  have h' : laidMet Tryz.prog [("petrel/op.parts", Lib.tabData .i64 [0, 1, 4, 20, 7, 22, 12, 8])] W := h
  have hT := Lib.tabIs_of_head (P := Tryz.prog) (g := 0) (t := 285) (e := 3) (n := 8) (by kernel_rfl) (by kernel_rfl) Tryz.underlying285 Tryz.underlying3 (by kernel_rfl) (by kernel_rfl) h'
  intro k hk
  have hc := hT.cell (g := 0) (by kernel_rfl) k (by simpa using hk)
  rw [hc]
  have h8 : k = 0 ∨ k = 1 ∨ k = 2 ∨ k = 3 ∨ k = 4 ∨ k = 5 ∨ k = 6 ∨ k = 7 := by omega
  rcases h8 with rfl | rfl | rfl | rfl | rfl | rfl | rfl | rfl <;> rfl

/-- A world that meets the premise: the settled one, the table laid. -/
def laidWorld (P : Program) (os : Os) : World := (World.holding P os ⟨#[], #[], []⟩).setRow 0 #[.int .i64 0, .int .i64 1, .int .i64 4, .int .i64 20, .int .i64 7, .int .i64 22, .int .i64 12, .int .i64 8]
theorem laidWorld_met (os : Os) (args : Array Value) : laidMetH Tryz.prog [("petrel/op.parts", Rows.laid_petrel_op_parts)] ((laidWorld Tryz.prog os).forCall (fun _ _ => 0) ⟨#[], args, []⟩).memory := by
  show laidMet Tryz.prog [("petrel/op.parts", Rows.laid_petrel_op_parts)] _
  exact laidMet_of_run' 8 (by kernel_rfl) (by kernel_rfl)
theorem trodVars_nil {H : Type} {enc : TypeId × Value → H} {P : Program} {w : World} {g : Nat → Bool} {gs : List (DataW H)} {q : List MemPlace} (hV : DataW.TrodVars enc P w g [] gs q) : gs = [] ∧ q = [] := by
  cases gs with
  | nil => exact ⟨rfl, hV⟩
  | cons g r => exact absurd hV (by intro h; cases h)

end Go.Proofs.YtgfpjjppeldhbaaGreatDoor
