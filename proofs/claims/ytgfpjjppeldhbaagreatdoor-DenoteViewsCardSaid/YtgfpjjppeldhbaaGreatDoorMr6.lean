/- Part 6 of the texts that lead to this claim: the walks of the functions and the plain law, in order. -/
import Derived.Test.YtgfpjjppeldhbaaGreatDoorMr5
import Derived.Shelf.SlSortCmp.NoneTotal
import Derived.Test.YtgfpjjppeldhbaaGreatDoorLayBag
import Derived.Shelf.Slices.CompactS
import Derived.Test.YtgfpjjppeldhbaaGreatDoorLayKeys
import Derived.Test.YtgfpjjppeldhbaaGreatDoorLayView
import Derived.IntWalk
import Derived.ArgAppend
import Derived.Laws.StructEq
namespace Go.Proofs.YtgfpjjppeldhbaaGreatDoor
section
open Go.RowKit
set_option maxRecDepth 100000 in
set_option maxHeartbeats 1000000 in
theorem vvalue_b (w : World) (g gt : Nat) (t : ByteArray) (b : Nat) (I : List Id32) (h : ViewAt w g t b I (.iface 102 (.pointer (some ⟨gt,0,none⟩)))) (ht : t.size ≤ 9223372036854775807) (hk : kindB t = 2) (n : Nat) (L : List (Array Value))
    (hl : ∀ w',Below w.heap.size w w' → Calls Tryz.prog 58 #[.pointer (some ⟨gt,0,none⟩)] w' fun e w''=>∃ A cap,e = .returned (.slice A n cap) ∧ Own w'' w'.heap.size 98 2 A n cap L ∧ Below w'.heap.size w' w'') :
    Calls Tryz.prog 24 #[.pointer (some ⟨g,0,none⟩)] w fun e w'=>∃ A cap,e = .returned (.agg (valVC ⟨2,0,.slice A n cap⟩)) ∧ Own w' w.heap.size 98 2 A n cap L ∧ Below w.heap.size w w':=by
  have hB : Below w.heap.size w (w.alloc (.cells (valVC valV0) 25)):=(Below.refl _ _).alloc (Nat.le_refl _) _;have h1:=h.below hB;have hg1 : (w.alloc (.cells (valVC valV0) 25)).heap[w.heap.size]? = some (.cells (valVC valV0) 25 (0,0)):=heap_alloc_new w _;have c2:=fun w=>kind_any t w ht;rw [hk] at c2;go_enter Tryz.func24,Tryz.ntmps24
  go_upto_region 1 with fail
  obtain ⟨ga,hga⟩ : ∃ ga,w.heap.size = ga:=⟨_,rfl⟩
  have Hga:=Lib.hid hga;rw [hga] at hg1 hB hl ⊢;obtain ⟨W,hW⟩ : ∃ W,W = w.alloc (.cells (valVC valV0) 25):=⟨_,rfl⟩
  rw [← hW] at h1 hg1 hB ⊢;clear hW hga;have hc1:=h1.cell1;(go_wp2_with fail);refine (vnone_live W g b hc1).mono ?_;rintro e w1 ⟨rfl,rfl⟩;have hc0:=h1.cell0;(go_wp2_with fail);refine (c2 _).mono ?_;rintro e w2 ⟨rfl,hb2⟩;have h2:=h1.below hb2;have hg2:=(hb2.block ga (Array.getElem?_eq_some_iff.1 hg1).1).trans hg1;have hB2 : Below ga w w2:=hB.trans (hb2.mono (by have:=hB.size;have:=Hga.out;omega));have hs2 : ga < w2.heap.size:=(Array.getElem?_eq_some_iff.1 hg2).1;clear hc0 hc1 h1 hg1 hB hb2 h c2;have hb3 : Below w2.heap.size w2 (w2.alloc (.cells (valVC ⟨2,0,.slice none 0 0⟩) 25)):=(Below.refl _ _).alloc (Nat.le_refl _) _;have h3:=h2.below hb3;have hg3:=(hb3.block ga hs2).trans hg2;have hB3 : Below ga w (w2.alloc (.cells (valVC ⟨2,0,.slice none 0 0⟩) 25)):=hB2.trans (hb3.mono (by omega));have hv3 : (w2.alloc (.cells (valVC ⟨2,0,.slice none 0 0⟩) 25)).heap[w2.heap.size]? = some (.cells (valVC ⟨2,0,.slice none 0 0⟩) 25 (0,0)):=heap_alloc_new w2 _;obtain ⟨gv,hgv⟩ : ∃ gv,w2.heap.size = gv:=⟨_,rfl⟩
  have Hgv:=Lib.hid hgv;clear h2 hg2 hB2 hb3;go_upto_region 4 with fail
  rw [hgv] at hv3 hs2;obtain ⟨W3,hW3⟩ : ∃ W3,W3 = (w2.alloc (.cells (valVC ⟨2,0,.slice none 0 0⟩) 25)):=⟨_,rfl⟩
  rw [← hW3] at h3 hg3 hB3 hv3 ⊢;clear hW3 hgv;have hc2:=h3.cell2;go_upto_region 10 with fail
  have hl3:=hl W3 hB3;(go_wp2_with fail);refine hl3.mono ?_;rintro e w4 ⟨A,cap,rfl,hown,hb4⟩;have hgv3 : gv < W3.heap.size:=(Array.getElem?_eq_some_iff.1 hv3).1;have hga3 : ga < W3.heap.size:=(Array.getElem?_eq_some_iff.1 hg3).1;have hvx:=(hb4.block gv hgv3).trans hv3;have hgx:=(hb4.block ga hga3).trans hg3;have hs4:=hb4.size;have hBx : Below ga w w4:=hB3.trans (hb4.mono (by omega));have hf : w4.frozen? ⟨gv,2,none⟩ = false:=by simp [World.frozen?,hvx]
  have hcv : w4.cell? ⟨gv,2,none⟩ = some (.slice none 0 0):=by rw [cell_of_row w4 gv 2 _ _ _ hvx];simp [go_sem]
  have hset : (valVC ⟨2,0,.slice none 0 0⟩).setIfInBounds 2 (.slice A n cap) = valVC ⟨2,0,.slice A n cap⟩:=by apply Array.ext';simp [valVC]
  have hv4 : (w4.setCell ⟨gv,2,none⟩ (.slice A n cap)).heap[gv]? = some (.cells (valVC ⟨2,0,.slice A n cap⟩) 25 (0,0)):=by rw [heap_setCell_same hvx,hset]
  have hks:=Keep.setCell w4 ⟨gv,2,none⟩ (.slice A n cap);have hg4 : (w4.setCell ⟨gv,2,none⟩ (.slice A n cap)).heap[ga]? = some (.cells (valVC valV0) 25 (0,0)):=(hks.block ga (by omega) (by simp;omega)).trans hgx;have hB4 : Below ga w (w4.setCell ⟨gv,2,none⟩ (.slice A n cap)):=hBx.trans (hks.below (by omega) (by simp;omega));have hown4:=hown.kept hks (fun x hx=>by have:=hown.at_base hx;simp;omega);clear hset hks hgx hBx h3 hc2 hown hb4 hg3 hB3 hl hl3;go_upto_region 20 with fail
  obtain ⟨W4,hW4⟩ : ∃ W4,W4 = w4.setCell ⟨gv,2,none⟩ (.slice A n cap):=⟨_,rfl⟩
  rw [← hW4] at hv4 hg4 hB4 hown4 ⊢;clear hW4 hf hvx hcv hv3;have Hsz:=Lib.hid (And.intro hga3 hs4);have hrow : rowAt W4 gv 0 3 = some (valVC ⟨2,0,.slice A n cap⟩):=by unfold rowAt;rw [hv4];simp [go_sem]
  have hsto:=run_stS_at (P:=Tryz.prog) infoValV W4 ga (valVC valV0) (valVC ⟨2,0,.slice A n cap⟩) _ hg4 (by simp) (by simp) (valVC_one _ rfl);have hkf : Keep [ga] W4 (W4.setRow ga (valVC ⟨2,0,.slice A n cap⟩)):=⟨rfl,rfl,rfl,by simp [World.setRow],fun x _ hx=>setRow_other W4 ga x _ (by simpa using hx)⟩
  have Hfin:=Lib.hid (setRow_heap W4 ga _ (valVC ⟨2,0,.slice A n cap⟩) _ _ hg4);have HBf:=Lib.hid (hB4.trans (hkf.below (by have:=hB4.size;have:=Hga.out;omega) (by simp)));have HO:=Lib.hid (hown4.kept hkf (fun x hx=>by have:=hown4.at_base hx;simp;omega));clear hkf hg4 hB4 hv4 hown4;(go_wp2_with fail);refine bodyPost_ret (results_cell_row Tryz.results24 _ _ ga 25 (valVC ⟨2,0,.slice A n cap⟩) (0,0) _ rfl Hfin.out Tryz.underlying25 rfl (by rw [valVC_size];exact infoValV)) rfl ?_;exact ⟨A,cap,rfl,HO.out.mono (by have:=Hsz.out;have:=Hga.out;omega),by rw [Hga.out];exact HBf.out⟩
set_option maxRecDepth 100000 in
set_option maxHeartbeats 1000000 in
theorem vvalue_l (w : World) (g gt : Nat) (t : ByteArray) (b : Nat) (I : List Id32) (h : ViewAt w g t b I (.iface 104 (.pointer (some ⟨gt,0,none⟩)))) (ht : t.size ≤ 9223372036854775807) (hk : kindB t = 3) (n : Nat) (L : List (Array Value))
    (hl : ∀ w',Below w.heap.size w w' → Calls Tryz.prog 59 #[.pointer (some ⟨gt,0,none⟩)] w' fun e w''=>∃ A cap,e = .returned (.slice A n cap) ∧ Own w'' w'.heap.size 98 2 A n cap L ∧ Below w'.heap.size w' w'') :
    Calls Tryz.prog 24 #[.pointer (some ⟨g,0,none⟩)] w fun e w'=>∃ A cap,e = .returned (.agg (valVC ⟨3,0,.slice A n cap⟩)) ∧ Own w' w.heap.size 98 2 A n cap L ∧ Below w.heap.size w w':=by
  have hB : Below w.heap.size w (w.alloc (.cells (valVC valV0) 25)):=(Below.refl _ _).alloc (Nat.le_refl _) _;have h1:=h.below hB;have hg1 : (w.alloc (.cells (valVC valV0) 25)).heap[w.heap.size]? = some (.cells (valVC valV0) 25 (0,0)):=heap_alloc_new w _;have c2:=fun w=>kind_any t w ht;rw [hk] at c2;go_enter Tryz.func24,Tryz.ntmps24
  go_upto_region 1 with fail
  obtain ⟨ga,hga⟩ : ∃ ga,w.heap.size = ga:=⟨_,rfl⟩
  have Hga:=Lib.hid hga;rw [hga] at hg1 hB hl ⊢;obtain ⟨W,hW⟩ : ∃ W,W = w.alloc (.cells (valVC valV0) 25):=⟨_,rfl⟩
  rw [← hW] at h1 hg1 hB ⊢;clear hW hga;have hc1:=h1.cell1;(go_wp2_with fail);refine (vnone_live W g b hc1).mono ?_;rintro e w1 ⟨rfl,rfl⟩;have hc0:=h1.cell0;(go_wp2_with fail);refine (c2 _).mono ?_;rintro e w2 ⟨rfl,hb2⟩;have h2:=h1.below hb2;have hg2:=(hb2.block ga (Array.getElem?_eq_some_iff.1 hg1).1).trans hg1;have hB2 : Below ga w w2:=hB.trans (hb2.mono (by have:=hB.size;have:=Hga.out;omega));have hs2 : ga < w2.heap.size:=(Array.getElem?_eq_some_iff.1 hg2).1;clear hc0 hc1 h1 hg1 hB hb2 h c2;have hb3 : Below w2.heap.size w2 (w2.alloc (.cells (valVC ⟨3,0,.slice none 0 0⟩) 25)):=(Below.refl _ _).alloc (Nat.le_refl _) _;have h3:=h2.below hb3;have hg3:=(hb3.block ga hs2).trans hg2;have hB3 : Below ga w (w2.alloc (.cells (valVC ⟨3,0,.slice none 0 0⟩) 25)):=hB2.trans (hb3.mono (by omega));have hv3 : (w2.alloc (.cells (valVC ⟨3,0,.slice none 0 0⟩) 25)).heap[w2.heap.size]? = some (.cells (valVC ⟨3,0,.slice none 0 0⟩) 25 (0,0)):=heap_alloc_new w2 _;obtain ⟨gv,hgv⟩ : ∃ gv,w2.heap.size = gv:=⟨_,rfl⟩
  have Hgv:=Lib.hid hgv;clear h2 hg2 hB2 hb3;go_upto_region 4 with fail
  rw [hgv] at hv3 hs2;obtain ⟨W3,hW3⟩ : ∃ W3,W3 = (w2.alloc (.cells (valVC ⟨3,0,.slice none 0 0⟩) 25)):=⟨_,rfl⟩
  rw [← hW3] at h3 hg3 hB3 hv3 ⊢;clear hW3 hgv;have hc2:=h3.cell2;go_upto_region 13 with fail
  have hl3:=hl W3 hB3;(go_wp2_with fail);refine hl3.mono ?_;rintro e w4 ⟨A,cap,rfl,hown,hb4⟩;have hgv3 : gv < W3.heap.size:=(Array.getElem?_eq_some_iff.1 hv3).1;have hga3 : ga < W3.heap.size:=(Array.getElem?_eq_some_iff.1 hg3).1;have hvx:=(hb4.block gv hgv3).trans hv3;have hgx:=(hb4.block ga hga3).trans hg3;have hs4:=hb4.size;have hBx : Below ga w w4:=hB3.trans (hb4.mono (by omega));have hf : w4.frozen? ⟨gv,2,none⟩ = false:=by simp [World.frozen?,hvx]
  have hcv : w4.cell? ⟨gv,2,none⟩ = some (.slice none 0 0):=by rw [cell_of_row w4 gv 2 _ _ _ hvx];simp [go_sem]
  have hset : (valVC ⟨3,0,.slice none 0 0⟩).setIfInBounds 2 (.slice A n cap) = valVC ⟨3,0,.slice A n cap⟩:=by apply Array.ext';simp [valVC]
  have hv4 : (w4.setCell ⟨gv,2,none⟩ (.slice A n cap)).heap[gv]? = some (.cells (valVC ⟨3,0,.slice A n cap⟩) 25 (0,0)):=by rw [heap_setCell_same hvx,hset]
  have hks:=Keep.setCell w4 ⟨gv,2,none⟩ (.slice A n cap);have hg4 : (w4.setCell ⟨gv,2,none⟩ (.slice A n cap)).heap[ga]? = some (.cells (valVC valV0) 25 (0,0)):=(hks.block ga (by omega) (by simp;omega)).trans hgx;have hB4 : Below ga w (w4.setCell ⟨gv,2,none⟩ (.slice A n cap)):=hBx.trans (hks.below (by omega) (by simp;omega));have hown4:=hown.kept hks (fun x hx=>by have:=hown.at_base hx;simp;omega);clear hset hks hgx hBx h3 hc2 hown hb4 hg3 hB3 hl hl3;go_upto_region 20 with fail
  obtain ⟨W4,hW4⟩ : ∃ W4,W4 = w4.setCell ⟨gv,2,none⟩ (.slice A n cap):=⟨_,rfl⟩
  rw [← hW4] at hv4 hg4 hB4 hown4 ⊢;clear hW4 hf hvx hcv hv3;have Hsz:=Lib.hid (And.intro hga3 hs4);have hrow : rowAt W4 gv 0 3 = some (valVC ⟨3,0,.slice A n cap⟩):=by unfold rowAt;rw [hv4];simp [go_sem]
  have hsto:=run_stS_at (P:=Tryz.prog) infoValV W4 ga (valVC valV0) (valVC ⟨3,0,.slice A n cap⟩) _ hg4 (by simp) (by simp) (valVC_one _ rfl);have hkf : Keep [ga] W4 (W4.setRow ga (valVC ⟨3,0,.slice A n cap⟩)):=⟨rfl,rfl,rfl,by simp [World.setRow],fun x _ hx=>setRow_other W4 ga x _ (by simpa using hx)⟩
  have Hfin:=Lib.hid (setRow_heap W4 ga _ (valVC ⟨3,0,.slice A n cap⟩) _ _ hg4);have HBf:=Lib.hid (hB4.trans (hkf.below (by have:=hB4.size;have:=Hga.out;omega) (by simp)));have HO:=Lib.hid (hown4.kept hkf (fun x hx=>by have:=hown4.at_base hx;simp;omega));clear hkf hg4 hB4 hv4 hown4;(go_wp2_with fail);refine bodyPost_ret (results_cell_row Tryz.results24 _ _ ga 25 (valVC ⟨3,0,.slice A n cap⟩) (0,0) _ rfl Hfin.out Tryz.underlying25 rfl (by rw [valVC_size];exact infoValV)) rfl ?_;exact ⟨A,cap,rfl,HO.out.mono (by have:=Hsz.out;have:=Hga.out;omega),by rw [Hga.out];exact HBf.out⟩
set_option maxRecDepth 100000 in
set_option maxHeartbeats 1000000 in
theorem vvalue_m (w : World) (g gt : Nat) (t : ByteArray) (b : Nat) (I : List Id32) (h : ViewAt w g t b I (.iface 105 (.pointer (some ⟨gt,0,none⟩)))) (ht : t.size ≤ 9223372036854775807) (hk : kindB t = 4) (n : Nat) (L : List (Array Value))
    (hl : ∀ w',Below w.heap.size w w' → Calls Tryz.prog 60 #[.pointer (some ⟨gt,0,none⟩)] w' fun e w''=>∃ A cap,e = .returned (.slice A n cap) ∧ Own w'' w'.heap.size 98 2 A n cap L ∧ Below w'.heap.size w' w'') :
    Calls Tryz.prog 24 #[.pointer (some ⟨g,0,none⟩)] w fun e w'=>∃ A cap,e = .returned (.agg (valVC ⟨4,0,.slice A n cap⟩)) ∧ Own w' w.heap.size 98 2 A n cap L ∧ Below w.heap.size w w':=by
  have hB : Below w.heap.size w (w.alloc (.cells (valVC valV0) 25)):=(Below.refl _ _).alloc (Nat.le_refl _) _;have h1:=h.below hB;have hg1 : (w.alloc (.cells (valVC valV0) 25)).heap[w.heap.size]? = some (.cells (valVC valV0) 25 (0,0)):=heap_alloc_new w _;have c2:=fun w=>kind_any t w ht;rw [hk] at c2;go_enter Tryz.func24,Tryz.ntmps24
  go_upto_region 1 with fail
  obtain ⟨ga,hga⟩ : ∃ ga,w.heap.size = ga:=⟨_,rfl⟩
  have Hga:=Lib.hid hga;rw [hga] at hg1 hB hl ⊢;obtain ⟨W,hW⟩ : ∃ W,W = w.alloc (.cells (valVC valV0) 25):=⟨_,rfl⟩
  rw [← hW] at h1 hg1 hB ⊢;clear hW hga;have hc1:=h1.cell1;(go_wp2_with fail);refine (vnone_live W g b hc1).mono ?_;rintro e w1 ⟨rfl,rfl⟩;have hc0:=h1.cell0;(go_wp2_with fail);refine (c2 _).mono ?_;rintro e w2 ⟨rfl,hb2⟩;have h2:=h1.below hb2;have hg2:=(hb2.block ga (Array.getElem?_eq_some_iff.1 hg1).1).trans hg1;have hB2 : Below ga w w2:=hB.trans (hb2.mono (by have:=hB.size;have:=Hga.out;omega));have hs2 : ga < w2.heap.size:=(Array.getElem?_eq_some_iff.1 hg2).1;clear hc0 hc1 h1 hg1 hB hb2 h c2;have hb3 : Below w2.heap.size w2 (w2.alloc (.cells (valVC ⟨4,0,.slice none 0 0⟩) 25)):=(Below.refl _ _).alloc (Nat.le_refl _) _;have h3:=h2.below hb3;have hg3:=(hb3.block ga hs2).trans hg2;have hB3 : Below ga w (w2.alloc (.cells (valVC ⟨4,0,.slice none 0 0⟩) 25)):=hB2.trans (hb3.mono (by omega));have hv3 : (w2.alloc (.cells (valVC ⟨4,0,.slice none 0 0⟩) 25)).heap[w2.heap.size]? = some (.cells (valVC ⟨4,0,.slice none 0 0⟩) 25 (0,0)):=heap_alloc_new w2 _;obtain ⟨gv,hgv⟩ : ∃ gv,w2.heap.size = gv:=⟨_,rfl⟩
  have Hgv:=Lib.hid hgv;clear h2 hg2 hB2 hb3;go_upto_region 4 with fail
  rw [hgv] at hv3 hs2;obtain ⟨W3,hW3⟩ : ∃ W3,W3 = (w2.alloc (.cells (valVC ⟨4,0,.slice none 0 0⟩) 25)):=⟨_,rfl⟩
  rw [← hW3] at h3 hg3 hB3 hv3 ⊢;clear hW3 hgv;have hc2:=h3.cell2;go_upto_region 16 with fail
  have hl3:=hl W3 hB3;(go_wp2_with fail);refine hl3.mono ?_;rintro e w4 ⟨A,cap,rfl,hown,hb4⟩;have hgv3 : gv < W3.heap.size:=(Array.getElem?_eq_some_iff.1 hv3).1;have hga3 : ga < W3.heap.size:=(Array.getElem?_eq_some_iff.1 hg3).1;have hvx:=(hb4.block gv hgv3).trans hv3;have hgx:=(hb4.block ga hga3).trans hg3;have hs4:=hb4.size;have hBx : Below ga w w4:=hB3.trans (hb4.mono (by omega));have hf : w4.frozen? ⟨gv,2,none⟩ = false:=by simp [World.frozen?,hvx]
  have hcv : w4.cell? ⟨gv,2,none⟩ = some (.slice none 0 0):=by rw [cell_of_row w4 gv 2 _ _ _ hvx];simp [go_sem]
  have hset : (valVC ⟨4,0,.slice none 0 0⟩).setIfInBounds 2 (.slice A n cap) = valVC ⟨4,0,.slice A n cap⟩:=by apply Array.ext';simp [valVC]
  have hv4 : (w4.setCell ⟨gv,2,none⟩ (.slice A n cap)).heap[gv]? = some (.cells (valVC ⟨4,0,.slice A n cap⟩) 25 (0,0)):=by rw [heap_setCell_same hvx,hset]
  have hks:=Keep.setCell w4 ⟨gv,2,none⟩ (.slice A n cap);have hg4 : (w4.setCell ⟨gv,2,none⟩ (.slice A n cap)).heap[ga]? = some (.cells (valVC valV0) 25 (0,0)):=(hks.block ga (by omega) (by simp;omega)).trans hgx;have hB4 : Below ga w (w4.setCell ⟨gv,2,none⟩ (.slice A n cap)):=hBx.trans (hks.below (by omega) (by simp;omega));have hown4:=hown.kept hks (fun x hx=>by have:=hown.at_base hx;simp;omega);clear hset hks hgx hBx h3 hc2 hown hb4 hg3 hB3 hl hl3;go_upto_region 20 with fail
  obtain ⟨W4,hW4⟩ : ∃ W4,W4 = w4.setCell ⟨gv,2,none⟩ (.slice A n cap):=⟨_,rfl⟩
  rw [← hW4] at hv4 hg4 hB4 hown4 ⊢;clear hW4 hf hvx hcv hv3;have Hsz:=Lib.hid (And.intro hga3 hs4);have hrow : rowAt W4 gv 0 3 = some (valVC ⟨4,0,.slice A n cap⟩):=by unfold rowAt;rw [hv4];simp [go_sem]
  have hsto:=run_stS_at (P:=Tryz.prog) infoValV W4 ga (valVC valV0) (valVC ⟨4,0,.slice A n cap⟩) _ hg4 (by simp) (by simp) (valVC_one _ rfl);have hkf : Keep [ga] W4 (W4.setRow ga (valVC ⟨4,0,.slice A n cap⟩)):=⟨rfl,rfl,rfl,by simp [World.setRow],fun x _ hx=>setRow_other W4 ga x _ (by simpa using hx)⟩
  have Hfin:=Lib.hid (setRow_heap W4 ga _ (valVC ⟨4,0,.slice A n cap⟩) _ _ hg4);have HBf:=Lib.hid (hB4.trans (hkf.below (by have:=hB4.size;have:=Hga.out;omega) (by simp)));have HO:=Lib.hid (hown4.kept hkf (fun x hx=>by have:=hown4.at_base hx;simp;omega));clear hkf hg4 hB4 hv4 hown4;(go_wp2_with fail);refine bodyPost_ret (results_cell_row Tryz.results24 _ _ ga 25 (valVC ⟨4,0,.slice A n cap⟩) (0,0) _ rfl Hfin.out Tryz.underlying25 rfl (by rw [valVC_size];exact infoValV)) rfl ?_;exact ⟨A,cap,rfl,HO.out.mono (by have:=Hsz.out;have:=Hga.out;omega),by rw [Hga.out];exact HBf.out⟩
set_option maxRecDepth 100000 in
set_option maxHeartbeats 1000000 in
theorem vvalue_s (w : World) (g gt : Nat) (t : ByteArray) (b : Nat) (I : List Id32) (h : ViewAt w g t b I (.iface 106 (.pointer (some ⟨gt,0,none⟩)))) (ht : t.size ≤ 9223372036854775807) (hk : kindB t = 5) (n : Nat) (L : List (Array Value))
    (hl : ∀ w',Below w.heap.size w w' → Calls Tryz.prog 61 #[.pointer (some ⟨gt,0,none⟩)] w' fun e w''=>∃ A cap,e = .returned (.slice A n cap) ∧ Own w'' w'.heap.size 98 2 A n cap L ∧ Below w'.heap.size w' w'') :
    Calls Tryz.prog 24 #[.pointer (some ⟨g,0,none⟩)] w fun e w'=>∃ A cap,e = .returned (.agg (valVC ⟨5,0,.slice A n cap⟩)) ∧ Own w' w.heap.size 98 2 A n cap L ∧ Below w.heap.size w w':=by
  have hB : Below w.heap.size w (w.alloc (.cells (valVC valV0) 25)):=(Below.refl _ _).alloc (Nat.le_refl _) _;have h1:=h.below hB;have hg1 : (w.alloc (.cells (valVC valV0) 25)).heap[w.heap.size]? = some (.cells (valVC valV0) 25 (0,0)):=heap_alloc_new w _;have c2:=fun w=>kind_any t w ht;rw [hk] at c2;go_enter Tryz.func24,Tryz.ntmps24
  go_upto_region 1 with fail
  obtain ⟨ga,hga⟩ : ∃ ga,w.heap.size = ga:=⟨_,rfl⟩
  have Hga:=Lib.hid hga;rw [hga] at hg1 hB hl ⊢;obtain ⟨W,hW⟩ : ∃ W,W = w.alloc (.cells (valVC valV0) 25):=⟨_,rfl⟩
  rw [← hW] at h1 hg1 hB ⊢;clear hW hga;have hc1:=h1.cell1;(go_wp2_with fail);refine (vnone_live W g b hc1).mono ?_;rintro e w1 ⟨rfl,rfl⟩;have hc0:=h1.cell0;(go_wp2_with fail);refine (c2 _).mono ?_;rintro e w2 ⟨rfl,hb2⟩;have h2:=h1.below hb2;have hg2:=(hb2.block ga (Array.getElem?_eq_some_iff.1 hg1).1).trans hg1;have hB2 : Below ga w w2:=hB.trans (hb2.mono (by have:=hB.size;have:=Hga.out;omega));have hs2 : ga < w2.heap.size:=(Array.getElem?_eq_some_iff.1 hg2).1;clear hc0 hc1 h1 hg1 hB hb2 h c2;have hb3 : Below w2.heap.size w2 (w2.alloc (.cells (valVC ⟨5,0,.slice none 0 0⟩) 25)):=(Below.refl _ _).alloc (Nat.le_refl _) _;have h3:=h2.below hb3;have hg3:=(hb3.block ga hs2).trans hg2;have hB3 : Below ga w (w2.alloc (.cells (valVC ⟨5,0,.slice none 0 0⟩) 25)):=hB2.trans (hb3.mono (by omega));have hv3 : (w2.alloc (.cells (valVC ⟨5,0,.slice none 0 0⟩) 25)).heap[w2.heap.size]? = some (.cells (valVC ⟨5,0,.slice none 0 0⟩) 25 (0,0)):=heap_alloc_new w2 _;obtain ⟨gv,hgv⟩ : ∃ gv,w2.heap.size = gv:=⟨_,rfl⟩
  have Hgv:=Lib.hid hgv;clear h2 hg2 hB2 hb3;go_upto_region 4 with fail
  rw [hgv] at hv3 hs2;obtain ⟨W3,hW3⟩ : ∃ W3,W3 = (w2.alloc (.cells (valVC ⟨5,0,.slice none 0 0⟩) 25)):=⟨_,rfl⟩
  rw [← hW3] at h3 hg3 hB3 hv3 ⊢;clear hW3 hgv;have hc2:=h3.cell2;go_upto_region 19 with fail
  have hl3:=hl W3 hB3;(go_wp2_with fail);refine hl3.mono ?_;rintro e w4 ⟨A,cap,rfl,hown,hb4⟩;have hgv3 : gv < W3.heap.size:=(Array.getElem?_eq_some_iff.1 hv3).1;have hga3 : ga < W3.heap.size:=(Array.getElem?_eq_some_iff.1 hg3).1;have hvx:=(hb4.block gv hgv3).trans hv3;have hgx:=(hb4.block ga hga3).trans hg3;have hs4:=hb4.size;have hBx : Below ga w w4:=hB3.trans (hb4.mono (by omega));have hf : w4.frozen? ⟨gv,2,none⟩ = false:=by simp [World.frozen?,hvx]
  have hcv : w4.cell? ⟨gv,2,none⟩ = some (.slice none 0 0):=by rw [cell_of_row w4 gv 2 _ _ _ hvx];simp [go_sem]
  have hset : (valVC ⟨5,0,.slice none 0 0⟩).setIfInBounds 2 (.slice A n cap) = valVC ⟨5,0,.slice A n cap⟩:=by apply Array.ext';simp [valVC]
  have hv4 : (w4.setCell ⟨gv,2,none⟩ (.slice A n cap)).heap[gv]? = some (.cells (valVC ⟨5,0,.slice A n cap⟩) 25 (0,0)):=by rw [heap_setCell_same hvx,hset]
  have hks:=Keep.setCell w4 ⟨gv,2,none⟩ (.slice A n cap);have hg4 : (w4.setCell ⟨gv,2,none⟩ (.slice A n cap)).heap[ga]? = some (.cells (valVC valV0) 25 (0,0)):=(hks.block ga (by omega) (by simp;omega)).trans hgx;have hB4 : Below ga w (w4.setCell ⟨gv,2,none⟩ (.slice A n cap)):=hBx.trans (hks.below (by omega) (by simp;omega));have hown4:=hown.kept hks (fun x hx=>by have:=hown.at_base hx;simp;omega);clear hset hks hgx hBx h3 hc2 hown hb4 hg3 hB3 hl hl3;go_upto_region 20 with fail
  obtain ⟨W4,hW4⟩ : ∃ W4,W4 = w4.setCell ⟨gv,2,none⟩ (.slice A n cap):=⟨_,rfl⟩
  rw [← hW4] at hv4 hg4 hB4 hown4 ⊢;clear hW4 hf hvx hcv hv3;have Hsz:=Lib.hid (And.intro hga3 hs4);have hrow : rowAt W4 gv 0 3 = some (valVC ⟨5,0,.slice A n cap⟩):=by unfold rowAt;rw [hv4];simp [go_sem]
  have hsto:=run_stS_at (P:=Tryz.prog) infoValV W4 ga (valVC valV0) (valVC ⟨5,0,.slice A n cap⟩) _ hg4 (by simp) (by simp) (valVC_one _ rfl);have hkf : Keep [ga] W4 (W4.setRow ga (valVC ⟨5,0,.slice A n cap⟩)):=⟨rfl,rfl,rfl,by simp [World.setRow],fun x _ hx=>setRow_other W4 ga x _ (by simpa using hx)⟩
  have Hfin:=Lib.hid (setRow_heap W4 ga _ (valVC ⟨5,0,.slice A n cap⟩) _ _ hg4);have HBf:=Lib.hid (hB4.trans (hkf.below (by have:=hB4.size;have:=Hga.out;omega) (by simp)));have HO:=Lib.hid (hown4.kept hkf (fun x hx=>by have:=hown4.at_base hx;simp;omega));clear hkf hg4 hB4 hv4 hown4;(go_wp2_with fail);refine bodyPost_ret (results_cell_row Tryz.results24 _ _ ga 25 (valVC ⟨5,0,.slice A n cap⟩) (0,0) _ rfl Hfin.out Tryz.underlying25 rfl (by rw [valVC_size];exact infoValV)) rfl ?_;exact ⟨A,cap,rfl,HO.out.mono (by have:=Hsz.out;have:=Hga.out;omega),by rw [Hga.out];exact HBf.out⟩
end
section
open Go.RowKit Go.Sort Go.Shelf
section
variable {α : Type} [Inhabited α] {enc : α → Array Value} {k : Nat}
theorem own_holds {w : World} {B : Nat} {E : TypeId} {g n cap : Nat} {L : List α} (hk : 0 < k) (hs : ∀ x,(enc x).size = k) (h : Own w B E k (some ⟨g,0,none⟩) n cap (L.map enc)) :
    HoldsK (fun x=>(enc x).toList) k w g 0 L.toArray:=by
  intro j hj;have hj' : j < L.length * k:=by simpa using hj
  have hi : j / k < L.length:=Nat.div_lt_of_lt_mul (by rw [Nat.mul_comm];exact hj');have hr : j % k < k:=Nat.mod_lt _ hk;have he : j / k * k + j % k = j:=by rw [Nat.mul_comm];exact Nat.div_add_mod j k
  have hl : L.length = n:=by simpa using h.len
  obtain ⟨g',o,e,hrow⟩:=h.slr.at_ (i:=j / k) (by omega);injection e with e
  injection e with e1 e2
  subst e1;subst e2;rw [List.getElem_map] at hrow;have hc:=rowAt_cell hrow hr;rw [Nat.zero_add,he] at hc;refine ⟨?_,?_⟩
  · rw [Nat.zero_add,hc,get_flatK _ _ _ j (by simpa using hj'),getElem!_pos L.toArray (j / k) (by simpa using hi)];have hsz : j % k < (enc L[j / k]).toList.length:=by simpa [hs] using hr
    rw [getElem!_pos _ (j % k) (by simpa using hsz)];simp [hs,hr]
  · obtain ⟨⟨_,h2⟩,_,_⟩:=h;rcases h2 with ⟨h2,_⟩ | ⟨g',c,cur,hv,hb,hg,_⟩
    · cases h2
    · injection hv with hA
      injection hA with hA
      injection hA with hA
      subst hA;simp [World.frozen?,hg]
theorem own_putF {w : World} {B : Nat} {E : TypeId} {g n n' cap : Nat} {L L' : List (Array Value)} (h : Own w B E k (some ⟨g,0,none⟩) n cap L) (hn' : n' ≤ n) (m : Nat) (F : Array Value) (hF : F.size = n * k) (hL : F.toList.take (n' * k) = L'.flatMap Array.toList) (hl : L'.length = n') (hs : ∀ c ∈ L',c.size = k) (os : Array Obj) :
    Own (grow (putRow id (Sort.ahead w m) g 0 F) os) B E k (some ⟨g,0,none⟩) n' cap L' ∧ Keep [g] w (grow (putRow id (Sort.ahead w m) g 0 F) os):=by
  obtain ⟨⟨_,h2⟩,_,_⟩:=h;rcases h2 with ⟨h2,_⟩ | ⟨g',c,cur,hv,hb,hg,hnc,hcm,hcs,htake⟩
  · cases h2
  injection hv with hA _ hc
  injection hA with hA
  injection hA with hA
  subst hA;subst hc;have hgl : g < w.heap.size:=(Array.getElem?_eq_some_iff.1 hg).1;have hheap : (grow (putRow id (Sort.ahead w m) g 0 F) os).heap[g]? = some (.cells (putCells id 0 F cur) E (0,0)):=by
    rw [heap_grow_old _ _ (by simpa [putRow,mapBlock,Sort.ahead] using hgl)];show (w.heap.modify g _)[g]? = _;rw [Array.getElem?_modify,if_pos rfl,hg];rfl
  have hle : n * k ≤ cur.size:=by rw [hcs];exact Nat.mul_le_mul_right k hnc
  have hle' : n' * k ≤ n * k:=Nat.mul_le_mul_right k hn';refine ⟨⟨⟨?_,.inr ⟨g,cap,_,rfl,hb,hheap,by omega,hcm,?_,?_⟩⟩,hl,hs⟩,?_⟩
  · rw [flat_len _ k hs,hl]
  · simp [putCells,hcs]
  · rw [← hL];apply List.ext_getElem?;intro j;by_cases hj : j < n' * k
    · rw [List.getElem?_take,List.getElem?_take,if_pos hj,if_pos hj,Array.getElem?_toList,Array.getElem?_toList];unfold putCells;rw [Array.getElem?_mapIdx,Array.getElem?_eq_getElem (show j < cur.size by omega),Array.getElem?_eq_getElem (show j < F.size by omega)];simp only [Option.map_some,Nat.zero_le,true_and,Nat.zero_add,Nat.sub_zero,hF];rw [if_pos (by omega),getElem!_pos _ j (by omega)];rfl
    · rw [List.getElem?_eq_none (by simp;omega),List.getElem?_eq_none (by simp;omega)]
  · refine ⟨rfl,rfl,rfl,?_,fun x hx hn=>?_⟩
    · rw [size_grow];simp [putRow,mapBlock,Sort.ahead]
    · rw [heap_grow_old _ _ (by simpa [putRow,mapBlock,Sort.ahead] using hx)];show (w.heap.modify g _)[x]? = _;rw [Array.getElem?_modify,if_neg (by simpa [eq_comm] using hn)]
theorem own_sorted {w : World} {B : Nat} {E : TypeId} {g n cap : Nat} {L : List α} (hk : 0 < k) (hs : ∀ x,(enc x).size = k) (h : Own w B E k (some ⟨g,0,none⟩) n cap (L.map enc)) (m : Nat) (L' : List α) (hl : L'.length = L.length) (os : Array Obj) :
    Own (sortWorldK (fun x=>(enc x).toList) k w g 0 m L'.toArray os) B E k (some ⟨g,0,none⟩) n cap (L'.map enc) ∧ Keep [g] w (sortWorldK (fun x=>(enc x).toList) k w g 0 m L'.toArray os):=by
  have hn : L.length = n:=by simpa using h.len
  have hsz : ∀ c ∈ L'.map enc,c.size = k:=fun c hc=>(by obtain ⟨x,_,rfl⟩:=List.mem_map.1 hc;exact hs x);have hflat : (L'.map enc).flatMap Array.toList = (flatK (fun x=>(enc x).toList) k L'.toArray).toList:=by
    apply List.ext_getElem?;intro j;have hfl:=flat_len (L'.map enc) k hsz;rw [List.length_map] at hfl;by_cases hj : j < L'.length * k
    · have hi : j / k < L'.length:=Nat.div_lt_of_lt_mul (by rw [Nat.mul_comm];exact hj);have hr : j % k < k:=Nat.mod_lt _ hk;have he : j / k * k + j % k = j:=by rw [Nat.mul_comm];exact Nat.div_add_mod j k
      have e1:=flat_get (L'.map enc) k hsz (j / k) (j % k) (by simpa using hi) hr;rw [he] at e1;rw [e1];have hsz : j < (flatK (fun x=>(enc x).toList) k L'.toArray).size:=by simpa using hj
      rw [Array.getElem?_toList,Array.getElem?_eq_getElem hsz,← getElem!_pos _ j hsz,get_flatK _ _ _ j (by simpa using hj),getElem!_pos L'.toArray (j / k) (by simpa using hi)];have hsz2 : j % k < (enc L'[j / k]).toList.length:=by simpa [hs] using hr
      rw [List.getElem_map,List.getElem_toArray,getElem!_pos _ (j % k) hsz2];simp [hs,hr]
    · rw [List.getElem?_eq_none (by omega),List.getElem?_eq_none (by simpa using hj)]
  have hF : (flatK (fun x=>(enc x).toList) k L'.toArray).size = n * k:=by simp [hl,hn]
  exact own_putF h (Nat.le_refl _) m (flatK (fun x=>(enc x).toList) k L'.toArray) hF (by rw [hflat,List.take_of_length_le (by simpa using Nat.le_of_eq hF)]) (by simp [hl,hn]) hsz os
end
section
variable {α : Type} [Inhabited α] {f : α → Value}
theorem own_holds1 {w : World} {B : Nat} {E : TypeId} {g n cap : Nat} {L : List α} (h : Own w B E 1 (some ⟨g,0,none⟩) n cap (L.map fun x=>#[f x])) : Holds f w g 0 L.toArray:=by
  intro j hj;have hj' : j < L.length:=by simpa using hj
  have hl : L.length = n:=by simpa using h.len
  obtain ⟨g',o,e,hrow⟩:=h.slr.at_ (i:=j) (by omega);injection e with e
  injection e with e1 e2
  subst e1;subst e2;rw [List.getElem_map] at hrow;have hc:=rowAt_cell hrow (j:=0) (by omega);refine ⟨?_,?_⟩
  · rw [getElem!_pos L.toArray j (by simpa using hj')];simpa using hc
  · obtain ⟨⟨_,h2⟩,_,_⟩:=h;rcases h2 with ⟨h2,_⟩ | ⟨g',c,cur,hv,hb,hg,_⟩
    · cases h2
    · injection hv with hA
      injection hA with hA
      injection hA with hA
      subst hA;simp [World.frozen?,hg]
theorem putRow_id {w : World} {g : Nat} (d : Array α) : putRow f w g 0 d = putRow id w g 0 (d.map f):=by
  unfold putRow;refine mapBlock_congr w g _ _ fun c e fr _=>?_;unfold putCells;apply Array.ext
  · simp
  · intro i h1 h2;simp only [Array.getElem_mapIdx,Array.size_map];split
    · rename_i h
      have hi : i - 0 < d.size:=by omega
      rw [getElem!_pos d (i - 0) hi,getElem!_pos (d.map f) (i - 0) (by simpa using hi)]
      simp
    · rfl
theorem own_put1 {w : World} {B : Nat} {E : TypeId} {g n n' cap : Nat} {L : List (Array Value)} (h : Own w B E 1 (some ⟨g,0,none⟩) n cap L) (hn' : n' ≤ n) (m : Nat) (D L' : List α) (hD : D.length = n) (hL : D.take n' = L') (os : Array Obj) :
    Own (grow (putRow f (Sort.ahead w m) g 0 D.toArray) os) B E 1 (some ⟨g,0,none⟩) n' cap (L'.map fun x=>#[f x]) ∧ Keep [g] w (grow (putRow f (Sort.ahead w m) g 0 D.toArray) os):=by
  rw [putRow_id];refine own_putF h hn' m _ (by simp [hD]) ?_ (by rw [List.length_map,← hL,List.length_take];omega) (fun c hc=>by obtain ⟨x,_,rfl⟩:=List.mem_map.1 hc;rfl) os;rw [← hL,Nat.mul_one];have e : ∀ l : List α,(l.map fun x=>#[f x]).flatMap Array.toList = l.map f:=fun l=>(by induction l <;> simp_all);rw [e];simp [List.map_take]
end
end
section
open Go.RowKit Go.Sort Go.Shelf
instance : Inhabited BRow:=⟨bRow0⟩
@[go_sem ↓] theorem bsBRow_rw (n : Nat) (parts : Array (Nat × Value)) : Instr.buildSlice 304 n parts = bsS 304 n parts:=rfl
def tagsOf (L : List BRow) (v : ByteArray) : List Id32:=(L.filter fun x=>decide (x.val = v)).map (·.tag)
end
section
open Go.RowKit Go.Sort
section
variable {α : Type} [Inhabited α] [DecidableEq α] {c : α → α → Int}
theorem compact_upTo (T : TotC c) (d : Array α) (hs : ∀ i j,i < j → j < d.size → ¬ c d[j]! d[i]! < 0) : ∀ m,m ≤ d.size →
    Ris c (Lib.compactUpTo d m) ∧ (∀ z,z ∈ Lib.compactUpTo d m ↔ ∃ j,j < m ∧ d[j]! = z) ∧ (0 < m → ∀ y ∈ Lib.compactUpTo d m,¬ c d[m - 1]! y < 0)
  | 0,_=>⟨by simp [Lib.compactUpTo,Ris],by simp [Lib.compactUpTo],by simp⟩
  | m + 1,hm=>by
    obtain ⟨h1,h2,h3⟩:=compact_upTo T d hs m (by omega);rw [Lib.compactUpTo_succ];by_cases hk : Lib.keeps d m = true
    · rw [if_pos hk];have hlt : ∀ y ∈ Lib.compactUpTo d m,c y d[m]! < 0:=by
        intro y hy;have hm0 : 0 < m:=by
          rcases Nat.eq_zero_or_pos m with h | h
          · subst h;simp [Lib.compactUpTo] at hy
          · exact h
        have hne : d[m]! ≠ d[m - 1]!:=by
          have : m = 0 ∨ d[m]! ≠ d[m - 1]!:=by simpa [Lib.keeps] using hk
          rcases this with h | h
          · omega
          · exact h
        exact T.le_trans (h3 hm0 y hy) (T.flip (hs (m - 1) m (by omega) (by omega)) hne)
      refine ⟨?_,fun z=>?_,fun _ y hy=>?_⟩
      · refine List.pairwise_append.2 ⟨h1,by simp,fun y hy z hz=>?_⟩;simp at hz;subst hz;exact hlt y hy
      · rw [List.mem_append,h2,List.mem_singleton];constructor
        · rintro (⟨j,hj,e⟩ | e)
          · exact ⟨j,by omega,e⟩
          · exact ⟨m,by omega,e.symm⟩
        · rintro ⟨j,hj,e⟩;by_cases hjm : j = m
          · subst hjm;exact .inr e.symm
          · exact .inl ⟨j,by omega,e⟩
      · rw [Nat.add_sub_cancel];rcases List.mem_append.1 hy with hy | hy
        · exact T.asym (hlt y hy)
        · simp at hy;subst hy;exact T.irr _
    · rw [if_neg hk,List.append_nil];have hm0 : ¬ m = 0:=fun e=>hk (by simp [Lib.keeps,e]);have heq : d[m]! = d[m - 1]!:=Classical.byContradiction fun e=>hk (Lib.keeps_pos e);refine ⟨h1,fun z=>?_,fun _ y hy=>?_⟩
      · rw [h2];constructor
        · rintro ⟨j,hj,e⟩;exact ⟨j,by omega,e⟩
        · rintro ⟨j,hj,e⟩;by_cases hjm : j = m
          · subst hjm;exact ⟨j - 1,by omega,by rw [← heq];exact e⟩
          · exact ⟨j,by omega,e⟩
      · rw [Nat.add_sub_cancel,heq];exact h3 (by omega) y hy
theorem compact_sorted (T : TotC c) (l : List α) (hs : l.Pairwise (fun x y=>¬ c y x < 0)) : Lib.compact l = sortC c l:=by
  have h:=compact_upTo T l.toArray (fun i j hij hj=>by
    have hj' : j < l.length:=by simpa using hj
    rw [getElem!_pos l.toArray i (by simp;omega),getElem!_pos l.toArray j hj];exact List.pairwise_iff_getElem.1 hs i j (by omega) hj' hij) l.length (by simp)
  refine ris_ext T h.1 (ris_sortC T l) fun z=>?_;rw [mem_sortC T];refine (h.2.1 z).trans ⟨?_,?_⟩
  · rintro ⟨j,hj,e⟩;rw [getElem!_pos l.toArray j (by simpa using hj)] at e;rw [← e];exact List.getElem_mem hj
  · intro hz;obtain ⟨j,hj,e⟩:=List.mem_iff_getElem.1 hz;exact ⟨j,hj,by rw [getElem!_pos l.toArray j (by simpa using hj)];simpa using e⟩
end
end
section
open Go.RowKit Go.Sort Go.Shelf
theorem einfoStr : ElemInfo Tryz.prog 166 9 1 16 :=
  .of (z:=.string ⟨#[]⟩) Tryz.underlying166 (by kernel_rfl) (by kernel_rfl) (by kernel_rfl) rfl (by omega)
def strR (s : ByteArray) : Array Value:=#[.string s]
theorem strR_one (s : ByteArray) : ∀ u ∈ (strR s).toList,u.oneCell' = true:=by simp [strR,Value.oneCell']
def bl (s : ByteArray) : List UInt8:=s.data.toList
theorem bl_toList (s : ByteArray) : s.toList = bl s:=ByteArray.toList_eq s
theorem encStr_bl (s : ByteArray) : encStr (bl s) = .string s:=by cases s;rfl
theorem leB_cmpS (x y : List UInt8) : decide (x ≤ y) = true ↔ ¬ cmpB y x < 0:=by
  have h:=bytesLess_eq y x;rw [bytesLess_cmp] at h;have h2 : (cmpB y x < 0) ↔ y < x:=by simpa using h
  rw [decide_eq_true_eq,h2];exact Iff.rfl
theorem totB : TotC cmpB:=⟨cmpB_zero,cmpB_anti,cmpB_trans⟩
theorem mergeSort_le (l : List (List UInt8)) : (l.mergeSort fun x y=>decide (x ≤ y)).Pairwise (fun x y=>¬ cmpB y x < 0):=by
  have htr : ∀ a b d : List UInt8,decide (a ≤ b) = true → decide (b ≤ d) = true → decide (a ≤ d) = true:=fun a b d h1 h2=>by
    rw [leB_cmpS] at *;intro h3;exact h2 (totB.le_trans (a:=d) (b:=a) (d:=b) (totB.asym h3) (by
      by_cases e : a = b
      · subst e;exact absurd h3 h2
      · exact totB.flip h1 (fun e'=>e e'.symm)))
  have htot : ∀ a b : List UInt8,(decide (a ≤ b) || decide (b ≤ a)) = true:=fun a b=>by
    by_cases h : cmpB b a < 0
    · have:=(leB_cmpS b a).2 (totB.asym h);simp only [this,Bool.or_true]
    · have:=(leB_cmpS a b).2 h;simp only [this,Bool.true_or]
  exact List.Pairwise.imp (fun {a b} h=>(leB_cmpS a b).1 h) (List.pairwise_mergeSort htr htot l)
theorem compact_texts (l : List ByteArray) : Lib.compact ((l.map bl).mergeSort fun x y=>decide (x ≤ y)) = (sortC cmpS l).map bl:=by
  rw [compact_sorted totB _ (mergeSort_le _)];have hR : Ris cmpB ((sortC cmpS l).map bl):=by
    refine List.pairwise_map.2 (List.Pairwise.imp (fun {a b} h=>?_) (ris_sortC totS l));have h' : cmpB a.toList b.toList < 0:=h
    rwa [bl_toList,bl_toList] at h'
  refine ris_ext totB (ris_sortC totB _) hR fun z=>?_;rw [mem_sortC totB,(List.mergeSort_perm _ _).mem_iff];simp only [List.mem_map,mem_sortC totS]
def listB (L : List BRow) : List ByteArray:=sortC cmpS (L.map (·.val))
def pairV (s : ByteArray) : Pair:=⟨s,⟨#[]⟩⟩
theorem listB_len (L : List BRow) : (listB L).length ≤ L.length:=by have:=sortC_length (c:=cmpS) (L.map (·.val));simpa [listB] using this
end
section
open Go.RowKit Go.Sort Go.Shelf Go.Lib
@[go_sem ↓] theorem bsStr_rw (n : Nat) (parts : Array (Nat × Value)) : Instr.buildSlice 166 n parts = bsS 166 n parts:=rfl
@[go_sem] theorem bsStr_run (w : World) (x : ByteArray) : (bsS 166 1 #[(0,.string x)]).run Tryz.prog w = .ok (.slice (some ⟨w.heap.size,0,none⟩) 1 1) (w.alloc (.cells (strR x) 9)):=by kernel_rfl
def zR (z : List UInt8) : Array Value:=#[encStr z]
theorem strR_zR (S : List ByteArray) : S.map strR = (S.map bl).map zR:=by
  rw [List.map_map];exact List.map_congr_left fun s _=>by simp [strR,zR,encStr_bl]
theorem sort_strs (w : World) (B : Nat) (A : Option Addr) (n cap : Nat) (zs : List (List UInt8)) (hown : Own w B 9 1 A n cap (zs.map zR)) (hn : n ≤ 1000000) :
    Calls Tryz.prog 123 #[.slice A n cap] w fun e w'=>e = .returned (.tuple #[]) ∧ Own w' B 9 1 A n cap ((zs.mergeSort fun x y=>decide (x ≤ y)).map zR) ∧ Keep (blk A) w w':=by
  have hl : zs.length = n:=by simpa using hown.len
  rcases hown.addr with rfl | ⟨g,rfl⟩
  · have hn0 : n = 0:=(hown.cap_le.2 rfl).1;subst hn0;have hS : zs = []:=List.eq_nil_of_length_eq_zero hl;subst hS;refine (AnyM.slices_Sort_string_none Tryz.laySortStr none cap w).mono ?_;rintro e w' ⟨rfl,rfl⟩;exact ⟨rfl,by simpa using hown,Keep.refl _ _⟩
  · subst hl;have hgl : g < w.heap.size:=(hown.at_base (x:=g) (by simp [blk])).2;refine (AnyM.slices_Sort_string Tryz.laySortStr g 0 cap zs w (own_holds1 (f:=encStr) hown) hgl (by omega)).mono ?_;rintro e w' ⟨rfl,m,os,rfl⟩;obtain ⟨h1,h2⟩:=own_put1 (f:=encStr) hown (Nat.le_refl _) m (zs.mergeSort fun x y=>decide (x ≤ y)) (zs.mergeSort fun x y=>decide (x ≤ y)) (List.mergeSort_perm _ _).length_eq (List.take_of_length_le (Nat.le_of_eq (List.mergeSort_perm _ _).length_eq)) os;exact ⟨rfl,h1,h2.mono (by simp [blk])⟩
theorem compact_len (zs : List (List UInt8)) : (Lib.compact zs).length ≤ zs.length:=by
  unfold Lib.compact Lib.compactUpTo;rw [List.length_map];exact Nat.le_trans (List.length_filter_le _ _) (by simp)
theorem comp_strs (w : World) (B : Nat) (A : Option Addr) (n cap : Nat) (zs : List (List UInt8)) (hown : Own w B 9 1 A n cap (zs.map zR)) (hn : n ≤ 1000000) :
    Calls Tryz.prog 124 #[.slice A n cap] w fun e w'=>e = .returned (.slice A (Lib.compact zs).length cap) ∧ Own w' B 9 1 A (Lib.compact zs).length cap ((Lib.compact zs).map zR) ∧ Keep (blk A) w w':=by
  have hl : zs.length = n:=by simpa using hown.len
  rcases hown.addr with rfl | ⟨g,rfl⟩
  · have hn0 : n = 0:=(hown.cap_le.2 rfl).1;subst hn0;have hS : zs = []:=List.eq_nil_of_length_eq_zero hl;subst hS;refine (Any.slices_Compact_string_empty Tryz.layCompStr none cap w).mono ?_;rintro e w' ⟨rfl,rfl⟩;exact ⟨rfl,hown,Keep.refl _ _⟩
  · subst hl;refine (Any.slices_Compact_string Tryz.layCompStr g 0 cap zs w (own_holds1 (f:=encStr) hown) (by omega) (hown.cap_le.1)).mono ?_;rintro e w' ⟨rfl,m,rfl⟩;have hcl:=compact_len zs;obtain ⟨h1,h2⟩:=own_put1 (f:=encStr) hown hcl m (Lib.compact zs ++ List.replicate (zs.length - (Lib.compact zs).length) []) (Lib.compact zs) (by simp;omega) (by simp) #[];rw [grow_empty] at h1 h2;exact ⟨rfl,h1,h2.mono (by simp [blk])⟩
abbrev OwnL (w : World) (B : Nat) (A : Option Addr) (n cap : Nat) (L : List ByteArray) : Prop:=Own w B 98 2 A n cap (L.map fun s=>pairC (pairV s))
set_option maxRecDepth 100000 in
set_option maxHeartbeats 2000000 in
theorem blist (w : World) (g bl_ bg : Nat) (L G : List BRow) (h : BagAt w g bl_ bg L G) (hn : L.length ≤ 1000000) :
    Calls Tryz.prog 58 #[.pointer (some ⟨g,0,none⟩)] w fun e w'=>∃ A cap,e = .returned (.slice A (listB L).length cap) ∧ OwnL w' w.heap.size A (listB L).length cap (listB L) ∧ Below w.heap.size w w':=by
  have hc:=h.cell0;have hlt:=h.lt;have hr:=h.risL;obtain ⟨w0,hrun,hR,hb0,hs0⟩:=SetAt.range (P:=Tryz.prog) (kv:=rowV) (ok:=okR) h.live Tryz.underlying167;go_enter Tryz.func58,Tryz.ntmps58
  (go_wp2_with fail);refine (bnone_live _ _ _ hc).mono ?_;rintro e w' ⟨rfl,rfl⟩;(go_wp2_with fail);clear hrun hc;go_loopw [3] (fun out wr=>∃ (S : List BRow) (A : Option Addr) (cap : Nat),out = .slice A S.length cap ∧ SetRange wr bl_ w.heap.size rowV okR L S ∧ Own wr w0.heap.size 9 1 A S.length cap ((S.map fun x=>bl x.val).map zR) ∧ Below w.heap.size w wr ∧ w0.heap.size ≤ wr.heap.size) (fun _ wr=>wr.rangeLeft bl_ w.heap.size)
  case atStart=>exact ⟨[],none,0,rfl,hR,Own.nil _ _ _ _,hb0,Nat.le_refl _⟩
  case round =>
    obtain ⟨S,A,cap,rfl,hR,hown,hb,hsz⟩:=hrel;rcases hR.next (P:=Tryz.prog) 0 with ⟨hall,hnd,hrun⟩ | ⟨x,w1,hxL,hxS,hrun,hR1,hk1,hs1,hl1,hen⟩
    · have hp : S.Perm L:=(List.perm_ext_iff_of_nodup hnd (hr.nodup totRow)).2 hall;have hSL:=hp.length_eq;have hsort:=sort_strs wr w0.heap.size A S.length cap _ hown (by omega);have Hall:=Lib.hid hall;have HSL:=Lib.hid hSL;clear hall hSL hp;(go_wp2_with fail);refine hsort.mono ?_;rintro e w2 ⟨rfl,hown2,hk2⟩;clear hrun;have hcomp:=comp_strs w2 w0.heap.size A S.length cap _ hown2 (by have:=HSL.out;omega);have hz : Lib.compact ((S.map fun x=>bl x.val).mergeSort fun x y=>decide (x ≤ y)) = (listB L).map bl:=by
        have e1 : (S.map fun x=>bl x.val) = (S.map (·.val)).map bl:=by rw [List.map_map];rfl
        rw [e1,compact_texts];congr 1
        exact sortC_congr totS fun z=>by simp only [List.mem_map,Hall.out]
      rw [hz,← strR_zR,List.length_map] at hcomp;have hll:=listB_len L;obtain ⟨N,hN⟩ : ∃ N,listB L = N:=⟨_,rfl⟩
      rw [hN] at hcomp hll;have HN:=Lib.hid hN;clear hz hsort hN;(go_wp2_with fail);refine hcomp.mono ?_;rintro e w3 ⟨rfl,hown3,hk3⟩;have hb3 : Below w.heap.size w w3:=(hb.trans (hk2.below (B:=w.heap.size) (by omega) fun x hx=>by have:=(hown.at_base hx).1;omega)).trans (hk3.below (B:=w.heap.size) (by have:=hb.size;have:=hk2.size;omega) fun x hx=>by have:=(hown.at_base hx).1;omega);have hsl:=hown3.slr;have haddr:=hown3.addr;clear hown2 hown3 hown hcomp;(go_wp2_with fail);go_loopw [5,29] (fun out i wr=>∃ (k : Nat) (A : Option Addr) (cap : Nat),k ≤ N.length ∧ i = .int .i64 k ∧ out = .slice A k cap ∧ OwnL wr w3.heap.size A k cap (N.take k) ∧ Below w3.heap.size w3 wr) (fun _ i _=>N.length - (intOf i).toNat)
      case atStart=>exact ⟨0,none,0,Nat.zero_le _,rfl,rfl,Own.nil _ _ _ _,Below.refl _ _⟩
      case round =>
        obtain ⟨k,A',cap',hk,rfl,rfl,hown,hbr⟩:=hrel;by_cases hlt : k < N.length
        · obtain ⟨q,o,rfl,hrw⟩:=(hsl.below hbr).at_ hlt;obtain rfl : o = 0:=by
            rcases haddr with e | ⟨g',e⟩
            · cases e
            · injection e with e;injection e
          rw [List.getElem_map] at hrw;have hcell:=rowAt_cell hrw (j:=0) (by omega);have htk : N.take (k + 1) = N.take k ++ [N[k]]:=by rw [List.take_add_one,List.getElem?_eq_getElem hlt];rfl
          obtain ⟨x,hx⟩ : ∃ x,N[k]'hlt = x:=⟨_,rfl⟩
          rw [hx] at hcell htk;have hcell' : wr.cell? ⟨q,k,none⟩ = some (.string x):=by simpa [strR] using hcell
          have Htk:=Lib.hid htk;clear hx hcell hrw htk;have hszr:=hbr.size;have hbx : Below wr.heap.size wr (wr.alloc (.cells (pairC ⟨x,⟨#[]⟩⟩) 98)):=(Below.refl _ _).alloc (Nat.le_refl _) _;have hown2:=hown.below hbx;have hrow2 : rowAt (wr.alloc (.cells (pairC ⟨x,⟨#[]⟩⟩) 98)) wr.heap.size 0 2 = some (pairC ⟨x,⟨#[]⟩⟩):=by simp [go_sem]
          go_wp2_with (at_builtin;refine L_append einfoPair rfl hown2 rfl hrow2 (pairC_one _) (by omega) (by omega) (by simp;omega) ?_;intro A2 cap2 w4 hownA hkA hsubA)
          have hbA : Below w3.heap.size w3 w4:=hbr.trans ((hbx.mono hszr).trans (hkA.below (B:=w3.heap.size) (by simp;omega) fun y hy=>(hown.at_base hy).1));(go_wp2_with fail);go_roundw
          case rel=>exact ⟨k + 1,A2,cap2,by omega,by go_num,rfl,by rw [Htk.out];show Own _ _ _ _ _ _ _ _;rw [List.map_append];exact hownA,hbA⟩
          case measure=>simp [intOf];omega
        · (go_wp2_with fail);go_ret;have e : k = N.length:=by omega
          subst e;rw [List.take_length] at hown;rw [HN.out];exact ⟨A',cap',rfl,hown.mono hb3.size,bel2 hb3 hbr⟩
    · have hSn : S.length + 1 ≤ 1000000:=by
        obtain ⟨M,Z,hZ,hks,_,hZS,hnd⟩:=hR1;have h1:=hZ.length;have h2 : (Z.map (·.1)).length = (S ++ [x]).length:=by rw [hZS]
        have h3 : (M.map (·.1)).length ≤ L.length:=nodup_len hnd (fun y hy=>(hks y).1 hy);simp at h2 h3;omega
      have hownr : Own w1 w0.heap.size 9 1 A S.length cap ((S.map fun x=>bl x.val).map zR):=hown.kept hk1 (fun y hy=>by have:=(hown.at_base hy).1;simp;omega);have hb1 : Below w.heap.size w w1:=hb.trans (hk1.below (B:=w.heap.size) (by omega) (by simp));have hbx : Below w1.heap.size w1 ((w1.alloc (.cells (bRowC x) 171)).alloc (.cells (strR x.val) 9)):=((Below.refl _ _).alloc (Nat.le_refl _) _).alloc (by simp) _;have hown2:=hownr.below hbx;have hrow2 : rowAt ((w1.alloc (.cells (bRowC x) 171)).alloc (.cells (strR x.val) 9)) (w1.heap.size + 1) 0 1 = some (strR x.val):=by simp [go_sem,strR]
      change (Instr.next _ _ _).run Tryz.prog wr = .ok (.tuple #[.bool true,.agg (bRowC x),.bool true]) w1 at hrun;change (Instr.entry _).run Tryz.prog w1 = .ok (.tuple #[.agg (bRowC x),.bool true]) w1 at hen;have Hs1:=Lib.hid hs1;clear hs1;go_wp2_with (at_builtin;refine L_append einfoStr rfl hown2 rfl hrow2 (strR_one _) (by omega) (by omega) (by simp;have:=Hs1.out;omega) ?_;intro A' cap' w2 hownA hkA hsubA)
      have hbA : bl_ ∉ blk A:=fun hx=>(by have:=(hown.at_base hx).1;omega);have hrA : w.heap.size ∉ blk A:=fun hx=>(by have:=(hown.at_base hx).1;omega);have hR1x:=hR1.kept (Keep.of_below hbx) (by simp) (by simp);have hR2:=hR1x.kept hkA hbA hrA;have hl2 : w2.rangeLeft bl_ w.heap.size = w1.rangeLeft bl_ w.heap.size :=
        (rangeLeft_kept hkA hbA hrA hR1x.lt.2 hR1x.lt.1).trans (rangeLeft_kept (Keep.of_below hbx) (by simp) (by simp) hR1.lt.2 hR1.lt.1)
      have hsz2 : w0.heap.size ≤ w2.heap.size:=by
        have e1:=hbx.size;have e2:=hkA.size;have e3:=Hs1.out;omega
      have hb2 : Below w.heap.size w w2:=hb1.trans ((hbx.mono (by have:=Hs1.out;omega)).trans (hkA.below (B:=w.heap.size) (by simp;have:=Hs1.out;omega) fun y hy=>by have:=(hown.at_base hy).1;omega));have hL' : (S.map fun x=>bl x.val).map zR ++ [strR x.val] = ((S ++ [x]).map fun x=>bl x.val).map zR:=by simp [zR,strR,encStr_bl]
      rw [hL'] at hownA;clear hrun hen hL';(go_wp2_with fail);go_roundw
      case rel=>exact ⟨S ++ [x],A',cap',by simp,hR2,by simpa using hownA,hb2,hsz2⟩
      case measure=>omega
end
section
open Go.RowKit Go.Sort Go.Maps
def unitR (_ : Value) : Option (DataW Unit × List MemPlace):=some (.nil,[])
theorem LastAt.owns {w : World} {g b : Nat} {L : List LRow} (h : LastAt w g b L) (hn : L.length ≤ 1000000) :
    ∃ D0 : DataW Unit,w.ownsMap Tryz.prog 9 unitR b L.length D0 ∧ Maps.size D0 ≤ 1000000 ∧ (strKeys D0).Perm (L.map fun p=>p.1.data.toList):=by
  obtain ⟨M,es,clk,hm,hp⟩:=h.map;have hlen : es.size = L.length:=by rw [hm.length,hp.length_eq]
  have hkey : ∀ e ∈ es.toList,∃ k : ByteArray,e.key = .string k ∧ k.size ≤ maxLen:=by
    intro e he;obtain ⟨j,hj,rfl⟩:=List.mem_iff_getElem.1 he;obtain ⟨p,hp,hk,_⟩:=hm.at_key (List.getElem?_eq_getElem hj);exact ⟨p.1,hk,hm.okk p (List.mem_of_getElem? hp)⟩
  have hrd : ∀ e ∈ es.toList,∀ k : ByteArray,e.key = .string k → k.size ≤ maxLen → WideElems.rd Tryz.prog 9 unitR e = some (.string k.data.toList,.nil):=by
    intro e _ k hk hks;simp [WideElems.rd,hk,keyOf,mapKey,Tryz.underlying9,hks,unitR]
  refine ⟨_,⟨es,clk,hm.heap,⟨?_,?_,?_⟩,by omega,rfl⟩,?_,?_⟩
  · simp only [maxLen];omega
  · rw [MapKept.stamped_iff];refine ⟨hm.clock,hm.born,?_⟩;have hnd : (es.toList.map (·.key)).Pairwise (· ≠ ·):=by
      rw [hm.keys];have h2:=hm.nodup;rw [List.Nodup,List.pairwise_map] at h2;rw [List.pairwise_map];exact h2.imp fun h e=>h (by injection e)
    rw [List.pairwise_map] at hnd;exact hnd
  · intro e he;obtain ⟨k,hk,hks⟩:=hkey e he;exact ⟨_,hrd e he k hk hks⟩
  · show (List.foldr DataW.insert [] _).length ≤ _;rw [(WideShapes.sorted_perm _).length_eq]
    simp;omega
  · have h1 : (strKeys (DataW.map (List.foldr DataW.insert [] (es.toList.map (WideElems.rg Tryz.prog 9 unitR))))).Perm ((es.toList.map (WideElems.rg Tryz.prog 9 unitR)).map fun p=>strOf p.1) :=
      (WideShapes.sorted_perm _).map _
    refine h1.trans ?_;have h2 : ((es.toList.map (WideElems.rg Tryz.prog 9 unitR)).map fun p=>strOf p.1) = M.map fun p=>p.1.data.toList:=by
      rw [List.map_map];apply List.ext_getElem?;intro n;rw [List.getElem?_map,List.getElem?_map];cases he : es.toList[n]? with
      | none =>
        have : M[n]? = none:=by
          rw [List.getElem?_eq_none_iff] at he ⊢;have:=hm.length;simp at he;omega
        rw [this];rfl
      | some e =>
        obtain ⟨p,hp',hk,_⟩:=hm.at_key he;rw [hp'];have hr:=hrd e (List.mem_of_getElem? he) p.1 hk (hm.okk p (List.mem_of_getElem? hp'));simp [WideElems.rg_of hr,strOf]
    rw [h2];exact hp.map _
theorem leB_cmp (x y : List UInt8) : leB x y = true ↔ ¬ cmpB y x < 0:=by
  have h:=bytesLess_eq y x;rw [bytesLess_cmp] at h;have h2 : (cmpB y x < 0) ↔ y < x:=by simpa using h
  show decide (x ≤ y) = true ↔ _;rw [decide_eq_true_eq,h2];exact Iff.rfl
theorem rising_sorted : ∀ {L : List LRow},Rising L → (L.map fun p=>p.1.data.toList).Pairwise (fun x y=>leB x y = true)
  | [],_=>by simp
  | x :: l,h=>by
    rw [List.map_cons,List.pairwise_cons];refine ⟨fun y hy=>?_,rising_sorted h.2⟩;obtain ⟨z,hz,rfl⟩:=List.mem_map.1 hy;rw [leB_cmp];have h1:=h.1 z hz;have h2:=cmpS_asym h1;unfold cmpS at h2
    rwa [ByteArray.toList_eq,ByteArray.toList_eq] at h2
theorem sorted_keys {L : List LRow} (h : Rising L) {ss : List (List UInt8)} (hp : ss.Perm (L.map fun p=>p.1.data.toList)) :
    (ss.mergeSort (fun x y=>decide (x ≤ y))).map encStr = L.map fun p=>Value.string p.1:=by
  have e : ss.mergeSort leB = (L.map fun p=>p.1.data.toList).mergeSort leB:=mergeSort_of_perm hp;have e2 : (L.map fun p=>p.1.data.toList).mergeSort leB = L.map fun p=>p.1.data.toList:=List.mergeSort_of_pairwise (rising_sorted h);have e3 : ss.mergeSort (fun x y=>decide (x ≤ y)) = L.map fun p=>p.1.data.toList:=e.trans e2;rw [e3,List.map_map];rfl
set_option maxHeartbeats 1000000 in
theorem lkeys (w : World) (g b : Nat) (L : List LRow) (h : LastAt w g b L) (hn : L.length ≤ 1000000) :
    Calls Tryz.prog 126 #[.map (some b)] w fun e w'=>∃ v,e = .returned v ∧ w'.ownsRow w.heap.size 9 1 v L.length (L.map fun p=>.string p.1) ∧ Below w.heap.size w w':=by
  obtain ⟨D0,hown,hsz,hperm⟩:=h.owns hn;have c1:=callsIn_wide.1 (Tryz.maps_Keys_197 (some b) w);have c2:=callsIn_wide.1 (Tryz.slices_Sorted_keys_196_197 b L.length D0 unitR w hown (by simp only [maxLen];omega) (by omega));go_enter Tryz.func126,Tryz.ntmps126
  (go_wp2_with fail);refine c1.mono ?_;rintro e w' ⟨rfl,rfl⟩;(go_wp2_with fail);refine c2.mono ?_;rintro e w' ⟨v,ss,rfl,hS,hrow,hnil,hb⟩;(go_wp2_with fail);go_ret;have hSL:=hS.trans hperm;rw [sorted_keys h.rows.1 hSL] at hrow;have hlen : ss.length = L.length:=by rw [hSL.length_eq,List.length_map]
  rw [hlen] at hrow;have hb0 : Below w.heap.size w (w.alloc (.cells #[.map (some b)] 175)):=(Below.refl _ _).alloc (Nat.le_refl _) _;refine ⟨v,rfl,?_,bel2 hb0 hb⟩;obtain ⟨r1,r2⟩:=hrow;refine ⟨r1,?_⟩;rcases r2 with r2 | ⟨q,cap,cur,hv,hq,rest⟩
  · exact .inl r2
  · exact .inr ⟨q,cap,cur,hv,by simp at hq;omega,rest⟩
end
section
open Go.RowKit
theorem LastAt.look1 {w : World} {g b : Nat} {L : List LRow} (h : LastAt w g b L) {p : LRow} (hp : p ∈ L) :
    (Instr.lookup 175 (.map (some b)) (.string p.1) false).run Tryz.prog w = .ok (.agg (settingC p.2)) w:=by
  obtain ⟨M,es,clk,hm,hperm⟩:=h.map;have hk:=(checkE_bd (h.rows.2 p hp)).1;exact hm.hit strKey Tryz.underlying175 (by simp only [maxLen];omega) (hperm.mem_iff.2 hp) false
def pairOf (p : LRow) : Pair:=⟨p.1,p.2.val⟩
def listC (L : List LRow) : List (Array Value):=L.map fun p=>pairC (pairOf p)
theorem row_keys {w : World} {B : Nat} {v : Value} {n : Nat} {L : List LRow} (h : w.ownsRow B 9 1 v n (L.map fun p=>.string p.1)) (hn : n = L.length) :
    ∃ A cap,v = .slice A n cap ∧ ((A = none ∧ n = 0) ∨ ∃ g,A = some ⟨g,0,none⟩ ∧ B ≤ g ∧ g < w.heap.size ∧ ∀ i (hi : i < L.length),w.cell? ⟨g,i,none⟩ = some (.string (L[i]).1)):=by
  obtain ⟨h1,h2⟩:=h;rcases h2 with ⟨rfl,h0⟩ | ⟨g,c,cur,rfl,hb,hg,hnc,hcm,hcs,htake⟩
  · exact ⟨none,0,by rw [h0],.inl ⟨rfl,h0⟩⟩
  · refine ⟨some ⟨g,0,none⟩,c,rfl,.inr ⟨g,rfl,hb,(Array.getElem?_eq_some_iff.1 hg).1,?_⟩⟩;intro i hi;rw [cell_of_row w g i _ _ _ hg];have e1:=congrArg (fun l=>l[i]?) htake;simp only [List.getElem?_take,List.getElem?_map] at e1;rw [if_pos (by omega),List.getElem?_eq_getElem hi] at e1;simpa using e1
set_option maxRecDepth 100000 in
set_option maxHeartbeats 1000000 in
theorem llist (w : World) (g b : Nat) (L : List LRow) (h : LastAt w g b L) (hn : L.length ≤ 1000000) :
    Calls Tryz.prog 59 #[.pointer (some ⟨g,0,none⟩)] w fun e w'=>∃ A cap,e = .returned (.slice A L.length cap) ∧ Own w' w.heap.size 98 2 A L.length cap (listC L) ∧ Below w.heap.size w w':=by
  have hc:=h.cell;go_enter Tryz.func59,Tryz.ntmps59
  (go_wp2_with fail);refine (lnone_live _ _ _ hc).mono ?_;rintro e w' ⟨rfl,rfl⟩;(go_wp2_with fail);refine (lkeys _ _ _ _ h hn).mono ?_;rintro e w1 ⟨v,rfl,hrow,hb⟩;obtain ⟨KA,kc,rfl,hkeys⟩:=row_keys hrow rfl;have h1:=h.below hb;have Hk:=Lib.hid hkeys;clear hkeys hrow hc;(go_wp2_with fail);go_loopw [3,14] (fun out i wr=>∃ k A cap,k ≤ L.length ∧ i = .int .i64 (k : Nat) ∧ out = .slice A k cap ∧ Own wr w1.heap.size 98 2 A k cap (listC (L.take k)) ∧ Below w1.heap.size w1 wr) (fun _ i _=>L.length - (intOf i).toNat)
  case atStart=>exact ⟨0,none,0,Nat.zero_le _,rfl,rfl,Own.nil _ _ _ _,Below.refl _ _⟩
  case round =>
    obtain ⟨k,A,cap,hk,rfl,rfl,hown,hbr⟩:=hrel;by_cases hlt : k < L.length
    · obtain ⟨q,rfl,hq,hqw,hkeys⟩ : ∃ q,KA = some ⟨q,0,none⟩ ∧ w.heap.size ≤ q ∧ q < w1.heap.size ∧ Hid (∀ i (hi : i < L.length),w1.cell? ⟨q,i,none⟩ = some (.string (L[i]).1)):=by
        rcases Hk.out with ⟨_,h0⟩ | h
        · omega
        · exact h
      have hcell:=(hbr.cell (p:=⟨q,k,none⟩) hqw).trans (hkeys.out k hlt);have hr:=h1.below hbr;have hcr:=hr.cell;have hl:=hr.look1 (List.getElem_mem hlt);have htk : listC (L.take (k + 1)) = listC (L.take k) ++ [pairC (pairOf L[k])]:=by rw [List.take_add_one,List.getElem?_eq_getElem hlt];exact List.map_append
      have Htk:=Lib.hid htk;clear htk hr hkeys Hk;obtain ⟨⟨pk,ps⟩,hp⟩ : ∃ p,L[k] = p:=⟨_,rfl⟩
      have Hp:=Lib.hid hp;rw [hp] at hcell hl Htk;clear hp;have hbx : Below wr.heap.size wr (wr.alloc (.cells (pairC ⟨pk,ps.val⟩) 98)):=(Below.refl _ _).alloc (Nat.le_refl _) _;have hown2:=hown.below hbx;have hrow2 : rowAt (wr.alloc (.cells (pairC ⟨pk,ps.val⟩) 98)) wr.heap.size 0 2 = some (pairC ⟨pk,ps.val⟩):=by simp [go_sem]
      have hsz:=hbr.size;go_wp2_with (at_builtin;refine L_append einfoPair rfl hown2 rfl hrow2 (pairC_one _) (by omega) (by omega) (by simp;omega) ?_;intro A' cap' w2 hownA hkA hsubA)
      have hbA : Below w1.heap.size w1 w2:=hbr.trans ((hbx.mono hsz).trans (hkA.below (B:=w1.heap.size) (by simp;omega) fun x hx=>(hown.at_base hx).1));(go_wp2_with fail);go_roundw
      case rel=>exact ⟨k + 1,A',cap',by omega,by go_num,rfl,by rw [Htk.out];exact hownA,hbA⟩
      case measure=>simp [intOf];omega
    · (go_wp2_with fail);go_ret;have e : k = L.length:=by omega
      subst e;rw [List.take_length] at hown;exact ⟨A,cap,rfl,hown.mono hb.size,bel2 hb hbr⟩
end
section
open Go.RowKit Go.Sort Go.Shelf
instance : Inhabited Id32:=⟨id0⟩
end
section
open Go.RowKit Go.Sort Go.Shelf
theorem isAgg_sort_mrows (w : World) : (isAgg 184).run Tryz.prog w = .ok true w:=by simp [isAgg,run_underlying Tryz.underlying184]
theorem size_sort_mrows (w : World) : (Go.sizeOf 184).run Tryz.prog w = .ok 34 w:=by
  have h:=infoMRow;cases hi : Tryz.prog.info? 184 with
  | none=>rw [hi] at h;cases h
  | some i =>
    rw [hi] at h;have hk : i.size = 34:=by simpa using h
    simp [Go.sizeOf,typeInfo,hi,hk]
theorem tot_sort_mrows : TotC cmpMR:=totMR
theorem sort_mrows (w : World) (B : Nat) (A : Option Addr) (n cap : Nat) (S L : List (MRow)) (hown : Own w B 184 34 A n cap (S.map mRowC)) (hp : S.Perm L) (hr : Ris cmpMR L) (hn : L.length ≤ 1000000) :
    Calls Tryz.prog 199 #[.slice A n cap,.func (.func 200) #[] #[]] w fun e w'=>e = .returned (.tuple #[]) ∧ Own w' B 184 34 A n cap (L.map mRowC) ∧ Keep (blk A) w w':=by
  have hl : S.length = n:=by simpa using hown.len
  have hSL:=hp.length_eq;rcases hown.addr with rfl | ⟨g,rfl⟩
  · have hn0 : n = 0:=(hown.cap_le.2 rfl).1;subst hn0;have hS : S = []:=List.eq_nil_of_length_eq_zero hl;subst hS;have hL : L = []:=List.eq_nil_of_length_eq_zero hSL.symm;subst hL;refine (AnyF.slices_SortFunc_none Tryz.laySortW none cap (.func (.func 200) #[] #[]) w).mono ?_;rintro e w' ⟨rfl,rfl⟩;exact ⟨rfl,hown,Keep.refl _ _⟩
  · subst hl;have hH:=own_holds (enc:=mRowC) (by omega) mRowC_size hown;have hcmp : CmpLays Tryz.prog 200 #[] (fun x : MRow=>(mRowC x).toList) 34 cmpMR g 0 S.toArray.size w:=fun m os dk _ x y=>morder x y _;have hgl : g < w.heap.size:=(hown.at_base (x:=g) (by simp [blk])).2;have hcon:=AnyQ.slices_SortFunc_total Tryz.laySortW 34 isAgg_sort_mrows size_sort_mrows (fun x : MRow=>(mRowC x).toList) (by simp) (fun x v hv=>mRowC_one x v hv) cmpMR (swo_of tot_sort_mrows) 200 #[] g 0 cap S.toArray w
      (enters_of Tryz.func200 (by kernel_rfl) rfl) hcmp hH hgl (by simp;omega) (fun x y h1 h2=>by
        simp only [ltOf,decide_eq_false_iff_not] at h1 h2;exact Classical.byContradiction fun e=>h2 ((tot_sort_mrows).flip h1 e))
    have e1 : S.toArray.size = S.length:=by simp
    rw [e1] at hcon;refine hcon.mono ?_;rintro e w' ⟨rfl,n,os,rfl⟩;have e2 : (S.toArray.toList.mergeSort fun x y=>!(ltOf cmpMR y x)) = L:=mergeSort_ris tot_sort_mrows hr hp;rw [e2];obtain ⟨h1,h2⟩:=own_sorted (enc:=mRowC) (by omega) mRowC_size hown n L hSL.symm os;exact ⟨rfl,h1,h2.mono (by simp [blk])⟩
set_option maxRecDepth 100000 in
set_option maxHeartbeats 1000000 in
theorem msorted (wS : World) (g b bo : Nat) (L : List MRow) (O : List Id32) (h : MultiAt wS g b bo L O) (hn : L.length ≤ 1000000) :
    Calls Tryz.prog 127 #[.pointer (some ⟨g,0,none⟩)] wS fun e w'=>∃ A cap,e = .returned (.slice A L.length cap) ∧ Own w' wS.heap.size 184 34 A L.length cap (L.map mRowC) ∧ Below wS.heap.size wS w':=by
  have hbl:=h.live.lt;have hc:=h.cell0;have hr:=h.risX;obtain ⟨w0,hrun,hR,hb0,hs0⟩:=SetAt.range (P:=Tryz.prog) (kv:=mrowV) (ok:=okM) h.live Tryz.underlying269;go_enter Tryz.func127,Tryz.ntmps127
  (go_wp2_with fail);refine (mnone_live wS g b hc).mono ?_;rintro e w1 ⟨rfl,rfl⟩;(go_wp2_with fail);clear hrun hc h;go_loopw [3] (fun out wr=>∃ S A cap,out = .slice A S.length cap ∧ SetRange wr b wS.heap.size mrowV okM L S ∧ Own wr w0.heap.size 184 34 A S.length cap (S.map mRowC) ∧ Below wS.heap.size wS wr ∧ w0.heap.size ≤ wr.heap.size) (fun _ wr=>wr.rangeLeft b wS.heap.size)
  case atStart=>exact ⟨[],none,0,rfl,hR,Own.nil _ _ _ _,hb0,Nat.le_refl _⟩
  case round =>
    obtain ⟨S,A,cap,rfl,hR,hown,hb,hsz⟩:=hrel;rcases hR.next (P:=Tryz.prog) 0 with ⟨hall,hnd,hrun⟩ | ⟨x,w1,hxL,hxS,hrun,hR1,hk1,hs1,hl1,hen⟩
    focus
      have hp : S.Perm L:=(List.perm_ext_iff_of_nodup hnd (hr.nodup totMR)).2 hall;have hSL:=hp.length_eq;have Hall:=Lib.hid hall;have HSL:=Lib.hid hSL;clear hall hSL;have hsort:=sort_mrows wr w0.heap.size A S.length cap S L hown hp hr hn;(go_wp2_with fail);refine hsort.mono ?_;rintro e w2 ⟨rfl,hown2,hk2⟩;clear hrun;(go_wp2_with fail);go_ret;rw [HSL.out] at hown2 ⊢;exact ⟨A,cap,rfl,hown2.mono (by omega),hb.trans (hk2.below (B:=wS.heap.size) (by omega) fun x hx=>by have:=(hown.at_base hx).1;omega)⟩
    have hSn : S.length + 1 ≤ 1000000:=by
      obtain ⟨M,Z,hZ,hks,_,hZS,hnd⟩:=hR1;have h1:=hZ.length;have h2 : (Z.map (·.1)).length = (S ++ [x]).length:=by rw [hZS]
      have h3 : (M.map (·.1)).length ≤ L.length:=nodup_len hnd (fun y hy=>(hks y).1 hy);simp at h2 h3;omega
    have hownr : Own w1 w0.heap.size 184 34 A S.length cap (S.map mRowC):=hown.kept hk1 (fun y hy=>by have:=(hown.at_base hy).1;simp;omega);have hb1 : Below wS.heap.size wS w1:=hb.trans (hk1.below (B:=wS.heap.size) (by omega) (by simp));have hbx : Below w1.heap.size w1 ((w1.alloc (.cells (mRowC x) 184)).alloc (.cells (mRowC x) 184)):=((Below.refl _ _).alloc (Nat.le_refl _) _).alloc (by simp) _;have hown2:=hownr.below hbx;have hrow2 : rowAt ((w1.alloc (.cells (mRowC x) 184)).alloc (.cells (mRowC x) 184)) (w1.heap.size + 1) 0 34 = some (mRowC x):=by simp [go_sem]
    change (Instr.next _ _ _).run Tryz.prog wr = .ok (.tuple #[.bool true,.agg (mRowC x),.bool true]) w1 at hrun;change (Instr.entry _).run Tryz.prog w1 = .ok (.tuple #[.agg (mRowC x),.bool true]) w1 at hen;have Hs1:=Lib.hid hs1;clear hs1;go_wp2_with (at_builtin;refine L_append einfoMRow rfl hown2 rfl hrow2 (mRowC_one _) (by omega) (by omega) (by simp;have:=Hs1.out;omega) ?_;intro A' cap' w2 hownA hkA hsubA)
    have hbA : b ∉ blk A:=fun hx=>(by have:=(hown.at_base hx).1;omega);have hrA : wS.heap.size ∉ blk A:=fun hx=>(by have:=(hown.at_base hx).1;omega);have hR1x:=hR1.kept (Keep.of_below hbx) (by simp) (by simp);have hR2:=hR1x.kept hkA hbA hrA;have hl2 : w2.rangeLeft b wS.heap.size = w1.rangeLeft b wS.heap.size :=
      (rangeLeft_kept hkA hbA hrA hR1x.lt.2 hR1x.lt.1).trans (rangeLeft_kept (Keep.of_below hbx) (by simp) (by simp) hR1.lt.2 hR1.lt.1)
    have hsz2 : w0.heap.size ≤ w2.heap.size:=by
      have e1:=hbx.size;have e2:=hkA.size;have e3:=Hs1.out;omega
    have hb2 : Below wS.heap.size wS w2:=hb1.trans ((hbx.mono (by have:=Hs1.out;omega)).trans (hkA.below (B:=wS.heap.size) (by simp;have:=Hs1.out;omega) fun y hy=>by have:=(hown.at_base hy).1;omega));clear hrun hen;(go_wp2_with fail);go_roundw
    case rel=>exact ⟨S ++ [x],A',cap',by simp,hR2,by simpa using hownA,hb2,hsz2⟩
    case measure=>omega
end
section
open Go.RowKit
@[go_sem ↓] theorem slPair_rw (x : Value) (lo hi mx : Option Value) : Instr.sliceAt 23 x lo hi mx = slS 23 x lo hi mx:=rfl
end
section
open Go.RowKit
section
variable {P : Program} {T E : TypeId} {k bytes : Nat}
theorem zeroCells_one {z : Array Value} {n : Nat} (hz : 0 < z.size) (h1 : ∀ u ∈ z.toList,u.oneCell' = true) : ∀ u ∈ (Builtin.zeroCells z n).toList,u.oneCell' = true:=by
  intro u hu;unfold Builtin.zeroCells at hu;simp only [Array.toList_map,List.mem_map] at hu;obtain ⟨i,_,rfl⟩:=hu;have hi : i % z.size < z.size:=Nat.mod_lt _ hz;rw [getElem!_pos z _ hi];exact h1 _ (by simp)
theorem own_clear (I : ElemInfo P T E k bytes) {z : Value} (hz : (P.info? E).bind (·.zero) = some z) (hz1 : ∀ u ∈ z.cells.toList,u.oneCell' = true) {w : World} {B g n cap m : Nat} {L : List (Array Value)} (h : Own w B E k (some ⟨g,0,none⟩) n cap L) (hm : m ≤ n) (ty : TypeId) :
    ∃ A2 c2,(∀ w0 : World,(slS T (.slice (some ⟨g,0,none⟩) n cap) (some (.int .i64 m)) none none).run P w0 = .ok (.slice A2 (n - m) c2) w0) ∧
      ∃ w',(Builtin.clear_ #[T] ty #[.slice A2 (n - m) c2]).run P w = .ok (.tuple #[]) w' ∧ Own w' B E k (some ⟨g,0,none⟩) m cap (L.take m) ∧ Keep [g] w w':=by
  have hA:=h.cap_le;have hrun : ∀ w0 : World,(slS T (.slice (some ⟨g,0,none⟩) n cap) (some (.int .i64 m)) none none).run P w0 = .ok (.slice (if cap = m then some ⟨g,0,none⟩ else some ⟨g,m * k,none⟩) (n - m) (cap - m)) w0:=by
    intro w0;rw [run_slS I];unfold Instr.slice Instr.sliceBounds;simp only [Sem.run_bind,run_underlying I.und,Result.andThen_ok,Sem.run_pure,run_bound w0 m n hm,I.sizeOf_run w0,Option.isSome_none,Bool.false_eq_true,if_false];congr 3
    show some ((⟨g,0,none⟩ : Addr).add (m * k)) = _;unfold Addr.add;split <;> simp_all
  refine ⟨_,_,hrun,?_⟩;have hown2:=h;have hlen:=flat_len L k h.size;have hL:=h.len;have hsz:=h.size;obtain ⟨⟨h1,h2⟩,_,hs⟩:=h;rcases h2 with ⟨h2,_⟩ | ⟨g',c,cur,hv,hb,hg,hnc,hcm,hcsz,htake⟩
  · cases h2
  injection hv with hA' _ hc
  injection hA' with hA'
  injection hA' with hA'
  subst hA';subst hc;have hmk : m * k ≤ n * k:=Nat.mul_le_mul_right k hm;have hnk : n * k ≤ cur.size:=by rw [hcsz];exact Nat.mul_le_mul_right k hnc
  have htk : (L.take m).flatMap Array.toList = (L.flatMap Array.toList).take (m * k):=by
    apply List.ext_getElem?;intro j;have hlt : (L.take m).length = m:=by simp;omega
    have hl2:=flat_len (L.take m) k (fun c hc=>hs c (List.mem_of_mem_take hc));rw [hlt] at hl2;by_cases hj : j < m * k
    · rw [List.getElem?_take,if_pos hj];have hk0:=I.pos;have hi : j / k < m:=Nat.div_lt_of_lt_mul (by rw [Nat.mul_comm];exact hj);have hr : j % k < k:=Nat.mod_lt _ hk0;have he : j = j / k * k + j % k:=by rw [Nat.mul_comm];exact (Nat.div_add_mod j k).symm
      rw [he,flat_get (L.take m) k (fun c hc=>hs c (List.mem_of_mem_take hc)) (j / k) (j % k) (by rw [hlt];exact hi) hr,flat_get L k hs (j / k) (j % k) (by omega) hr];congr 1
      rw [List.getElem_take]
    · rw [List.getElem?_eq_none (by omega),List.getElem?_eq_none (by simp;omega)]
  have hfin : ∀ w' cur',w'.heap[g]? = some (.cells cur' E (0,0)) → cur'.size = cap * k → cur'.toList.take (m * k) = cur.toList.take (m * k) → Own w' B E k (some ⟨g,0,none⟩) m cap (L.take m):=by
    intro w' cur' hg' hcs' htk';refine ⟨⟨?_,.inr ⟨g,cap,cur',rfl,hb,hg',by omega,hcm,hcs',?_⟩⟩,by simp;omega,fun c hc=>hs c (List.mem_of_mem_take hc)⟩
    · rw [flat_len _ k (fun c hc=>hs c (List.mem_of_mem_take hc)),List.length_take,hL,Nat.min_eq_left hm]
    · rw [htk',htk,← htake,List.take_take,Nat.min_eq_left hmk]
  by_cases hmn : m = n
  · subst hmn;refine ⟨w,?_,hfin w cur hg hcsz rfl,(Keep.refl _ _)⟩;rw [Nat.sub_self];obtain ⟨A2,hA2⟩ : ∃ A2,(if cap = m then (some ⟨g,0,none⟩ : Option Addr) else some ⟨g,m * k,none⟩) = A2:=⟨_,rfl⟩
    rw [hA2];cases A2 <;> simp [Builtin.clear_,run_underlying I.und]
  · have hcm' : ¬ cap = m:=by omega
    rw [if_neg hcm'];obtain ⟨inf,z',hinf,hz',hisz,hby,hzs⟩:=I.info;have hzz : z' = z:=by
      rw [hinf] at hz;have : inf.zero = some z:=hz;rw [hz'] at this;injection this
    subst hzz;have hk0:=I.pos;have hst:=run_storeCells_at P g (m * k) E (Builtin.zeroCells z'.cells (n - m)).toList 0 cur w hg (by
      simp only [Nat.add_zero,Array.length_toList,size_zeroCells,hzs];have : m * k + (n - m) * k = n * k:=by rw [← Nat.add_mul];congr 1;omega
      omega) (zeroCells_one (by omega) hz1)
    simp only [Nat.add_zero,Array.length_toList,size_zeroCells,hzs] at hst;have hsum : m * k + (n - m) * k = n * k:=by rw [← Nat.add_mul];congr 1;omega
    have hzl : (Builtin.zeroCells z'.cells (n - m)).toList.length = (n - m) * k:=by rw [Array.length_toList,size_zeroCells,hzs]
    have hcl : cur.toList.length = cap * k:=by rw [Array.length_toList];exact hcsz
    obtain ⟨NC,hNC⟩ : ∃ NC,(cur.toList.take (m * k) ++ (Builtin.zeroCells z'.cells (n - m)).toList ++ cur.toList.drop (m * k + (n - m) * k)).toArray = NC:=⟨_,rfl⟩
    rw [hNC] at hst;have hNs : NC.size = cap * k:=by
      rw [← hNC];simp only [List.size_toArray,List.length_append,List.length_take,List.length_drop,hzl,hcl];omega
    have hNt : NC.toList.take (m * k) = cur.toList.take (m * k):=by
      rw [← hNC];show List.take (m * k) (cur.toList.take (m * k) ++ (Builtin.zeroCells z'.cells (n - m)).toList ++ cur.toList.drop (m * k + (n - m) * k)) = _;rw [List.append_assoc,List.take_append_of_le_length (by rw [List.length_take,hcl];omega),List.take_take,Nat.min_self]
    refine ⟨w.setRow g NC,?_,hfin _ _ (setRow_heap w g cur NC E (0,0) hg) hNs hNt,⟨rfl,rfl,rfl,by simp [World.setRow],fun x _ hx=>setRow_other w g x _ (by simpa using hx)⟩⟩;obtain ⟨d,hd⟩ : ∃ d,n - m = d + 1:=⟨n - m - 1,by omega⟩
    rw [hd] at hst ⊢;have hzr : (zeroValue E).run P w = .ok z' w:=by simp [zeroValue,typeInfo,hinf,hz']
    simp [Builtin.clear_,run_underlying I.und,hzr,hst]
end
end
section
open Go.RowKit
def pairEqB (x y : Pair) : Bool:=(x.key.toList == y.key.toList) && (x.val.toList == y.val.toList)
theorem pairEqB_eq (x y : Pair) : pairEqB x y = true ↔ x = y:=by
  unfold pairEqB;simp only [Bool.and_eq_true,beq_iff_eq,toList_inj];exact ⟨fun h=>Pair_ext h,fun h=>by subst h;exact ⟨rfl,rfl⟩⟩
theorem eqPair_in (x y : Pair) (w : World) : (Op.equalIn 10000 98 (.agg (pairC x)) (.agg (pairC y))).run Tryz.prog w = .ok (pairEqB x y) w:=by
  rw [show (10000 : Nat) = 9999 + 1 from rfl,run_equalIn_agg w 9999 98 _ _ fieldsPair (by kernel_rfl)];unfold pairEqB;have e1:=run_equalIn_string (P:=Tryz.prog) w 9998 9 x.key y.key Tryz.underlying9;have e2:=run_equalIn_string (P:=Tryz.prog) w 9998 9 x.val y.val Tryz.underlying9;simp only [Program.fieldsOf,Tryz.underlying98];simp [Op.eqFields,part,asAgg,isAgg,go_sem,Tryz.underlying9,e1,e2];by_cases h1 : x.key.toList = y.key.toList <;> by_cases h2 : x.val.toList = y.val.toList <;> simp [h1,h2]
@[go_sem ↓] theorem neqPair_run (x y : Pair) (w : World) : (binOp .neq 98 (.agg (pairC x)) (.agg (pairC y))).run Tryz.prog w = .ok (.bool (!(pairEqB x y))) w:=by
  rw [run_neq_struct,eqPair_in];rfl
def PairsIn (w : World) (A : Option Addr) (n : Nat) (L : List Pair) : Prop:=SlR w A n 2 (L.map pairC)
theorem PairsIn.get {w : World} {A : Option Addr} {n : Nat} {R : List Pair} (h : PairsIn w A n R) {i : Nat} (hi : i < n) (hR : i < R.length) :
    ∃ g o,A = some ⟨g,o,none⟩ ∧ rowAt w g (o + i * 2) 2 = some (pairC R[i]) ∧ w.cell? ⟨g,o + i * 2,none⟩ = some (.string (R[i]).key) ∧ w.cell? ⟨g,o + i * 2 + 1,none⟩ = some (.string (R[i]).val):=by
  obtain ⟨g,o,e,hr⟩:=SlR.at_ h hi;rw [List.getElem_map] at hr;refine ⟨g,o,e,hr,?_,?_⟩
  · have:=rowAt_cell hr (j:=0) (by omega)
    rwa [pairC_g0] at this
  · have:=rowAt_cell hr (j:=1) (by omega)
    rwa [pairC_g1] at this
theorem PairsIn.len {w : World} {A : Option Addr} {n : Nat} {R : List Pair} (h : PairsIn w A n R) : R.length = n:=by simpa using h.1
set_option maxHeartbeats 1000000 in
theorem rpairs (w : World) (A B : Option Addr) (n m cap cap' : Nat) (X Y : List Pair) (hx : PairsIn w A n X) (hy : PairsIn w B m Y) (hn : n ≤ 1000000) (hm : m ≤ 1000000) :
    Calls Tryz.prog 50 #[.slice A n cap,.slice B m cap'] w fun e w'=>e = .returned (.bool (decide (X = Y))) ∧ Below w.heap.size w w':=by
  have hlx:=hx.len;have hly:=hy.len;have Hlx:=Lib.hid hlx;have Hly:=Lib.hid hly;by_cases hnm : n = m
  · subst hnm;clear hlx hly;go_enter Tryz.func50,Tryz.ntmps50
    (go_wp2_with fail);go_loopw [5] (fun i wr=>∃ k : Nat,k ≤ n ∧ i = .int .i64 k ∧ Hid (X.take k = Y.take k) ∧ Below w.heap.size w wr) (fun i _=>n - (intOf i).toNat)
    case atStart=>exact ⟨0,Nat.zero_le _,rfl,rfl,Below.refl _ _⟩
    case round =>
      obtain ⟨k,hk,rfl,heq,hb⟩:=hrel;by_cases hlt : k < n
      · obtain ⟨q,o,rfl,hr,_,_⟩:=PairsIn.get (SlR.below hx hb) hlt (by rw [Hlx.out];exact hlt);obtain ⟨q2,o2,rfl,hr2,_,_⟩:=PairsIn.get (SlR.below hy hb) hlt (by rw [Hly.out];exact hlt);have hX : X.take (k + 1) = X.take k ++ [X[k]'(by rw [Hlx.out];exact hlt)]:=by rw [List.take_add_one,List.getElem?_eq_getElem (by rw [Hlx.out];exact hlt)];rfl
        have hY : Y.take (k + 1) = Y.take k ++ [Y[k]'(by rw [Hly.out];exact hlt)]:=by rw [List.take_add_one,List.getElem?_eq_getElem (by rw [Hly.out];exact hlt)];rfl
        obtain ⟨x,hx'⟩ : ∃ x,X[k]'(by rw [Hlx.out];exact hlt) = x:=⟨_,rfl⟩
        obtain ⟨y,hy'⟩ : ∃ y,Y[k]'(by rw [Hly.out];exact hlt) = y:=⟨_,rfl⟩
        rw [hx'] at hr hX;rw [hy'] at hr2 hY;have HX:=Lib.hid hX;have HY:=Lib.hid hY;clear hX hY;have HX':=Lib.hid hx';have HY':=Lib.hid hy';clear hx' hy';go_upto_region 6 with fail
        refine wp_region_lex (Bel wr) false (by kernel_rfl) (by kernel_rfl) (by kernel_rfl) (bel_drew wr) ?_;have hne:=bel_some wr;have hS:=bel_drew wr;have b1:=sub_row hr;have b2:=sub_row hr2;repeat (refine wpLx_loose ?_ ?_;(focus (simp only [chainOp];done));intro K hK;go_simp;refine hK _ ?_;clear hK K)
        refine wpLx_nil ?_;intro hS;clear hne hS b1 b2 hr hr2;have hb' : Below w.heap.size w wr.drew:=hb.drew;cases hpe : pairEqB x y with
        | true =>
          have e:=(pairEqB_eq x y).1 hpe;have E:=Lib.hid e;clear e;(go_wp2_with fail);go_roundw
          case rel=>exact ⟨k + 1,by omega,by go_num,(show X.take (k + 1) = Y.take (k + 1) by rw [HX.out,HY.out,heq.out,E.out]),hb'⟩
          case measure=>simp [intOf];omega
        | false =>
          have hne : X ≠ Y:=by
            intro e;subst e;have : x = y:=HX'.out.symm.trans HY'.out;rw [(pairEqB_eq x y).2 this] at hpe;cases hpe
          have hd:=Lib.hid (decide_eq_false hne);clear hne;(go_wp2_with fail);go_ret;exact ⟨ret_bool (by rw [hd.out]),hb'⟩
      · have hkn : k = n:=by omega
        have e : X = Y:=by
          have:=heq.out
          rwa [List.take_of_length_le (by rw [Hlx.out];omega),List.take_of_length_le (by rw [Hly.out];omega)] at this
        have E:=Lib.hid (decide_eq_true e);clear e hkn;(go_wp2_with fail);go_ret;exact ⟨ret_bool (by rw [E.out]),hb⟩
  · have hne : X ≠ Y:=by intro e;subst e;exact hnm (hlx.symm.trans hly)
    have hd:=Lib.hid (decide_eq_false hne);have hnm2 : (n == m) = false:=by simpa using hnm
    have hnm3 : ((n : Int) == (m : Int)) = false:=by rw [beq_eq_false_iff_ne];omega
    clear hlx hly hne;go_enter Tryz.func50,Tryz.ntmps50
    (go_wp2_with fail);go_ret;exact ⟨ret_bool (by rw [hd.out]),Below.refl _ _⟩
end
section
open Go.RowKit Go.Sort Go.Shelf
instance : Inhabited Pair:=⟨pair0⟩
@[go_sem ↓] theorem eqPair_run (x y : Pair) (w : World) : (Op.equalIn 10000 98 (.agg (pairC x)) (.agg (pairC y))).run Tryz.prog w = .ok (pairEqB x y) w:=eqPair_in x y w
def cmpPair (x y : Pair) : Int:=orL [cmpS x.key y.key,cmpS x.val y.val]
theorem totPair : TotC cmpPair:=(totS.pair totS).of (fun x : Pair=>(x.key,x.val)) (fun x y h=>by
  cases x;cases y
  simp only [Prod.mk.injEq] at h;obtain ⟨h1,h2⟩:=h;subst h1;subst h2;rfl) (fun x y=>orL2 _ _)
theorem Own.hi_at {P : Program} {T E : TypeId} {k bytes : Nat} (I : ElemInfo P T E k bytes) {w : World} {B g n cap : Nat} {L : List (Array Value)} (h : Own w B E k (some ⟨g,0,none⟩) n cap L) {m : Nat} (hm : m < n) (w0 : World) :
    (slS T (.slice (some ⟨g,0,none⟩) n cap) (some (.int .i64 m)) none none).run P w0 = .ok (.slice (some ⟨g,m * k,none⟩) (n - m) (cap - m)) w0:=by
  have hA:=h.cap_le;rw [run_slS I];unfold Instr.slice Instr.sliceBounds;simp only [Sem.run_bind,run_underlying I.und,Result.andThen_ok,Sem.run_pure,run_bound w0 m n (Nat.le_of_lt hm),I.sizeOf_run w0,Option.isSome_none,Bool.false_eq_true,if_false];rw [if_neg (by omega)];congr 2
  show some ((⟨g,0,none⟩ : Addr).add (m * k)) = _;unfold Addr.add;split <;> simp_all
theorem Own.get {α : Type} [Inhabited α] {enc : α → Array Value} {w : World} {B g n cap k : Nat} {E : TypeId} {d : Array α} (h : Own w B E k (some ⟨g,0,none⟩) n cap (d.toList.map enc)) {j : Nat} (hj : j < n) : rowAt w g (j * k) k = some (enc d[j]!):=by
  have hl : d.size = n:=by simpa using h.len
  obtain ⟨q,o,e,hr⟩:=h.slr.at_ hj;injection e with e;injection e with e1 e2
  subst e1;subst e2;rw [Nat.zero_add] at hr;rw [hr,List.getElem_map,getElem!_pos d j (by omega)]
  simp
set_option maxRecDepth 100000 in
set_option maxHeartbeats 4000000 in
theorem compact_pairs (w : World) (B g n cap : Nat) (R : List Pair) (hown : Own w B 98 2 (some ⟨g,0,none⟩) n cap (R.map pairC)) (hn : n ≤ 1000000) (hs : R.Pairwise (fun x y=>¬ cmpPair y x < 0)) :
    Calls Tryz.prog 131 #[.slice (some ⟨g,0,none⟩) n cap] w fun e w'=>e = .returned (.slice (some ⟨g,0,none⟩) (sortC cmpPair R).length cap) ∧ Own w' B 98 2 (some ⟨g,0,none⟩) (sortC cmpPair R).length cap ((sortC cmpPair R).map pairC) ∧ Keep [g] w w':=by
  have hlen : R.length = n:=by simpa using hown.len
  rw [← compact_sorted totPair R hs];obtain ⟨d,hd⟩ : ∃ d,R.toArray = d:=⟨_,rfl⟩
  have hRd : R = d.toList:=by rw [← hd]
  have hdn : d.size = n:=by rw [← hd];simpa using hlen
  have hcd : Lib.compact R = Lib.compactUpTo d n:=by unfold Lib.compact;rw [hd,hlen]
  rw [hcd];rw [hRd] at hown;have hfin : (∀ j,j < n → Lib.keeps d j = true) → Lib.compactUpTo d n = d.toList:=fun h=>by
    rw [Lib.compactUpTo_all d n h,← hdn];exact Lib.range_map_get d
  have Hdn:=Lib.hid hdn;clear hd hRd hcd hs hlen hdn;have hgl : g < w.heap.size:=(hown.at_base (x:=g) (by simp [blk])).2;go_enter Tryz.func131,Tryz.ntmps131
  by_cases h2 : n < 2
  · have he:=hfin (fun j hj=>by
      have : j = 0:=by
        by_cases h1 : j = 0
        · exact h1
        · have hj1 : j = 1:=by omega
          omega
      subst this;simp [Lib.keeps])
    have He:=Lib.hid he;clear he hfin;(go_wp2_with fail);go_ret;rw [He.out];have hl : d.toList.length = n:=by rw [Array.length_toList];exact Hdn.out
    exact ⟨by rw [hl];rfl,by rw [hl];exact hown,Keep.refl _ _⟩
  · (go_wp2_with fail);go_loopw [3] (fun i wr=>∃ k : Nat,1 ≤ k ∧ k ≤ n ∧ i = .int .i64 k ∧ Hid (∀ j,j < k → Lib.keeps d j = true) ∧ Below w.heap.size w wr) (fun i _=>n - (intOf i).toNat)
    case atStart=>exact ⟨1,Nat.le_refl _,by omega,rfl,(show ∀ j,j < 1 → _ from Lib.keeps_lt_one d),Below.refl _ _⟩
    case round =>
      obtain ⟨k,hk1,hk,rfl,hall,hb⟩:=hrel;have hownr:=hown.below hb;by_cases hlt : k < n
      · have hr1:=hownr.get hlt;have hr2:=hownr.get (j:=k - 1) (by omega);obtain ⟨x,hx⟩ : ∃ x,d[k]! = x:=⟨_,rfl⟩
        obtain ⟨y,hy⟩ : ∃ y,d[k - 1]! = y:=⟨_,rfl⟩
        rw [hx] at hr1;rw [hy] at hr2;obtain ⟨k1,hkk⟩ : ∃ k1,k - 1 = k1:=⟨_,rfl⟩
        have hk1' : ((k : Int) - 1) = (k1 : Int):=by omega
        have hk1n : k1 < n:=by omega
        have hwr : IntKind.i64.wrap (k1 : Int) = (k1 : Int):=IntWalk.i64_in _ (by omega);rw [hkk] at hr2;obtain ⟨eb,heb⟩ : ∃ eb,pairEqB x y = eb:=⟨_,rfl⟩
        have Heb:=Lib.hid heb;have Hx:=Lib.hid hx;have Hy:=Lib.hid hy;have Hkk:=Lib.hid hkk;clear hx hy hkk;go_upto_region 6 with fail
        refine wp_region_lex (Bel wr) false (by kernel_rfl) (by kernel_rfl) (by kernel_rfl) (bel_drew wr) ?_;have hne:=bel_some wr;have hS:=bel_drew wr;have b1:=sub_row hr1;have b2:=sub_row hr2;repeat (refine wpLx_loose ?_ ?_;(focus (simp only [chainOp];done));intro K hK;go_simp;refine hK _ ?_;clear hK K)
        refine wpLx_nil ?_;intro hS;have hb' : Below w.heap.size w wr.drew:=hb.drew;have hown' : Own wr.drew B 98 2 (some ⟨g,0,none⟩) n cap (d.toList.map pairC):=hownr.kept (Keep.drew wr) (by simp);clear hne hS b1 b2 hr1 hr2 heb hb hownr;obtain ⟨W,hW⟩ : ∃ W,wr.drew = W:=⟨_,rfl⟩
        rw [hW] at hb' hown' ⊢;clear hW;cases eb with
        | false =>
          have hne : d[k]! ≠ d[k - 1]!:=by
            rw [Hx.out,Hy.out];intro e;have:=(pairEqB_eq x y).2 e;rw [Heb.out] at this;cases this
          have hkp:=Lib.keeps_pos hne;have Hkp:=Lib.hid hkp;clear hne hkp;(go_wp2_with fail);go_roundw
          case rel=>exact ⟨k + 1,by omega,by omega,by go_num,(show ∀ j,j < k + 1 → Lib.keeps d j = true from fun j hj=>by
            by_cases e : j = k
            · rw [e];exact Hkp.out
            · exact hall.out j (by omega)),hb'⟩
          case measure=>simp [intOf];omega
        | true =>
          have heq : d[k]! = d[k - 1]!:=by rw [Hx.out,Hy.out];exact (pairEqB_eq x y).1 Heb.out
          have hinv:=Lib.CompInv.start hall.out (Lib.keeps_neg (by omega) heq);have Hinv:=Lib.hid hinv;have hsl:=fun w0=>hown'.hi_at (P:=Tryz.prog) einfoPair hlt w0;clear heq hinv;(go_wp2_with fail);go_loopw [3,5] (fun kv iv ws=>∃ (k2 kk : Nat) (dk : Array Pair),1 ≤ k2 ∧ k2 ≤ n - k ∧ iv = .int .i64 k2 ∧ kv = .int .i64 kk ∧ Hid (Lib.CompInv d (k + k2) kk dk) ∧ Own ws B 98 2 (some ⟨g,0,none⟩) n cap (dk.toList.map pairC) ∧ Keep [g] w ws ∧ kk < k + k2) (fun _ iv _=>(n - k) - (intOf iv).toNat)
          case atStart=>exact ⟨1,k,d,Nat.le_refl _,by omega,rfl,rfl,Hinv,hown',(Keep.of_below hb').mono (by simp),by omega⟩
          case round =>
            obtain ⟨k2,kk,dk,hk21,hk2n,rfl,rfl,hinv,hownk,hkw,hkk2⟩:=hrel;by_cases hlt2 : k2 < n - k
            · have hdk : dk.size = n:=by simpa using hownk.len
              have hr1:=hownk.get (j:=k + k2) (by omega);have hr2:=hownk.get (j:=k + k2 - 1) (by omega);obtain ⟨x2,hx2⟩ : ∃ x2,dk[k + k2]! = x2:=⟨_,rfl⟩
              obtain ⟨y2,hy2⟩ : ∃ y2,dk[k + k2 - 1]! = y2:=⟨_,rfl⟩
              have hdx : d[k + k2]! = x2:=by rw [← hx2];exact (hinv.out.high _ (by omega)).symm
              have hdy : d[k + k2 - 1]! = y2:=by rw [← hy2];exact (hinv.out.high _ (by omega)).symm
              rw [hx2] at hr1;rw [hy2] at hr2;obtain ⟨j1,hj1⟩ : ∃ j1,k2 - 1 = j1:=⟨_,rfl⟩
              have hj1' : ((k2 : Int) - 1) = (j1 : Int):=by omega
              have hj1n : j1 < n - k:=by omega
              have hwr1 : IntKind.i64.wrap (j1 : Int) = (j1 : Int):=IntWalk.i64_in _ (by omega);rw [show k + k2 - 1 = k + j1 by omega,Nat.add_mul] at hr2;rw [Nat.add_mul] at hr1;obtain ⟨nb,hnb⟩ : ∃ nb,pairEqB x2 y2 = nb:=⟨_,rfl⟩
              have Hnb:=Lib.hid hnb;have Hdx:=Lib.hid hdx;have Hdy:=Lib.hid hdy;have Hj1:=Lib.hid hj1;have Hdk:=Lib.hid hdk;clear hx2 hy2 hj1 hdx hdy hdk;go_upto_region 11 with fail
              refine wp_region_lex (Bel wr) false (by kernel_rfl) (by kernel_rfl) (by kernel_rfl) (bel_drew wr) ?_;have hne:=bel_some wr;have hS:=bel_drew wr;have b1:=sub_row hr1;have b2:=sub_row hr2;repeat (refine wpLx_loose ?_ ?_;(focus (simp only [chainOp];done));intro K hK;go_simp;refine hK _ ?_;clear hK K)
              refine wpLx_nil ?_;intro hS;have hkw' : Keep [g] w wr.drew:=Keep.trans hkw (Keep.drew wr) (by simp);have hownk' : Own wr.drew B 98 2 (some ⟨g,0,none⟩) n cap (dk.toList.map pairC):=hownk.kept (Keep.drew wr) (by simp);have hr1' : rowAt wr.drew g (k * 2 + k2 * 2) 2 = some (pairC x2):=hr1;clear hne hS b1 b2 hr1 hr2 hnb hkw hownk;obtain ⟨W2,hW2⟩ : ∃ W2,wr.drew = W2:=⟨_,rfl⟩
              rw [hW2] at hkw' hownk' hr1' ⊢;clear hW2;cases nb with
              | true =>
                have heq : d[k + k2]! = d[k + k2 - 1]!:=by rw [Hdx.out,Hdy.out];exact (pairEqB_eq x2 y2).1 Hnb.out
                have hsk:=hinv.out.skip (Lib.keeps_neg (by omega) heq);have Hsk:=Lib.hid hsk;clear heq hsk;(go_wp2_with fail);go_roundw
                case rel=>exact ⟨k2 + 1,kk,dk,by omega,by omega,by go_num,rfl,(show Lib.CompInv d (k + (k2 + 1)) kk dk from Hsk.out),hownk',hkw',by omega⟩
                case measure=>simp [intOf];omega
              | false =>
                have hneq : d[k + k2]! ≠ d[k + k2 - 1]!:=by
                  rw [Hdx.out,Hdy.out];intro e;have:=(pairEqB_eq x2 y2).2 e;rw [Hnb.out] at this;cases this
                have hkp:=hinv.out.keep (by rw [Hdn.out];omega) (Lib.keeps_pos hneq);rw [Hdx.out] at hkp;have Hkp:=Lib.hid hkp;clear hneq hkp;obtain ⟨w7,hst,hown7,hk7⟩:=own_store einfoPair hownk' (i:=kk) (by omega) (cs:=pairC x2) (by simp) (pairC_one x2);have hl7 : (dk.toList.map pairC).set kk (pairC x2) = (dk.setIfInBounds kk x2).toList.map pairC:=by
                  rw [Array.toList_setIfInBounds,List.map_set]
                rw [hl7] at hown7;have hkw7:=Keep.trans hkw' hk7 (fun x hx=>.inl hx);have hkn : kk < n:=by omega
                clear hl7 hk7 hownk';(go_wp2_with fail);go_roundw
                case rel=>exact ⟨k2 + 1,kk + 1,_,by omega,by omega,by go_num,by go_num,(show Lib.CompInv d (k + (k2 + 1)) (kk + 1) _ from Hkp.out),hown7,hkw7,by omega⟩
                case measure=>simp [intOf];omega
            · have hm : k + k2 = n:=by omega
              have hinv':=hinv.out;rw [hm] at hinv';have hkn : kk < n:=by have:=hinv'.lt;omega
              have hdk : dk.size = n:=by simpa using hownk.len
              have hcu : dk.toList.take kk = Lib.compactUpTo d n:=by
                apply List.ext_getElem?;intro j;by_cases hj : j < kk
                · rw [hinv'.low j hj,List.getElem?_take,if_pos hj,Array.getElem?_toList,getElem!_pos dk j (by omega),Array.getElem?_eq_getElem (by omega)]
                · rw [List.getElem?_eq_none (by simp;omega),List.getElem?_eq_none (by rw [hinv'.len];omega)]
              obtain ⟨A2,c2,hsl2,w8,hclr,hown8,hk8⟩:=own_clear einfoPair (z:=.agg (pairC pair0)) (by kernel_rfl) (pairC_one pair0) hownk (m:=kk) (by omega) 0;rw [← List.map_take,hcu] at hown8;have hlk : (Lib.compactUpTo d n).length = kk:=hinv'.len;have hlo:=fun w0=>SlW.lo (P:=Tryz.prog) einfoPair hownk.slw (m:=kk) (by omega) w0;have hkf:=Keep.trans hkw hk8 (fun x hx=>.inl hx);have Hlk:=Lib.hid hlk;have Hown8:=Lib.hid hown8;clear hcu hinv' hlk hown8 hdk hm hk8 hownk;(go_wp2_with fail);go_ret;exact ⟨by rw [Hlk.out];rfl,by rw [Hlk.out];exact Hown8.out,hkf⟩
      · have he:=hfin (fun j hj=>hall.out j (by omega));have He:=Lib.hid he;clear he hfin;(go_wp2_with fail);go_ret;rw [He.out];have hl : d.toList.length = n:=by rw [Array.length_toList];exact Hdn.out
        exact ⟨by rw [hl];rfl,by rw [hl];exact hownr,(Keep.of_below hb).mono (by simp)⟩
end
section
open Go.RowKit Go.Sort Go.Shelf
def psort (S : List Pair) : List Pair:=S.mergeSort fun x y=>!(ltOf cmpPair y x)
theorem psort_le (S : List Pair) : (psort S).Pairwise (fun x y=>¬ cmpPair y x < 0):=by
  have htot : ∀ a b : Pair,((!ltOf cmpPair b a) || !ltOf cmpPair a b) = true:=fun a b=>by
    unfold ltOf;by_cases h1 : cmpPair b a < 0
    · have:=totPair.asym h1;simp [this]
    · simp [h1]
  have htr : ∀ a b d : Pair,(!ltOf cmpPair b a) = true → (!ltOf cmpPair d b) = true → (!ltOf cmpPair d a) = true:=fun a b d h1 h2=>by
    unfold ltOf at *;simp only [Bool.not_eq_true',decide_eq_false_iff_not] at h1 h2 ⊢;intro h3;exact h2 (totPair.le_trans (a:=d) (b:=a) (d:=b) (totPair.asym h3) (by
      by_cases e : a = b
      · subst e;exact absurd h3 h2
      · exact totPair.flip h1 (fun e'=>e e'.symm)))
  exact List.Pairwise.imp (fun {a b} h=>by simpa [ltOf] using h) (List.pairwise_mergeSort htr htot S)
theorem psort_perm (S : List Pair) : (psort S).Perm S:=List.mergeSort_perm _ _
theorem isAggPair (w : World) : (isAgg 98).run Tryz.prog w = .ok true w:=by simp [isAgg,run_underlying Tryz.underlying98]
theorem size_pairs (w : World) : (Go.sizeOf 98).run Tryz.prog w = .ok 2 w:=by
  have h:=infoPair;cases hi : Tryz.prog.info? 98 with
  | none=>rw [hi] at h;cases h
  | some i =>
    rw [hi] at h;have hk : i.size = 2:=by simpa using h
    simp [Go.sizeOf,typeInfo,hi,hk]
set_option maxHeartbeats 1000000 in
theorem mpcmp (x y : Pair) (w : World) : Calls Tryz.prog 129 #[.agg (pairC x),.agg (pairC y)] w fun e w'=>e = .returned (.int .i64 (cmpPair x y)) ∧ Gr w w':=by
  go_enter Tryz.func129,Tryz.ntmps129
  go_upto_region 1 with fail
  obtain ⟨W,hW⟩ : ∃ W,W = (w.alloc (.cells (pairC x) 98)).alloc (.cells (pairC y) 98):=⟨_,rfl⟩
  have hB : Gr w W:=by rw [hW];exact ((Gr.refl _).alloc _).alloc _
  have a3 : W.cell? ⟨w.heap.size,0,none⟩ = some (.string x.key):=by rw [hW];simp [go_sem]
  have a4 : W.cell? ⟨w.heap.size + 1,0,none⟩ = some (.string y.key):=by rw [hW];simp [go_sem]
  have a5 : W.cell? ⟨w.heap.size,1,none⟩ = some (.string x.val):=by rw [hW];simp [go_sem]
  have a6 : W.cell? ⟨w.heap.size + 1,1,none⟩ = some (.string y.val):=by rw [hW];simp [go_sem]
  rw [← hW];clear hW;refine wp_region_lex (Gr W) false (by kernel_rfl) (by kernel_rfl) (by kernel_rfl) (Gr.drew W) ?_;have hne:=gr_some W;have hS:=Gr.drew W;have b3:=gsub_cell a3;have b4:=gsub_cell a4;have b5:=gsub_cell a5;have b6:=gsub_cell a6;repeat (refine wpLx_loose ?_ ?_;(focus (simp only [chainOp];done));intro K hK;go_simp;refine hK _ ?_;clear hK K)
  refine wpLx_chain ?_ ?_ ?_;(focus (exact hS));(focus (simp only [chainOp];done));intro K hK;go_simp;refine (cmp_str _ _ _).mono ?_;rintro e w' ⟨rfl,rfl⟩;refine ⟨_,rfl,hS,hK _ _ ?_⟩;clear hK K;repeat (refine wpLx_loose ?_ ?_;(focus (simp only [chainOp];done));intro K hK;go_simp;refine hK _ ?_;clear hK K)
  refine wpLx_chain ?_ ?_ ?_;(focus (exact hS));(focus (simp only [chainOp];done));intro K hK;go_simp;refine (cmp_str _ _ _).mono ?_;rintro e w' ⟨rfl,rfl⟩;refine ⟨_,rfl,hS,hK _ _ ?_⟩;clear hK K;refine wpLx_chain ?_ ?_ ?_;(focus (exact hS));(focus (simp only [chainOp];done));intro K hK;go_simp;refine step_keep (Gr.alloc hS _) (fun hS=>?_);refine hK _ _ ?_;clear hK K;refine wpLx_chain ?_ ?_ ?_;(focus (exact hS));(focus (simp only [chainOp];done));intro K hK;go_simp;refine (or_any W.heap.size 2 [cmpS x.key y.key,cmpS x.val y.val] (by simp) (W.alloc (.cells #[.int .i64 (cmpS x.key y.key),.int .i64 (cmpS x.val y.val)] 3)).drew (or2_cells W _ _)).mono ?_;rintro e w' ⟨rfl,rfl⟩;refine ⟨_,rfl,hS,hK _ _ ?_⟩;clear hK K;repeat (refine wpLx_loose ?_ ?_;(focus (simp only [chainOp];done));intro K hK;go_simp;refine hK _ ?_;clear hK K)
  refine wpLx_nil ?_;intro hS;(go_wp2_with fail);go_ret;exact ⟨rfl,hB.trans hS⟩
theorem sort_pairs (w : World) (B : Nat) (A : Option Addr) (n cap : Nat) (S : List Pair) (hown : Own w B 98 2 A n cap (S.map pairC)) (hn : S.length ≤ 1000000) :
    Calls Tryz.prog 128 #[.slice A n cap,.func (.func 129) #[] #[]] w fun e w'=>e = .returned (.tuple #[]) ∧ Own w' B 98 2 A n cap ((psort S).map pairC) ∧ Keep (blk A) w w':=by
  have hl : S.length = n:=by simpa using hown.len
  rcases hown.addr with rfl | ⟨g,rfl⟩
  · have hn0 : n = 0:=(hown.cap_le.2 rfl).1;subst hn0;have hS : S = []:=List.eq_nil_of_length_eq_zero hl;subst hS;refine (AnyF.slices_SortFunc_none Tryz.laySortPair none cap (.func (.func 129) #[] #[]) w).mono ?_;rintro e w' ⟨rfl,rfl⟩;exact ⟨rfl,by simpa [psort] using hown,Keep.refl _ _⟩
  · subst hl;have hH:=own_holds (enc:=pairC) (by omega) pairC_size hown;have hcmp : CmpLays Tryz.prog 129 #[] (fun x : Pair=>(pairC x).toList) 2 cmpPair g 0 S.toArray.size w:=fun m os dk _ x y=>mpcmp x y _;have hgl : g < w.heap.size:=(hown.at_base (x:=g) (by simp [blk])).2;have hcon:=AnyQ.slices_SortFunc_total Tryz.laySortPair 2 isAggPair size_pairs (fun x : Pair=>(pairC x).toList) (by simp) (fun x v hv=>pairC_one x v hv) cmpPair (swo_of totPair) 129 #[] g 0 cap S.toArray w
      (enters_of Tryz.func129 (by kernel_rfl) rfl) hcmp hH hgl (by simp;omega) (fun x y h1 h2=>by
        simp only [ltOf,decide_eq_false_iff_not] at h1 h2;exact Classical.byContradiction fun e=>h2 (totPair.flip h1 e))
    have e1 : S.toArray.size = S.length:=by simp
    rw [e1] at hcon;refine hcon.mono ?_;rintro e w' ⟨rfl,n,os,rfl⟩;have e2 : (S.toArray.toList.mergeSort fun x y=>!(ltOf cmpPair y x)) = psort S:=rfl;rw [e2];obtain ⟨h1,h2⟩:=own_sorted (enc:=pairC) (by omega) pairC_size hown n (psort S) (psort_perm S).length_eq os;exact ⟨rfl,h1,h2.mono (by simp [blk])⟩
theorem compact_nil (w : World) (cap : Nat) : Calls Tryz.prog 131 #[.slice none 0 cap] w fun e w'=>e = .returned (.slice none 0 cap) ∧ w = w':=by
  go_enter Tryz.func131,Tryz.ntmps131
  (go_wp2_with fail);go_ret;exact ⟨rfl,rfl⟩
def mpair (x : MRow) : Pair:=⟨x.key,x.val⟩
def listM (X : List MRow) : List Pair:=sortC cmpPair (X.map mpair)
theorem listM_len (X : List MRow) : (listM X).length ≤ X.length:=by have:=sortC_length (c:=cmpPair) (X.map mpair);simpa [listM] using this
set_option maxRecDepth 100000 in
set_option maxHeartbeats 1000000 in
theorem mlist (w : World) (g bl bo : Nat) (X : List MRow) (O : List Id32) (h : MultiAt w g bl bo X O) (hn : X.length ≤ 1000000) :
    Calls Tryz.prog 60 #[.pointer (some ⟨g,0,none⟩)] w fun e w'=>∃ A cap,e = .returned (.slice A (listM X).length cap) ∧ Own w' w.heap.size 98 2 A (listM X).length cap ((listM X).map pairC) ∧ Below w.heap.size w w':=by
  have c1:=msorted w g bl bo X O h hn;go_enter Tryz.func60,Tryz.ntmps60
  (go_wp2_with fail);refine c1.mono ?_;rintro e w1 ⟨RA,rc,rfl,hrow,hb⟩;have hsl:=hrow.slr;have haddr:=hrow.addr;clear hrow c1 h;(go_wp2_with fail);go_loopw [3,9] (fun out i wr=>∃ (k : Nat) (A : Option Addr) (cap : Nat),k ≤ X.length ∧ i = .int .i64 k ∧ out = .slice A k cap ∧ Own wr w1.heap.size 98 2 A k cap (((X.take k).map mpair).map pairC) ∧ Below w1.heap.size w1 wr) (fun _ i _=>X.length - (intOf i).toNat)
  case atStart=>exact ⟨0,none,0,Nat.zero_le _,rfl,rfl,Own.nil _ _ _ _,Below.refl _ _⟩
  case round =>
    obtain ⟨k,A,cap,hk,rfl,rfl,hown,hbr⟩:=hrel;by_cases hlt : k < X.length
    · obtain ⟨q,o,rfl,hr⟩:=(hsl.below hbr).at_ hlt;obtain rfl : o = 0:=by
        rcases haddr with e | ⟨g',e⟩
        · cases e
        · injection e with e;injection e
      rw [Nat.zero_add,List.getElem_map] at hr;have htk : ((X.take (k + 1)).map mpair).map pairC = ((X.take k).map mpair).map pairC ++ [pairC (mpair (X[k]'hlt))]:=by rw [List.take_add_one,List.getElem?_eq_getElem hlt,Option.toList_some,List.map_append,List.map_append];rfl
      obtain ⟨x,hx⟩ : ∃ x,X[k]'hlt = x:=⟨_,rfl⟩
      rw [hx] at hr htk;have Htk:=Lib.hid htk;clear hx htk;have hszr:=hbr.size;have hby : Below wr.heap.size wr ((wr.alloc (.cells (mRowC x) 184)).alloc (.cells (pairC ⟨x.key,x.val⟩) 98)):=((Below.refl _ _).alloc (Nat.le_refl _) _).alloc (by simp) _;have hown2:=hown.below hby;have hrow2 : rowAt ((wr.alloc (.cells (mRowC x) 184)).alloc (.cells (pairC ⟨x.key,x.val⟩) 98)) (wr.heap.size + 1) 0 2 = some (pairC ⟨x.key,x.val⟩):=by simp [go_sem]
      go_wp2_with (at_builtin;refine L_append einfoPair rfl hown2 rfl hrow2 (pairC_one _) (by omega) (by omega) (by simp;omega) ?_;intro A' cap' w2 hownA hkA hsubA)
      have hbA : Below w1.heap.size w1 w2:=hbr.trans ((hby.mono hszr).trans (hkA.below (B:=w1.heap.size) (by simp;omega) fun y hy=>(hown.at_base hy).1));(go_wp2_with fail);go_roundw
      case rel=>exact ⟨k + 1,A',cap',by omega,by go_num,rfl,by rw [Htk.out];exact hownA,hbA⟩
      case measure=>simp [intOf];omega
    · have e : X.take k = X:=List.take_of_length_le (by omega);have hkX : k = X.length:=by omega
      rw [e] at hown;obtain ⟨S,hS⟩ : ∃ S,X.map mpair = S:=⟨_,rfl⟩
      have hSl : S.length = k:=by rw [← hS];simp [hkX]
      have hlist : listM X = sortC cmpPair (psort S):=by unfold listM;rw [hS];exact sortC_congr totPair fun z=>(psort_perm S).mem_iff.symm
      rw [hS] at hown;have Hlist:=Lib.hid hlist;have cs:=sort_pairs wr w1.heap.size A k cap S hown (by omega);have HkX:=Lib.hid hkX;have hkn : k ≤ 1000000:=by omega
      clear hS hlist e hkX;(go_wp2_with fail);refine cs.mono ?_;rintro e w2 ⟨rfl,hown2,hk2⟩;have hb2 : Below w1.heap.size w1 w2:=hbr.trans (hk2.below (B:=w1.heap.size) hbr.size fun x hx=>(hown.at_base hx).1);have hb02:=bel2 hb hb2;have hszb:=hb.size;clear cs hk2 hb2 hbr;rcases hown2.addr with rfl | ⟨q,rfl⟩
      · have hk0 : k = 0:=(hown2.cap_le.2 rfl).1;have hc0 : cap = 0:=(hown2.cap_le.2 rfl).2;have hS0 : S = []:=List.eq_nil_of_length_eq_zero (hSl.trans hk0);subst hS0;have hl0 : listM X = []:=by rw [Hlist.out];simp [psort,sortC]
        have Hl0:=Lib.hid hl0;subst hk0;clear hl0 hSl hc0;have cn:=compact_nil w2 cap;(go_wp2_with fail);refine cn.mono ?_;rintro e w3 ⟨rfl,rfl⟩;(go_wp2_with fail);go_ret;exact ⟨none,cap,by rw [Hl0.out];rfl,by rw [Hl0.out];have:=hown2.mono hszb;simpa [psort] using this,hb02⟩
      · have cc:=compact_pairs w2 w1.heap.size q k cap (psort S) hown2 (by omega) (psort_le S);(go_wp2_with fail);refine cc.mono ?_;rintro e w3 ⟨rfl,hown3,hk3⟩;have hb3:=hb02.trans (hk3.below (B:=w.heap.size) hb02.size (by have:=(hown2.at_base (x:=q) (by simp [blk])).1;simp;omega));rw [← Hlist.out] at hown3 ⊢;have Hown3:=Lib.hid (hown3.mono (B':=w.heap.size) hszb);clear cc hk3 hown2 hown hown3 hb02;(go_wp2_with fail);go_ret;exact ⟨_,cap,rfl,Hown3.out,hb3⟩
end
section
open Go.RowKit
theorem cell0_of (w : World) (g : Nat) (v : Value) (t : TypeId) (h : w.heap[g]? = some (.cells #[v] t (0,0))) : w.cell? ⟨g,0,none⟩ = some v:=by rw [cell_of_row w g 0 _ _ _ h];rfl
theorem frozen_of (w : World) (g j : Nat) (cs : Array Value) (t : TypeId) (h : w.heap[g]? = some (.cells cs t (0,0))) : w.frozen? ⟨g,j,none⟩ = false:=by simp [World.frozen?,h]
structure DownAt (w0 : World) (gs go gd B : Nat) (g : Nat) (w : World) (P : List NodeV) (A : Option Addr) (cap : Nat) : Prop where
  bel : Below w0.heap.size w0 w
  hgs : w.heap[gs]? = some (.cells #[.pointer (some ⟨g,0,none⟩)] 106 (0,0))
  hgo : w.heap[go]? = some (.cells #[.slice A P.length cap] 50 (0,0))
  hgd : w.heap[gd]? = some (.cells #[.func (.func 204) #[] #[.pointer (some ⟨gs,0,none⟩),.pointer (some ⟨go,0,none⟩),.pointer (some ⟨gd,0,none⟩)]] 214 (0,0))
  own : Own w B 39 32 A P.length cap ((P.map NodeV.id).map idC)
  B : B ≤ w.heap.size
set_option maxRecDepth 100000 in
set_option maxHeartbeats 4000000 in
theorem sqdown (w0 : World) (M : List Nat) (g bn bb bg : Nat) (N : List NodeV) (G : List Id32) (h : SeqAt w0 M g bn bb bg N G) (hN : N.length ≤ 100000) (gs go gd B : Nat) (h1 : w0.heap.size ≤ gs) (h2 : w0.heap.size ≤ go) (h3 : w0.heap.size ≤ gd) (n1 : gs ≠ go) (n2 : gd ≠ go) (b1 : gs < B) (b2 : go < B) (b3 : gd < B) :
    ∀ (k : Nat) (r : Id32) (P : List NodeV) (A : Option Addr) (cap : Nat) (w : World),Deep (kids N) NodeV.id k r → DownAt w0 gs go gd B g w P A cap → P.length + (preD (kids N) NodeV.id k r).length ≤ 1000000 →
    Calls Tryz.prog 204 #[.agg (idC r),.pointer (some ⟨gs,0,none⟩),.pointer (some ⟨go,0,none⟩),.pointer (some ⟨gd,0,none⟩)] w fun e w'=>e = .returned (.tuple #[]) ∧ ∃ A' cap',DownAt w0 gs go gd B g w' (P ++ preD (kids N) NodeV.id k r) A' cap':=by
  intro k;induction k with
  | zero=>intro r P A cap w hd;exact hd.elim
  | succ k ih =>
    intro r P A cap w hd hD hlen;obtain ⟨BM,es',clk',hb,hsl,hno⟩:=h.behind;obtain ⟨⟨As,sn,sc⟩,hsw,hsM,hlook⟩:=blook hb hsl hno r;dsimp only at hsw hsM hlook;have hdk : ∀ c ∈ kids N r,Deep (kids N) NodeV.id k c.id:=hd;have hpre : preD (kids N) NodeV.id (k + 1) r = (kids N r).flatMap fun c=>c :: preD (kids N) NodeV.id k c.id:=rfl;have hkl:=kids_length N r;obtain ⟨K,hK⟩ : ∃ K,kids N r = K:=⟨_,rfl⟩
    rw [hK] at hsw hdk hpre hkl;rw [hpre] at hlen ⊢;have hlK : K.length = sn:=by have:=hsw.len;simpa using this
    have hsnb : sn ≤ 100000:=by omega
    have HlK:=Lib.hid hlK;have Hdk:=Lib.hid hdk;clear hd hdk hpre hK hlK hkl;obtain ⟨f,hf⟩ : ∃ f : NodeV → List NodeV,(fun c=>c :: preD (kids N) NodeV.id k c.id) = f:=⟨_,rfl⟩
    have hfc : ∀ c,f c = c :: preD (kids N) NodeV.id k c.id:=fun c=>(by rw [← hf]);rw [hf] at hlen ⊢;have Hfc:=Lib.hid hfc;have Hlen:=Lib.hid hlen;clear hf hfc hlen;have hBw : Below w.heap.size w (w.alloc (.cells (idC r) 39)):=(Below.refl _ _).alloc (Nat.le_refl _) _;have hr0 : rowAt (w.alloc (.cells (idC r) 39)) w.heap.size 0 32 = some (idC r):=by simp [go_sem]
    have hD1 : DownAt w0 gs go gd B g (w.alloc (.cells (idC r) 39)) P A cap:=by
      have hB:=hD.B;have hs:=hBw.size;exact ⟨bel2 hD.bel hBw,(hBw.block gs (by omega)).trans hD.hgs,(hBw.block go (by omega)).trans hD.hgo,(hBw.block gd (by omega)).trans hD.hgd,hD.own.below hBw,by omega⟩
    go_enter Tryz.func204,Tryz.ntmps204
    go_upto_region 1 with fail
    obtain ⟨W,hW⟩ : ∃ W,W = w.alloc (.cells (idC r) 39):=⟨_,rfl⟩
    obtain ⟨ga,hga⟩ : ∃ ga,w.heap.size = ga:=⟨_,rfl⟩
    rw [hga] at hr0 ⊢;rw [← hW] at hD1 hr0 ⊢;clear hW hga hD hBw;have hcs : W.cell? ⟨gs,0,none⟩ = some (.pointer (some ⟨g,0,none⟩)):=by rw [cell_of_row W gs 0 _ _ _ hD1.hgs];rfl
    have hc1 : W.cell? ⟨g,1,none⟩ = some (.map (some bb)):=(hD1.bel.cell (p:=⟨g,1,none⟩) h.ltg).trans h.cell1;have hk : ∀ x : Subtype (Bel W),(Instr.lookup 189 (.map (some bb)) (.agg (idC r)) false).run Tryz.prog x.1 = .ok (.slice As sn sc) x.1:=fun x=>hlook x.1 ((hb.kept (Keep.of_below hD1.bel) (by simp)).kept (Keep.of_below x.2) (by simp));refine wp_region_lex (Bel W) false (by kernel_rfl) (by kernel_rfl) (by kernel_rfl) (bel_drew W) ?_;have hne:=bel_some W;have hS:=bel_drew W;have b1:=sub_cell hcs;have b2:=sub_cell hc1;have b3:=sub_row hr0;repeat (refine wpLx_loose ?_ ?_;(focus (simp only [chainOp];done));intro K hK;go_simp;refine hK _ ?_;clear hK K)
    refine wpLx_nil ?_;intro hS;have hD2 : DownAt w0 gs go gd B g W.drew P A cap:=⟨hD1.bel.drew,hD1.hgs,hD1.hgo,hD1.hgd,hD1.own.kept (Keep.drew W) (by simp),hD1.B⟩
    clear b1 b2 b3 hne hS hk hcs hc1 hr0 hD1 hlook hb hsl hno;obtain ⟨W1,hW1⟩ : ∃ W1,W.drew = W1:=⟨_,rfl⟩
    rw [hW1] at hD2 ⊢;clear hW1 hS;(go_wp2_with fail);go_loopw [14] (fun iv wr=>∃ (i : Nat) (A' : Option Addr) (cap' : Nat),i ≤ sn ∧ iv = .int .i64 i ∧ DownAt w0 gs go gd B g wr (P ++ (K.take i).flatMap f) A' cap') (fun iv _=>sn - (intOf iv).toNat)
    case atStart=>exact ⟨0,A,cap,Nat.zero_le _,rfl,by simpa using hD2⟩
    case round =>
      obtain ⟨i,A',cap',hi,rfl,hDr⟩:=hrel;by_cases hlt : i < sn
      · obtain ⟨q,o,rfl,hrO⟩:=(hsw.below hDr.bel).rd.at_ hlt;rw [List.getElem_map,List.getElem_map] at hrO;have hmem : K[i]'(by rw [HlK.out];exact hlt) ∈ K:=List.getElem_mem _;have hspl : K.flatMap f = (K.take i).flatMap f ++ f (K[i]'(by rw [HlK.out];exact hlt)) ++ (K.drop (i + 1)).flatMap f:=by
          rw [List.append_assoc,← List.flatMap_cons,← List.drop_eq_getElem_cons (show i < K.length by rw [HlK.out];exact hlt),← List.flatMap_append,List.take_append_drop]
        have htk : (K.take (i + 1)).flatMap f = (K.take i).flatMap f ++ f (K[i]'(by rw [HlK.out];exact hlt)):=by
          rw [List.take_add_one,List.getElem?_eq_getElem (by rw [HlK.out];exact hlt),Option.toList_some,List.flatMap_append];simp
        obtain ⟨c,hc⟩ : ∃ c,K[i]'(by rw [HlK.out];exact hlt) = c:=⟨_,rfl⟩
        rw [hc] at hrO hmem hspl htk;have hdc:=Hdk.out c hmem;have hl2 : (P ++ (K.take i).flatMap f).length + 1 + (preD (kids N) NodeV.id k c.id).length ≤ 1000000:=by
          have:=Hlen.out;rw [hspl,Hfc.out c] at this;simp only [List.length_append,List.length_cons] at this ⊢;omega
        obtain ⟨Q,hQ⟩ : ∃ Q,P ++ (K.take i).flatMap f = Q:=⟨_,rfl⟩
        have hQn : P ++ (K.take (i + 1)).flatMap f = Q ++ [c] ++ preD (kids N) NodeV.id k c.id:=by rw [htk,Hfc.out c,← hQ];simp
        rw [hQ] at hDr hl2;have HQn:=Lib.hid hQn;have Hl2:=Lib.hid hl2;have hlq : Q.length + 1 ≤ 1000000:=by omega
        clear hc hspl htk hQ hQn hmem hl2;have hBr:=hDr.B;have hby : Below wr.heap.size wr ((wr.alloc (.cells (idC c.id) 39)).alloc (.cells (idC c.id) 39)):=((Below.refl _ _).alloc (Nat.le_refl _) _).alloc (by simp) _;have hby1 : Below wr.heap.size wr (wr.alloc (.cells (idC c.id) 39)):=(Below.refl _ _).alloc (Nat.le_refl _) _;have hcg1 : (wr.alloc (.cells (idC c.id) 39)).cell? ⟨go,0,none⟩ = some (.slice A' Q.length cap'):=(hby1.cell (p:=⟨go,0,none⟩) (show go < wr.heap.size by omega)).trans (by rw [cell_of_row wr go 0 _ _ _ hDr.hgo];rfl);have hown2:=hDr.own.below hby;have hrow2 : rowAt ((wr.alloc (.cells (idC c.id) 39)).alloc (.cells (idC c.id) 39)) (wr.heap.size + 1) 0 32 = some (idC c.id):=by simp [go_sem]
        have hgo2:=(hby.block go (by omega)).trans hDr.hgo;have hgoB : go < ((wr.alloc (.cells (idC c.id) 39)).alloc (.cells (idC c.id) 39)).heap.size:=by have:=hby.size;omega
        have hBB : B ≤ ((wr.alloc (.cells (idC c.id) 39)).alloc (.cells (idC c.id) 39)).heap.size:=by have:=hby.size;omega
        have hgoA : go ∉ blk A':=fun hx=>(by have:=(hDr.own.at_base hx).1;omega);go_upto_region 5 with (at_builtin;refine L_append einfoId rfl hown2 rfl hrow2 (idC_one _) (by omega) (by omega) hBB ?_;intro A2 cap2 w2 hownA hkA hsubA;have hgo3:=(hkA.block go hgoB hgoA).trans hgo2;have hcg3:=cell0_of w2 go _ _ hgo3;have hf3:=frozen_of w2 go 0 _ _ hgo3)
        have hb0w : w0.heap.size ≤ wr.heap.size:=hDr.bel.size;have hbz2 : Below w0.heap.size w0 w2:=(bel2 hDr.bel hby).trans (hkA.below (B:=w0.heap.size) (by have:=hby.size;omega) (fun x hx=>by have:=(hDr.own.at_base hx).1;omega));have hks:=Keep.setCell w2 ⟨go,0,none⟩ (.slice A2 (Q.length + 1) cap2);have hbz3 : Below w0.heap.size w0 (w2.setCell ⟨go,0,none⟩ (.slice A2 (Q.length + 1) cap2)):=hbz2.trans (hks.below (B:=w0.heap.size) hbz2.size (by simpa using h2));have hsz2 : wr.heap.size + 2 ≤ w2.heap.size:=by have:=hkA.size;simpa using this
        have hgs3:=(hks.block gs (by omega) (by simpa using n1)).trans ((hkA.block gs (by have:=hby.size;omega) (fun hx=>by have:=(hDr.own.at_base hx).1;omega)).trans ((hby.block gs (by omega)).trans hDr.hgs));have hgd3:=(hks.block gd (by omega) (by simpa using n2)).trans ((hkA.block gd (by have:=hby.size;omega) (fun hx=>by have:=(hDr.own.at_base hx).1;omega)).trans ((hby.block gd (by omega)).trans hDr.hgd));have hgo4 : (w2.setCell ⟨go,0,none⟩ (.slice A2 (Q.length + 1) cap2)).heap[go]? = some (.cells #[.slice A2 (Q.length + 1) cap2] 50 (0,0)):=by rw [heap_setCell_same hgo3];rfl
        have hown4:=hownA.kept hks (fun x hx hm=>by
          have e : x = go:=by simpa using hm
          have:=(hownA.at_base hx).1;omega)
        have hl1 : (Q ++ [c]).length = Q.length + 1:=by simp
        have hD4 : DownAt w0 gs go gd B g (w2.setCell ⟨go,0,none⟩ (.slice A2 (Q.length + 1) cap2)) (Q ++ [c]) A2 cap2 :=
          ⟨hbz3,hgs3,by rw [hl1];exact hgo4,hgd3,by rw [hl1];simpa using hown4,by have:=hks.size;omega⟩
        have hrb : rowAt (w2.setCell ⟨go,0,none⟩ (.slice A2 (Q.length + 1) cap2)) wr.heap.size 0 32 = some (idC c.id):=(hks.row (by omega) (by simp;omega) _ _).trans ((hkA.row (by simp;omega) (fun hx=>by have:=(hDr.own.at_base hx).2;omega) _ _).trans (by simp [go_sem]));have cih:=ih c.id (Q ++ [c]) A2 cap2 _ hdc hD4 (by rw [hl1];exact Hl2.out);have hcd:=cell0_of _ gd _ _ hgd3;have HbA : Hid (B ≤ wr.heap.size):=hBr;clear hbz2 hbz3 hks hgs3 hgd3 hgo4 hown4 hl1 hD4 hgo3 hcg3 hf3 hownA hkA hsubA hown2 hrow2 hgo2 hgoA hgoB hBB hby hby1 hcg1 hrO hDr hBr;obtain ⟨w5,hw5⟩ : ∃ w5,w2.setCell ⟨go,0,none⟩ (.slice A2 (Q.length + 1) cap2) = w5:=⟨_,rfl⟩
        rw [hw5] at hrb cih hcd ⊢;clear hw5;(go_wp2_with fail);refine cih.mono ?_;rintro e w6 ⟨rfl,A6,cap6,hD6⟩;have hD7 : DownAt w0 gs go gd B g w6 (P ++ (K.take (i + 1)).flatMap f) A6 cap6:=by rw [HQn.out];exact hD6
        have HD7:=Lib.hid hD7;clear hD6 hD7 cih hrb hcd;(go_wp2_with fail);go_roundw
        case rel=>exact ⟨i + 1,A6,cap6,by omega,by go_num,HD7.out⟩
        case measure=>simp [intOf];omega
      · have e : i = sn:=by omega
        subst e;rw [List.take_of_length_le (by rw [HlK.out];exact Nat.le_refl _)] at hDr;(go_wp2_with fail);go_end0;exact ⟨rfl,A',cap',hDr⟩
set_option maxRecDepth 100000 in
set_option maxHeartbeats 2000000 in
theorem sqorder (w : World) (M : List Nat) (g bn bb bg : Nat) (N : List NodeV) (G : List Id32) (h : SeqAt w M g bn bb bg N G) (hl : N.length ≤ 100000) :
    Calls Tryz.prog 132 #[.pointer (some ⟨g,0,none⟩)] w fun e w'=>∃ A cap,e = .returned (.slice A (orderN N).length cap) ∧ Own w' w.heap.size 39 32 A (orderN N).length cap (((orderN N).map NodeV.id).map idC) ∧ Below w.heap.size w w':=by
  have hf : Forest N:=⟨h.one,fun a ha=>(nodeE_id (h.ok a ha)).1⟩
  have hb0 : Below w.heap.size w (w.alloc (.cells #[.pointer (some ⟨g,0,none⟩)] 106)):=(Below.refl _ _).alloc (Nat.le_refl _) _;have h0:=h.below hb0;have hsf:=fun (a : Addr) (c : Array Value) (w : World)=>run_store Tryz.prog w a (.func (.func 204) #[] c) .plain rfl;have hB3 : Below w.heap.size w (((w.alloc (.cells #[.pointer (some ⟨g,0,none⟩)] 106)).alloc (.cells #[.slice none 0 0] 50)).alloc (.cells #[.func (.func 204) #[] #[.pointer (some ⟨w.heap.size,0,none⟩),.pointer (some ⟨w.heap.size + 1,0,none⟩),.pointer (some ⟨w.heap.size + 1 + 1,0,none⟩)]] 214)):=(((Below.refl _ _).alloc (Nat.le_refl _) _).alloc (by simp) _).alloc (by simp;omega) _;have hD : DownAt w w.heap.size (w.heap.size + 1) (w.heap.size + 1 + 1) (w.heap.size + 3) g (((w.alloc (.cells #[.pointer (some ⟨g,0,none⟩)] 106)).alloc (.cells #[.slice none 0 0] 50)).alloc (.cells #[.func (.func 204) #[] #[.pointer (some ⟨w.heap.size,0,none⟩),.pointer (some ⟨w.heap.size + 1,0,none⟩),.pointer (some ⟨w.heap.size + 1 + 1,0,none⟩)]] 214)) [] none 0:=by
    refine ⟨hB3,?_,?_,?_,Own.nil _ _ _ _,by simp⟩
    · exact ((Keep.alloc _ _).block _ (by simp;omega) (by simp)).trans (((Keep.alloc _ _).block _ (by simp) (by simp)).trans (heap_alloc_new w _))
    · have e:=heap_alloc_new (w.alloc (.cells #[.pointer (some ⟨g,0,none⟩)] 106 (0,0))) (.cells #[.slice none 0 0] 50 (0,0));have e1 : (w.alloc (.cells #[.pointer (some ⟨g,0,none⟩)] 106 (0,0))).heap.size = w.heap.size + 1:=by simp
      rw [e1] at e;exact ((Keep.alloc _ _).block _ (by simp) (by simp)).trans e
    · have e:=heap_alloc_new ((w.alloc (.cells #[.pointer (some ⟨g,0,none⟩)] 106 (0,0))).alloc (.cells #[.slice none 0 0] 50 (0,0))) (.cells #[.func (.func 204) #[] #[.pointer (some ⟨w.heap.size,0,none⟩),.pointer (some ⟨w.heap.size + 1,0,none⟩),.pointer (some ⟨w.heap.size + 1 + 1,0,none⟩)]] 214 (0,0));have e1 : ((w.alloc (.cells #[.pointer (some ⟨g,0,none⟩)] 106 (0,0))).alloc (.cells #[.slice none 0 0] 50 (0,0))).heap.size = w.heap.size + 1 + 1:=by simp
      rw [e1] at e;exact e
  have hlo:=orderN_length hf;have cd:=sqdown w M g bn bb bg N G h hl w.heap.size (w.heap.size + 1) (w.heap.size + 1 + 1) (w.heap.size + 3) (Nat.le_refl _) (by omega) (by omega) (by omega) (by omega) (by omega) (by omega) (by omega) (N.length + 1) id0 [] none 0 _ hf.deep hD (by show 0 + (orderN N).length ≤ _;omega);have e0 : preD (kids N) NodeV.id (N.length + 1) id0 = orderN N:=rfl;rw [e0] at cd;simp only [List.nil_append] at cd;obtain ⟨P,hP⟩ : ∃ P,orderN N = P:=⟨_,rfl⟩
  rw [hP] at cd ⊢;clear hP hlo hf hD hB3 e0;go_enter Tryz.func132,Tryz.ntmps132
  (go_wp2_with fail);refine (sqnone_live _ g bn h0.cell0).mono ?_;rintro e w1 ⟨rfl,rfl⟩;clear h0 hb0;(go_wp2_with fail);refine cd.mono ?_;rintro e w2 ⟨rfl,A2,cap2,hD2⟩;have hc2:=cell0_of _ _ _ _ hD2.hgo;have hown:=hD2.own.mono (B':=w.heap.size) (by omega);have hbel:=hD2.bel;clear cd hD2 hsf;(go_wp2_with fail);go_ret;exact ⟨A2,cap2,rfl,hown,hbel⟩
def listS (N : List NodeV) (G : List Id32) : List Pair:=(seen N G).map fun v=>⟨⟨#[]⟩,v⟩
theorem listS_len {N : List NodeV} {G : List Id32} (hf : Forest N) : (listS N G).length ≤ N.length:=by
  unfold listS seen;rw [List.length_map,List.length_map];exact Nat.le_trans (List.length_filter_le _ _) (orderN_length hf)
end
section
open Go.RowKit
@[go_sem] theorem buildPair_v (v : ByteArray) (w : World) : (bdS 98 #[(1,.string v)]).run Tryz.prog w = .ok (.agg (pairC ⟨⟨#[]⟩,v⟩)) w:=by kernel_rfl
def pS (T : List NodeV) (G : List Id32) : List Pair:=((T.filter fun n=>decide (n.id ∉ G)).map NodeV.val).map fun v=>⟨⟨#[]⟩,v⟩
theorem pS_snoc (T : List NodeV) (G : List Id32) (c : NodeV) : pS (T ++ [c]) G = if c.id ∈ G then pS T G else pS T G ++ [⟨⟨#[]⟩,c.val⟩]:=by
  unfold pS;rw [List.filter_append];by_cases e : c.id ∈ G <;> simp [e]
theorem pS_len (T : List NodeV) (G : List Id32) : (pS T G).length ≤ T.length:=by
  unfold pS;rw [List.length_map,List.length_map];exact List.length_filter_le _ _
set_option maxRecDepth 100000 in
set_option maxHeartbeats 4000000 in
theorem sqlist (w : World) (M : List Nat) (g bn bb bg : Nat) (N : List NodeV) (G : List Id32) (h : SeqAt w M g bn bb bg N G) (hl : N.length ≤ 100000) :
    Calls Tryz.prog 61 #[.pointer (some ⟨g,0,none⟩)] w fun e w'=>∃ A cap,e = .returned (.slice A (listS N G).length cap) ∧ Own w' w.heap.size 98 2 A (listS N G).length cap ((listS N G).map pairC) ∧ Below w.heap.size w w':=by
  have hf : Forest N:=⟨h.one,fun a ha=>(nodeE_id (h.ok a ha)).1⟩
  have c1:=sqorder w M g bn bb bg N G h hl;have hN:=(orderN_nodup hf).2;have hlo:=orderN_length hf;have hls : listS N G = pS (orderN N) G:=rfl;rw [hls];obtain ⟨L,hL⟩ : ∃ L,orderN N = L:=⟨_,rfl⟩
  rw [hL] at c1 hN hlo ⊢;clear hL hls hf;go_enter Tryz.func61,Tryz.ntmps61
  (go_wp2_with fail);refine c1.mono ?_;rintro e w1 ⟨RA,rc,rfl,hrow,hb⟩;have hsl:=hrow.slr;have haddr:=hrow.addr;clear hrow c1;(go_wp2_with fail);go_loopw [3,9] (fun out i wr=>∃ (k : Nat) (A : Option Addr) (cap : Nat),k ≤ L.length ∧ i = .int .i64 k ∧ out = .slice A (pS (L.take k) G).length cap ∧ Own wr w1.heap.size 98 2 A (pS (L.take k) G).length cap ((pS (L.take k) G).map pairC) ∧ Below w1.heap.size w1 wr) (fun _ i _=>L.length - (intOf i).toNat)
  case atStart=>exact ⟨0,none,0,Nat.zero_le _,rfl,rfl,Own.nil _ _ _ _,Below.refl _ _⟩
  case round =>
    obtain ⟨k,A,cap,hk,rfl,rfl,hown,hbr⟩:=hrel;by_cases hlt : k < L.length
    · obtain ⟨q,o,rfl,hr⟩:=(hsl.below hbr).at_ hlt;obtain rfl : o = 0:=by
        rcases haddr with e | ⟨g',e⟩
        · cases e
        · injection e with e;injection e
      rw [Nat.zero_add,List.getElem_map,List.getElem_map] at hr;have htk : pS (L.take (k + 1)) G = if (L[k]'hlt).id ∈ G then pS (L.take k) G else pS (L.take k) G ++ [⟨⟨#[]⟩,(L[k]'hlt).val⟩]:=by
        rw [List.take_add_one,List.getElem?_eq_getElem hlt,Option.toList_some,pS_snoc]
      have hcN:=hN _ (List.getElem_mem hlt);have hpl : (pS (L.take k) G).length + 1 ≤ 1000000:=by have:=pS_len (L.take k) G;simp at this;omega
      obtain ⟨c,hc⟩ : ∃ c,L[k]'hlt = c:=⟨_,rfl⟩
      rw [hc] at hr htk hcN;obtain ⟨T0,hT0⟩ : ∃ T0,pS (L.take k) G = T0:=⟨_,rfl⟩
      rw [hT0] at htk hpl hown ⊢;have Htk:=Lib.hid htk;clear hc hT0 htk;have hszr:=hbr.size;have hbx : Below wr.heap.size wr (wr.alloc (.cells (idC c.id) 39)):=(Below.refl _ _).alloc (Nat.le_refl _) _;have hbw : Below w.heap.size w (wr.alloc (.cells (idC c.id) 39)):=(bel2 hb hbr).trans (hbx.mono (by have:=hb.size;omega));have hown1:=hown.below hbx;have hb1r : Below w1.heap.size w1 (wr.alloc (.cells (idC c.id) 39)):=hbr.trans (hbx.mono hszr);have hrc : rowAt (wr.alloc (.cells (idC c.id) 39)) wr.heap.size 0 32 = some (idC c.id):=by simp [go_sem]
      have hs1:=h.below hbw;go_upto_region 5 with fail
      obtain ⟨W,hW⟩ : ∃ W,wr.alloc (.cells (idC c.id) 39) = W:=⟨_,rfl⟩
      obtain ⟨gx,hgx⟩ : ∃ gx,wr.heap.size = gx:=⟨_,rfl⟩
      have hgxA : gx ∉ blk A:=fun hx=>(by have:=(hown.at_base hx).2;omega);rw [hgx] at hrc ⊢;rw [hW] at hown1 hb1r hrc hs1 ⊢;have hc2:=hs1.cell2;have hkk : ∀ y : Subtype (Bel W),(Instr.lookup 75 (.map (some bg)) (.agg (idC c.id)) false).run Tryz.prog y.1 = .ok (.bool (decide (c.id ∈ G))) y.1:=fun y=>ilook (hs1.gone.below y.2);obtain ⟨rr,hrr⟩ : ∃ rr,decide (c.id ∈ G) = rr:=⟨_,rfl⟩
      rw [hrr] at hkk;have Hrr:=Lib.hid hrr;clear hW hgx hrr hr hown hbr hbx hbw;refine wp_region_lex (Bel W) false (by kernel_rfl) (by kernel_rfl) (by kernel_rfl) (bel_drew W) ?_;have hne:=bel_some W;have hS:=bel_drew W;have b1:=sub_cell hc2;have b2:=sub_row hrc;repeat (refine wpLx_loose ?_ ?_;(focus (simp only [chainOp];done));intro K hK;go_simp;refine hK _ ?_;clear hK K)
      refine wpLx_nil ?_;intro hS;have hs2:=hs1.below (bel_drew W);have hown2:=hown1.kept (Keep.drew W) (by simp);have hb2r : Below w1.heap.size w1 W.drew:=hb1r.drew;have hrc2 : rowAt W.drew gx 0 32 = some (idC c.id):=hrc;clear b1 b2 hne hS hkk hc2 hrc hs1 hown1 hb1r;obtain ⟨V,hV⟩ : ∃ V,W.drew = V:=⟨_,rfl⟩
      rw [hV] at hs2 hown2 hb2r hrc2 ⊢;clear hV;cases rr with
      | true =>
        have e5:=Htk.out;rw [if_pos (of_decide_eq_true Hrr.out)] at e5;have E5:=Lib.hid e5;clear e5;(go_wp2_with fail);go_roundw
        case rel=>exact ⟨k + 1,A,cap,by omega,by go_num,by rw [E5.out],by rw [E5.out];exact hown2,hb2r⟩
        case measure=>simp [intOf];omega
      | false =>
        have e5:=Htk.out;rw [if_neg (of_decide_eq_false Hrr.out)] at e5;have E5:=Lib.hid e5;clear e5;have hc0:=hs2.cell0;obtain ⟨es,clk,hn⟩:=hs2.nodes;have hgA : g ∉ blk A:=fun hx=>(by have:=(hown2.at_base hx).1;have:=h.ltg;have:=hb.size;omega);have hbnA : bn ∉ blk A:=fun hx=>(by have:=(hown2.at_base hx).1;have:=h.lt.1;have:=hb.size;omega);have hkn : ∀ y : Subtype (Kp (blk A) V),(Instr.lookup 188 (.map (some bn)) (.agg (idC c.id)) false).run Tryz.prog y.1 = .ok (.agg (sNodeC ⟨c.h,c.ref,c.val⟩)) y.1:=fun y=>nlook (hn.kept y.2 hbnA) hcN false;go_upto_region 6 with fail
        refine wp_region_lex (Kp (blk A) V) false (by kernel_rfl) (by kernel_rfl) (by kernel_rfl) (kp_drew (blk A) V) ?_;have hne:=kp_some (blk A) V;have hS:=kp_drew (blk A) V;have b1:=ksub_cell hc0 hgA;have b2:=ksub_row hrc2 (S:=blk A) hgxA;repeat (refine wpLx_loose ?_ ?_;(focus (simp only [chainOp];done));intro K hK;go_simp;refine hK _ ?_;clear hK K)
        refine wpLx_chain ?_ ?_ ?_;(focus (exact hS));(focus (simp only [chainOp];done));intro K hK;go_simp;refine step_keep (Keep.trans (Keep.trans (Keep.refl (blk A) V) (Keep.drew _) (by simp)) (Keep.alloc _ _) (by simp)) (fun hS2=>?_);refine hK _ _ ?_;clear hK K;have hk0 : Keep [] V (V.drew.alloc (.cells (pairC ⟨⟨#[]⟩,c.val⟩) 98)):=Keep.trans (Keep.drew V) (Keep.alloc _ _) (by simp);have hownr:=hown2.kept hk0 (by simp);have hrow2 : rowAt (V.drew.alloc (.cells (pairC ⟨⟨#[]⟩,c.val⟩) 98)) V.heap.size 0 2 = some (pairC ⟨⟨#[]⟩,c.val⟩):=by simp [go_sem]
        have hszV:=hb2r.size;refine Lx_append einfoPair rfl hownr rfl hrow2 (pairC_one _) (by omega) (by omega) (by simp;omega) ?_;intro A3 cap3 w3 hown3 hk3 hsub3;refine step_keep (Keep.trans (hk0.mono (S':=blk A) (by simp)) hk3 (fun x hx=>.inl hx)) (fun hS3=>?_);repeat (refine wpLx_loose ?_ ?_;(focus (simp only [chainOp];done));intro K hK;go_simp;refine hK _ ?_;clear hK K)
        refine wpLx_nil ?_;intro hS;have hb3 : Below w1.heap.size w1 w3:=hb2r.trans ((Keep.trans (hk0.mono (S':=blk A) (by simp)) hk3 (fun x hx=>.inl hx)).below hszV (fun x hx=>(hown2.at_base hx).1));clear hne hS hS2 hS3 b1 b2 hkn;(go_wp2_with fail);go_roundw
        case rel=>exact ⟨k + 1,A3,cap3,by omega,by go_num,by rw [E5.out];simp,by rw [E5.out];simpa using hown3,hb3⟩
        case measure=>simp [intOf];omega
    · have e : L.take k = L:=List.take_of_length_le (by omega);rw [e] at hown ⊢;have Hown:=Lib.hid (hown.mono (B':=w.heap.size) hb.size);have Hb:=Lib.hid (bel2 hb hbr);clear hown e;(go_wp2_with fail);go_ret;exact ⟨A,cap,rfl,Hown.out,Hb.out⟩
end
end Go.Proofs.YtgfpjjppeldhbaaGreatDoor
