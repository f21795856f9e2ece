/- Part 11 of the texts that lead to this claim: the walks of the functions and the plain law, in order. -/
import Derived.Test.YtgfpjjppeldhbaaGreatDoorMt10
import Derived.IntWalk
namespace Go.Proofs.YtgfpjjppeldhbaaGreatDoor
section
open Go.RowKit
theorem onesRow (X : List Row) : ∀ r ∈ X.map rowC,∀ u ∈ r.toList,u.oneCell' = true:=by
  intro r hr;obtain ⟨x,_,rfl⟩:=List.mem_map.1 hr;exact rowC_one x
theorem kp_step {g : Nat} {w W w' : World} (h : Keep [] w W) (k : Keep [g] W w') : Keep [g] w w':=Keep.trans (h.mono (by simp)) k (fun x hx=>.inl hx)
set_option maxRecDepth 100000 in
set_option maxHeartbeats 4000000 in
theorem rvdoes_2 (m : MarkV) (o : OpV) (A : Option Addr) (c : Nat) (w : World) (g : Nat) (t : ByteArray) (I : List Id32) (x : RV) (h : RVAt w g t I x) (hk : o.k = 2) (hkey : o.key.size ≤ 16) (hval : o.val.size ≤ 16) (hrefs : o.refs.length ≤ 8) (hlo : -2147483648 ≤ o.n) (hhi : o.n < 2147483648) (hA : TagsIn w A o.refs.length o.refs) (hgA : g ∉ blk A) (hok : RVOk x) (hl : x.len ≤ 10000) :
    Calls Tryz.prog 73 #[.pointer (some ⟨g,0,none⟩),.agg (markVC m),.agg (opC o A c)] w fun e w'=>e = .returned (.tuple #[]) ∧ RVAt w' g t I (rdoO m o x) ∧ Keep [g] w w':=by
  obtain ⟨k,n,key,val,ref,refs⟩:=o;dsimp only at hk hkey hval hrefs hlo hhi hA;subst hk;obtain ⟨si,sa,sg,sl,sm,so,ss,sd,h⟩:=h;have hbW : Below w.heap.size w ((w.alloc (.cells (markVC m) 41)).alloc (.cells (opPC ⟨(2 : Int),n,key,val,ref,.slice A refs.length c⟩) 52)):=((Below.refl _ _).alloc (Nat.le_refl _) _).alloc (by simp) _;have rm : rowAt ((w.alloc (.cells (markVC m) 41)).alloc (.cells (opPC ⟨(2 : Int),n,key,val,ref,.slice A refs.length c⟩) 52)) w.heap.size 0 34 = some (markVC m):=by simp [go_sem]
  have ro : rowAt ((w.alloc (.cells (markVC m) 41)).alloc (.cells (opPC ⟨(2 : Int),n,key,val,ref,.slice A refs.length c⟩) 52)) (w.heap.size + 1) 0 37 = some (opPC ⟨(2 : Int),n,key,val,ref,.slice A refs.length c⟩):=by simp [go_sem]
  have hgl:=h.lt;have hlens:=h.lens;unfold opC;rw [show ((2 : Nat) : Int) = (2 : Int) from rfl];go_enter Tryz.func73,Tryz.ntmps73
  go_upto_region 1 with fail
  have hW1:=h.below hbW;have hTA : TagsIn ((w.alloc (.cells (markVC m) 41)).alloc (.cells (opPC ⟨(2 : Int),n,key,val,ref,.slice A refs.length c⟩) 52)) A refs.length refs:=SlR.below hA hbW;obtain ⟨gm,hgm⟩ : ∃ gm,w.heap.size = gm:=⟨_,rfl⟩
  obtain ⟨W,hW⟩ : ∃ W,((w.alloc (.cells (markVC m) 41)).alloc (.cells (opPC ⟨(2 : Int),n,key,val,ref,.slice A refs.length c⟩) 52)) = W:=⟨_,rfl⟩
  rw [hW] at hbW rm ro hW1 hTA;rw [hW];have Hgm:=Lib.hid hgm;rw [hgm] at rm ro hgl ⊢;clear hW hgm h hA;have m0 : rowAt W gm 0 32 = some (idC m.id):=by have:=rowAt_sub rm (j:=0) (m:=32) (by omega);rwa [markVC_e0] at this
  have m1 : W.cell? ⟨gm,32,none⟩ = some (.int .i64 m.h):=by have:=rowAt_cell rm (j:=32) (by omega);rwa [markVC_g32,Nat.zero_add] at this
  have o0 : W.cell? ⟨gm + 1,0,none⟩ = some (.int .i64 (2 : Int)):=by have:=rowAt_cell ro (j:=0) (by omega);rwa [opPC_g0] at this
  have o1 : W.cell? ⟨gm + 1,1,none⟩ = some (.int .i64 n):=by have:=rowAt_cell ro (j:=1) (by omega);rwa [opPC_g1] at this
  have o2 : W.cell? ⟨gm + 1,2,none⟩ = some (.string key):=by have:=rowAt_cell ro (j:=2) (by omega);rwa [opPC_g2] at this
  have o3 : W.cell? ⟨gm + 1,3,none⟩ = some (.string val):=by have:=rowAt_cell ro (j:=3) (by omega);rwa [opPC_g3] at this
  have o4 : rowAt W (gm + 1) 4 32 = some (idC ref):=by have:=rowAt_sub ro (j:=4) (m:=32) (by omega);rwa [opPC_e4] at this
  have o5 : W.cell? ⟨gm + 1,36,none⟩ = some (.slice A refs.length c):=by have:=rowAt_cell ro (j:=36) (by omega);rwa [opPC_g36] at this
  have hgW : g < W.heap.size:=hW1.lt;have hgm1 : gm < W.heap.size:=rowAt_lt rm;have hgo1 : gm + 1 < W.heap.size:=rowAt_lt ro;have hbK : Keep [] w W:=Keep.of_below hbW;have HbK:=Lib.hid hbK;clear rm ro hbW hbK;unfold RV.len at hl;obtain ⟨l1,l2,l3,l4,l5,l6,l7⟩:=hlens;have hX:=hW1.below (w':=W.drew) ((Below.refl _ _).drew);have cc:=radd3 m.id val W.drew g _ sa.A sa.n sa.c x.adds hX.hp rfl hX.adds.1.rd hX.adds.1.nil hX.adds.2 hval (by omega);go_upto_region 5 with fail
  refine wp_region_lex (Kp [g] W) false (by kernel_rfl) (by kernel_rfl) (by kernel_rfl) (kp_drew [g] W) ?_;have hne:=kp_some [g] W;have hS:=kp_drew [g] W;have q0:=ksub_row m0 (S:=[g]) (by simp;omega);have q1:=ksub_cell m1 (S:=[g]) (by simp;omega);have p1:=ksub_cell o1 (S:=[g]) (by simp;omega);have p2:=ksub_cell o2 (S:=[g]) (by simp;omega);have p3:=ksub_cell o3 (S:=[g]) (by simp;omega);have p4:=ksub_row o4 (S:=[g]) (by simp;omega);have p5:=ksub_cell o5 (S:=[g]) (by simp;omega);repeat (refine wpLx_loose ?_ ?_;(focus (simp only [chainOp];done));intro K hK;go_simp;refine hK _ ?_;clear hK K)
  refine wpLx_chain ?_ ?_ ?_;(focus (exact hS));(focus (simp only [chainOp];done));intro K hK;go_simp;refine cc.mono ?_;rintro e w3 ⟨A',cap',rfl,hp3,hown3,hk3⟩;have hk30 : Keep [g] W w3:=Keep.trans ((Keep.drew W).mono (by simp)) hk3 (fun x hx=>.inl hx);refine ⟨_,rfl,hk30,hK _ _ ?_⟩;clear hK K;have hfin : RVAt w3 g t I (rdoO m ⟨2,n,key,val,ref,refs⟩ x):=hX.set (sa':=⟨A',sa.n + 1,cap'⟩) hk3 hp3 (fun h=>h.keep hk3) (fun _=>⟨hown3.slw,fun hx=>by have:=(hown3.at_base hx).1;have : W.drew.heap.size = W.heap.size:=rfl;omega⟩) (fun h=>h.keep hk3) (fun h=>h.keep hk3) (fun h=>h.keep hk3) (fun h=>h.keep hk3) (fun h=>h.keep hk3) (fun h=>h.keep hk3);have hkf:=kp_step HbK.out hk30;clear cc hown3 hp3;clear q0 q1 p1 p2 p3 p4 p5;repeat (refine wpLx_loose ?_ ?_;(focus (simp only [chainOp];done));intro K hK;go_simp;refine hK _ ?_;clear hK K)
  refine wpLx_nil ?_;intro hS;clear hne hS;(go_wp2_with fail);go_end0;exact ⟨rfl,hfin,hkf⟩
set_option maxRecDepth 100000 in
set_option maxHeartbeats 4000000 in
theorem rvdoes_1 (m : MarkV) (o : OpV) (A : Option Addr) (c : Nat) (w : World) (g : Nat) (t : ByteArray) (I : List Id32) (x : RV) (h : RVAt w g t I x) (hk : o.k = 1) (hkey : o.key.size ≤ 16) (hval : o.val.size ≤ 16) (hrefs : o.refs.length ≤ 8) (hlo : -2147483648 ≤ o.n) (hhi : o.n < 2147483648) (hA : TagsIn w A o.refs.length o.refs) (hgA : g ∉ blk A) (hok : RVOk x) (hl : x.len ≤ 10000) :
    Calls Tryz.prog 73 #[.pointer (some ⟨g,0,none⟩),.agg (markVC m),.agg (opC o A c)] w fun e w'=>e = .returned (.tuple #[]) ∧ RVAt w' g t I (rdoO m o x) ∧ Keep [g] w w':=by
  obtain ⟨k,n,key,val,ref,refs⟩:=o;dsimp only at hk hkey hval hrefs hlo hhi hA;subst hk;obtain ⟨si,sa,sg,sl,sm,so,ss,sd,h⟩:=h;have hbW : Below w.heap.size w ((w.alloc (.cells (markVC m) 41)).alloc (.cells (opPC ⟨(1 : Int),n,key,val,ref,.slice A refs.length c⟩) 52)):=((Below.refl _ _).alloc (Nat.le_refl _) _).alloc (by simp) _;have rm : rowAt ((w.alloc (.cells (markVC m) 41)).alloc (.cells (opPC ⟨(1 : Int),n,key,val,ref,.slice A refs.length c⟩) 52)) w.heap.size 0 34 = some (markVC m):=by simp [go_sem]
  have ro : rowAt ((w.alloc (.cells (markVC m) 41)).alloc (.cells (opPC ⟨(1 : Int),n,key,val,ref,.slice A refs.length c⟩) 52)) (w.heap.size + 1) 0 37 = some (opPC ⟨(1 : Int),n,key,val,ref,.slice A refs.length c⟩):=by simp [go_sem]
  have hgl:=h.lt;have hlens:=h.lens;unfold opC;rw [show ((1 : Nat) : Int) = (1 : Int) from rfl];go_enter Tryz.func73,Tryz.ntmps73
  go_upto_region 1 with fail
  have hW1:=h.below hbW;have hTA : TagsIn ((w.alloc (.cells (markVC m) 41)).alloc (.cells (opPC ⟨(1 : Int),n,key,val,ref,.slice A refs.length c⟩) 52)) A refs.length refs:=SlR.below hA hbW;obtain ⟨gm,hgm⟩ : ∃ gm,w.heap.size = gm:=⟨_,rfl⟩
  obtain ⟨W,hW⟩ : ∃ W,((w.alloc (.cells (markVC m) 41)).alloc (.cells (opPC ⟨(1 : Int),n,key,val,ref,.slice A refs.length c⟩) 52)) = W:=⟨_,rfl⟩
  rw [hW] at hbW rm ro hW1 hTA;rw [hW];have Hgm:=Lib.hid hgm;rw [hgm] at rm ro hgl ⊢;clear hW hgm h hA;have m0 : rowAt W gm 0 32 = some (idC m.id):=by have:=rowAt_sub rm (j:=0) (m:=32) (by omega);rwa [markVC_e0] at this
  have m1 : W.cell? ⟨gm,32,none⟩ = some (.int .i64 m.h):=by have:=rowAt_cell rm (j:=32) (by omega);rwa [markVC_g32,Nat.zero_add] at this
  have o0 : W.cell? ⟨gm + 1,0,none⟩ = some (.int .i64 (1 : Int)):=by have:=rowAt_cell ro (j:=0) (by omega);rwa [opPC_g0] at this
  have o1 : W.cell? ⟨gm + 1,1,none⟩ = some (.int .i64 n):=by have:=rowAt_cell ro (j:=1) (by omega);rwa [opPC_g1] at this
  have o2 : W.cell? ⟨gm + 1,2,none⟩ = some (.string key):=by have:=rowAt_cell ro (j:=2) (by omega);rwa [opPC_g2] at this
  have o3 : W.cell? ⟨gm + 1,3,none⟩ = some (.string val):=by have:=rowAt_cell ro (j:=3) (by omega);rwa [opPC_g3] at this
  have o4 : rowAt W (gm + 1) 4 32 = some (idC ref):=by have:=rowAt_sub ro (j:=4) (m:=32) (by omega);rwa [opPC_e4] at this
  have o5 : W.cell? ⟨gm + 1,36,none⟩ = some (.slice A refs.length c):=by have:=rowAt_cell ro (j:=36) (by omega);rwa [opPC_g36] at this
  have hgW : g < W.heap.size:=hW1.lt;have hgm1 : gm < W.heap.size:=rowAt_lt rm;have hgo1 : gm + 1 < W.heap.size:=rowAt_lt ro;have hbK : Keep [] w W:=Keep.of_below hbW;have HbK:=Lib.hid hbK;clear rm ro hbW hbK;unfold RV.len at hl;obtain ⟨l1,l2,l3,l4,l5,l6,l7⟩:=hlens;have hX:=hW1.below (w':=W.drew) ((Below.refl _ _).drew);have hw : IntKind.i64.wrap (x.tal + n) = wrap64 (x.tal + n):=IntWalk.i64_left _;have c2 : W.cell? ⟨g,2,none⟩ = some (.int .i64 x.tal):=hW1.cell 2 rfl;have hgd : W.drew.heap[g]? = some (.cells (rvC t si x.tal sa sg sl sm so ss sd) 69 (0,0)):=hW1.hp;have hf2 : W.drew.frozen? ⟨g,2,none⟩ = false:=by simp [World.frozen?,hgd]
  have c2d : W.drew.cell? ⟨g,2,none⟩ = some (.int .i64 x.tal):=c2;go_upto_region 3 with fail
  refine wp_region_lexf (Kp [] W) false (by kernel_rfl) (by kernel_rfl) (by kernel_rfl) (by kernel_rfl) (kp_drew [] W) ?_;have hne:=kp_some [] W;have hS:=kp_drew [] W;have p1:=ksub_cell o1 (S:=[]) (by simp);have p2:=ksub_cell c2 (S:=[]) (by simp);repeat (refine wpLx_loose ?_ ?_;(focus (simp only [chainOp];done));intro K hK;go_simp;refine hK _ ?_;clear hK K)
  refine wpLx_end ?_ ?_;(focus (simp only [chainOp];done));intro K hK;go_simp;refine hK _ _ ?_;clear hK K;have hks:=Keep.setCell W.drew ⟨g,2,none⟩ (.int .i64 (wrap64 (x.tal + n)));have hp3:=heap_setCell_same hgd 2 (.int .i64 (wrap64 (x.tal + n)));have hfin : RVAt (W.drew.setCell ⟨g,2,none⟩ (.int .i64 (wrap64 (x.tal + n)))) g t I (rdoO m ⟨1,n,key,val,ref,refs⟩ x):=hX.set hks hp3 (fun h=>h.keep hks) (fun h=>h.keep hks) (fun h=>h.keep hks) (fun h=>h.keep hks) (fun h=>h.keep hks) (fun h=>h.keep hks) (fun h=>h.keep hks) (fun h=>h.keep hks);have hkf : Keep [g] w (W.drew.setCell ⟨g,2,none⟩ (.int .i64 (wrap64 (x.tal + n)))):=kp_step HbK.out (Keep.trans ((Keep.drew W).mono (S':=[g]) (by simp)) hks (fun x hx=>.inl hx));clear p1 p2 hne hS hks hp3 c2d hf2 hgd c2;(go_wp2_with fail);go_end0;exact ⟨rfl,hfin,hkf⟩
set_option maxRecDepth 100000 in
set_option maxHeartbeats 4000000 in
theorem rvdoes_3 (m : MarkV) (o : OpV) (A : Option Addr) (c : Nat) (w : World) (g : Nat) (t : ByteArray) (I : List Id32) (x : RV) (h : RVAt w g t I x) (hk : o.k = 3) (hkey : o.key.size ≤ 16) (hval : o.val.size ≤ 16) (hrefs : o.refs.length ≤ 8) (hlo : -2147483648 ≤ o.n) (hhi : o.n < 2147483648) (hA : TagsIn w A o.refs.length o.refs) (hgA : g ∉ blk A) (hok : RVOk x) (hl : x.len ≤ 10000) :
    Calls Tryz.prog 73 #[.pointer (some ⟨g,0,none⟩),.agg (markVC m),.agg (opC o A c)] w fun e w'=>e = .returned (.tuple #[]) ∧ RVAt w' g t I (rdoO m o x) ∧ Keep [g] w w':=by
  obtain ⟨k,n,key,val,ref,refs⟩:=o;dsimp only at hk hkey hval hrefs hlo hhi hA;subst hk;obtain ⟨si,sa,sg,sl,sm,so,ss,sd,h⟩:=h;have hbW : Below w.heap.size w ((w.alloc (.cells (markVC m) 41)).alloc (.cells (opPC ⟨(3 : Int),n,key,val,ref,.slice A refs.length c⟩) 52)):=((Below.refl _ _).alloc (Nat.le_refl _) _).alloc (by simp) _;have rm : rowAt ((w.alloc (.cells (markVC m) 41)).alloc (.cells (opPC ⟨(3 : Int),n,key,val,ref,.slice A refs.length c⟩) 52)) w.heap.size 0 34 = some (markVC m):=by simp [go_sem]
  have ro : rowAt ((w.alloc (.cells (markVC m) 41)).alloc (.cells (opPC ⟨(3 : Int),n,key,val,ref,.slice A refs.length c⟩) 52)) (w.heap.size + 1) 0 37 = some (opPC ⟨(3 : Int),n,key,val,ref,.slice A refs.length c⟩):=by simp [go_sem]
  have hgl:=h.lt;have hlens:=h.lens;unfold opC;rw [show ((3 : Nat) : Int) = (3 : Int) from rfl];go_enter Tryz.func73,Tryz.ntmps73
  go_upto_region 1 with fail
  have hW1:=h.below hbW;have hTA : TagsIn ((w.alloc (.cells (markVC m) 41)).alloc (.cells (opPC ⟨(3 : Int),n,key,val,ref,.slice A refs.length c⟩) 52)) A refs.length refs:=SlR.below hA hbW;obtain ⟨gm,hgm⟩ : ∃ gm,w.heap.size = gm:=⟨_,rfl⟩
  obtain ⟨W,hW⟩ : ∃ W,((w.alloc (.cells (markVC m) 41)).alloc (.cells (opPC ⟨(3 : Int),n,key,val,ref,.slice A refs.length c⟩) 52)) = W:=⟨_,rfl⟩
  rw [hW] at hbW rm ro hW1 hTA;rw [hW];have Hgm:=Lib.hid hgm;rw [hgm] at rm ro hgl ⊢;clear hW hgm h hA;have m0 : rowAt W gm 0 32 = some (idC m.id):=by have:=rowAt_sub rm (j:=0) (m:=32) (by omega);rwa [markVC_e0] at this
  have m1 : W.cell? ⟨gm,32,none⟩ = some (.int .i64 m.h):=by have:=rowAt_cell rm (j:=32) (by omega);rwa [markVC_g32,Nat.zero_add] at this
  have o0 : W.cell? ⟨gm + 1,0,none⟩ = some (.int .i64 (3 : Int)):=by have:=rowAt_cell ro (j:=0) (by omega);rwa [opPC_g0] at this
  have o1 : W.cell? ⟨gm + 1,1,none⟩ = some (.int .i64 n):=by have:=rowAt_cell ro (j:=1) (by omega);rwa [opPC_g1] at this
  have o2 : W.cell? ⟨gm + 1,2,none⟩ = some (.string key):=by have:=rowAt_cell ro (j:=2) (by omega);rwa [opPC_g2] at this
  have o3 : W.cell? ⟨gm + 1,3,none⟩ = some (.string val):=by have:=rowAt_cell ro (j:=3) (by omega);rwa [opPC_g3] at this
  have o4 : rowAt W (gm + 1) 4 32 = some (idC ref):=by have:=rowAt_sub ro (j:=4) (m:=32) (by omega);rwa [opPC_e4] at this
  have o5 : W.cell? ⟨gm + 1,36,none⟩ = some (.slice A refs.length c):=by have:=rowAt_cell ro (j:=36) (by omega);rwa [opPC_g36] at this
  have hgW : g < W.heap.size:=hW1.lt;have hgm1 : gm < W.heap.size:=rowAt_lt rm;have hgo1 : gm + 1 < W.heap.size:=rowAt_lt ro;have hbK : Keep [] w W:=Keep.of_below hbW;have HbK:=Lib.hid hbK;clear rm ro hbW hbK;unfold RV.len at hl;obtain ⟨l1,l2,l3,l4,l5,l6,l7⟩:=hlens;have hX:=hW1.below (w':=W.drew) ((Below.refl _ _).drew);have cc:=rrem3 val A refs.length c refs W.drew g _ sg.A sg.n sg.c x.gone hX.hp rfl hX.gone.1.rd hX.gone.1.nil (SlR.below hTA (bel_drew W)) hval (by omega) (by omega);go_upto_region 7 with fail
  refine wp_region_lex (Kp [g] W) false (by kernel_rfl) (by kernel_rfl) (by kernel_rfl) (kp_drew [g] W) ?_;have hne:=kp_some [g] W;have hS:=kp_drew [g] W;have q0:=ksub_row m0 (S:=[g]) (by simp;omega);have q1:=ksub_cell m1 (S:=[g]) (by simp;omega);have p1:=ksub_cell o1 (S:=[g]) (by simp;omega);have p2:=ksub_cell o2 (S:=[g]) (by simp;omega);have p3:=ksub_cell o3 (S:=[g]) (by simp;omega);have p4:=ksub_row o4 (S:=[g]) (by simp;omega);have p5:=ksub_cell o5 (S:=[g]) (by simp;omega);repeat (refine wpLx_loose ?_ ?_;(focus (simp only [chainOp];done));intro K hK;go_simp;refine hK _ ?_;clear hK K)
  refine wpLx_chain ?_ ?_ ?_;(focus (exact hS));(focus (simp only [chainOp];done));intro K hK;go_simp;refine cc.mono ?_;rintro e w3 ⟨A',cap',rfl,hp3,hown3,hk3⟩;have hk30 : Keep [g] W w3:=Keep.trans ((Keep.drew W).mono (by simp)) hk3 (fun x hx=>.inl hx);refine ⟨_,rfl,hk30,hK _ _ ?_⟩;clear hK K;have hfin : RVAt w3 g t I (rdoO m ⟨3,n,key,val,ref,refs⟩ x):=hX.set (sg':=⟨A',sg.n + refs.length,cap'⟩) hk3 hp3 (fun h=>h.keep hk3) (fun h=>h.keep hk3) (fun _=>⟨hown3.slw,fun hx=>by have:=(hown3.at_base hx).1;have : W.drew.heap.size = W.heap.size:=rfl;omega⟩) (fun h=>h.keep hk3) (fun h=>h.keep hk3) (fun h=>h.keep hk3) (fun h=>h.keep hk3) (fun h=>h.keep hk3);have hkf:=kp_step HbK.out hk30;clear cc hp3 hown3;clear q0 q1 p1 p2 p3 p4 p5;repeat (refine wpLx_loose ?_ ?_;(focus (simp only [chainOp];done));intro K hK;go_simp;refine hK _ ?_;clear hK K)
  refine wpLx_nil ?_;intro hS;clear hne hS;(go_wp2_with fail);go_end0;exact ⟨rfl,hfin,hkf⟩
set_option maxRecDepth 100000 in
set_option maxHeartbeats 4000000 in
theorem rvdoes_5 (m : MarkV) (o : OpV) (A : Option Addr) (c : Nat) (w : World) (g : Nat) (t : ByteArray) (I : List Id32) (x : RV) (h : RVAt w g t I x) (hk : o.k = 5) (hkey : o.key.size ≤ 16) (hval : o.val.size ≤ 16) (hrefs : o.refs.length ≤ 8) (hlo : -2147483648 ≤ o.n) (hhi : o.n < 2147483648) (hA : TagsIn w A o.refs.length o.refs) (hgA : g ∉ blk A) (hok : RVOk x) (hl : x.len ≤ 10000) :
    Calls Tryz.prog 73 #[.pointer (some ⟨g,0,none⟩),.agg (markVC m),.agg (opC o A c)] w fun e w'=>e = .returned (.tuple #[]) ∧ RVAt w' g t I (rdoO m o x) ∧ Keep [g] w w':=by
  obtain ⟨k,n,key,val,ref,refs⟩:=o;dsimp only at hk hkey hval hrefs hlo hhi hA;subst hk;obtain ⟨si,sa,sg,sl,sm,so,ss,sd,h⟩:=h;have hbW : Below w.heap.size w ((w.alloc (.cells (markVC m) 41)).alloc (.cells (opPC ⟨(5 : Int),n,key,val,ref,.slice A refs.length c⟩) 52)):=((Below.refl _ _).alloc (Nat.le_refl _) _).alloc (by simp) _;have rm : rowAt ((w.alloc (.cells (markVC m) 41)).alloc (.cells (opPC ⟨(5 : Int),n,key,val,ref,.slice A refs.length c⟩) 52)) w.heap.size 0 34 = some (markVC m):=by simp [go_sem]
  have ro : rowAt ((w.alloc (.cells (markVC m) 41)).alloc (.cells (opPC ⟨(5 : Int),n,key,val,ref,.slice A refs.length c⟩) 52)) (w.heap.size + 1) 0 37 = some (opPC ⟨(5 : Int),n,key,val,ref,.slice A refs.length c⟩):=by simp [go_sem]
  have hgl:=h.lt;have hlens:=h.lens;unfold opC;rw [show ((5 : Nat) : Int) = (5 : Int) from rfl];go_enter Tryz.func73,Tryz.ntmps73
  go_upto_region 1 with fail
  have hW1:=h.below hbW;have hTA : TagsIn ((w.alloc (.cells (markVC m) 41)).alloc (.cells (opPC ⟨(5 : Int),n,key,val,ref,.slice A refs.length c⟩) 52)) A refs.length refs:=SlR.below hA hbW;obtain ⟨gm,hgm⟩ : ∃ gm,w.heap.size = gm:=⟨_,rfl⟩
  obtain ⟨W,hW⟩ : ∃ W,((w.alloc (.cells (markVC m) 41)).alloc (.cells (opPC ⟨(5 : Int),n,key,val,ref,.slice A refs.length c⟩) 52)) = W:=⟨_,rfl⟩
  rw [hW] at hbW rm ro hW1 hTA;rw [hW];have Hgm:=Lib.hid hgm;rw [hgm] at rm ro hgl ⊢;clear hW hgm h hA;have m0 : rowAt W gm 0 32 = some (idC m.id):=by have:=rowAt_sub rm (j:=0) (m:=32) (by omega);rwa [markVC_e0] at this
  have m1 : W.cell? ⟨gm,32,none⟩ = some (.int .i64 m.h):=by have:=rowAt_cell rm (j:=32) (by omega);rwa [markVC_g32,Nat.zero_add] at this
  have o0 : W.cell? ⟨gm + 1,0,none⟩ = some (.int .i64 (5 : Int)):=by have:=rowAt_cell ro (j:=0) (by omega);rwa [opPC_g0] at this
  have o1 : W.cell? ⟨gm + 1,1,none⟩ = some (.int .i64 n):=by have:=rowAt_cell ro (j:=1) (by omega);rwa [opPC_g1] at this
  have o2 : W.cell? ⟨gm + 1,2,none⟩ = some (.string key):=by have:=rowAt_cell ro (j:=2) (by omega);rwa [opPC_g2] at this
  have o3 : W.cell? ⟨gm + 1,3,none⟩ = some (.string val):=by have:=rowAt_cell ro (j:=3) (by omega);rwa [opPC_g3] at this
  have o4 : rowAt W (gm + 1) 4 32 = some (idC ref):=by have:=rowAt_sub ro (j:=4) (m:=32) (by omega);rwa [opPC_e4] at this
  have o5 : W.cell? ⟨gm + 1,36,none⟩ = some (.slice A refs.length c):=by have:=rowAt_cell ro (j:=36) (by omega);rwa [opPC_g36] at this
  have hgW : g < W.heap.size:=hW1.lt;have hgm1 : gm < W.heap.size:=rowAt_lt rm;have hgo1 : gm + 1 < W.heap.size:=rowAt_lt ro;have hbK : Keep [] w W:=Keep.of_below hbW;have HbK:=Lib.hid hbK;clear rm ro hbW hbK;unfold RV.len at hl;obtain ⟨l1,l2,l3,l4,l5,l6,l7⟩:=hlens;have hX:=hW1.below (w':=W.drew) ((Below.refl _ _).drew);have hg0 : g ∉ blk A:=hgA;have cc:=rmset6 ⟨m.id,key,val⟩ A refs.length c refs W.drew g _ sm.A sm.n sm.c x.mL so.A so.n so.c x.mO hX.hp rfl rfl hX.mL.1.rd hX.mL.1.nil hX.mO.1.rd hX.mO.2 (SlR.below hTA (bel_drew W)) hg0 hkey hval (by omega) (by omega) (by omega);go_upto_region 11 with fail
  refine wp_region_lex (Kp [g] W) false (by kernel_rfl) (by kernel_rfl) (by kernel_rfl) (kp_drew [g] W) ?_;have hne:=kp_some [g] W;have hS:=kp_drew [g] W;have q0:=ksub_row m0 (S:=[g]) (by simp;omega);have q1:=ksub_cell m1 (S:=[g]) (by simp;omega);have p1:=ksub_cell o1 (S:=[g]) (by simp;omega);have p2:=ksub_cell o2 (S:=[g]) (by simp;omega);have p3:=ksub_cell o3 (S:=[g]) (by simp;omega);have p4:=ksub_row o4 (S:=[g]) (by simp;omega);have p5:=ksub_cell o5 (S:=[g]) (by simp;omega);repeat (refine wpLx_loose ?_ ?_;(focus (simp only [chainOp];done));intro K hK;go_simp;refine hK _ ?_;clear hK K)
  refine wpLx_chain ?_ ?_ ?_;(focus (exact hS));(focus (simp only [chainOp];done));intro K hK;go_simp;refine cc.mono ?_;rintro e w3 ⟨A3,cap3,A9,cap9,rfl,hp3,hown3,hI3,hb9,hk3⟩;have hk30 : Keep [g] W w3:=Keep.trans ((Keep.drew W).mono (by simp)) hk3 (fun x hx=>.inl hx);refine ⟨_,rfl,hk30,hK _ _ ?_⟩;clear hK K;have hfin : RVAt w3 g t I (rdoO m ⟨5,n,key,val,ref,refs⟩ x):=hX.set (sm':=⟨A3,sm.n + 1,cap3⟩) (so':=⟨A9,(sortC cmpId (x.mO ++ refs)).length,cap9⟩) hk3 hp3 (fun h=>h.keep hk3) (fun h=>h.keep hk3) (fun h=>h.keep hk3) (fun h=>h.keep hk3) (fun _=>⟨hown3.slw,fun hx=>by have:=(hown3.at_base hx).1;have : W.drew.heap.size = W.heap.size:=rfl;omega⟩) (fun _=>⟨hI3,fun hx=>by have:=hb9 g hx;have : W.drew.heap.size = W.heap.size:=rfl;omega⟩) (fun h=>h.keep hk3) (fun h=>h.keep hk3);have hkf:=kp_step HbK.out hk30;clear cc hp3 hown3 hI3;clear q0 q1 p1 p2 p3 p4 p5;repeat (refine wpLx_loose ?_ ?_;(focus (simp only [chainOp];done));intro K hK;go_simp;refine hK _ ?_;clear hK K)
  refine wpLx_nil ?_;intro hS;clear hne hS;(go_wp2_with fail);go_end0;exact ⟨rfl,hfin,hkf⟩
set_option maxRecDepth 100000 in
set_option maxHeartbeats 4000000 in
theorem rvdoes_6 (m : MarkV) (o : OpV) (A : Option Addr) (c : Nat) (w : World) (g : Nat) (t : ByteArray) (I : List Id32) (x : RV) (h : RVAt w g t I x) (hk : o.k = 6) (hkey : o.key.size ≤ 16) (hval : o.val.size ≤ 16) (hrefs : o.refs.length ≤ 8) (hlo : -2147483648 ≤ o.n) (hhi : o.n < 2147483648) (hA : TagsIn w A o.refs.length o.refs) (hgA : g ∉ blk A) (hok : RVOk x) (hl : x.len ≤ 10000) :
    Calls Tryz.prog 73 #[.pointer (some ⟨g,0,none⟩),.agg (markVC m),.agg (opC o A c)] w fun e w'=>e = .returned (.tuple #[]) ∧ RVAt w' g t I (rdoO m o x) ∧ Keep [g] w w':=by
  obtain ⟨k,n,key,val,ref,refs⟩:=o;dsimp only at hk hkey hval hrefs hlo hhi hA;subst hk;obtain ⟨si,sa,sg,sl,sm,so,ss,sd,h⟩:=h;have hbW : Below w.heap.size w ((w.alloc (.cells (markVC m) 41)).alloc (.cells (opPC ⟨(6 : Int),n,key,val,ref,.slice A refs.length c⟩) 52)):=((Below.refl _ _).alloc (Nat.le_refl _) _).alloc (by simp) _;have rm : rowAt ((w.alloc (.cells (markVC m) 41)).alloc (.cells (opPC ⟨(6 : Int),n,key,val,ref,.slice A refs.length c⟩) 52)) w.heap.size 0 34 = some (markVC m):=by simp [go_sem]
  have ro : rowAt ((w.alloc (.cells (markVC m) 41)).alloc (.cells (opPC ⟨(6 : Int),n,key,val,ref,.slice A refs.length c⟩) 52)) (w.heap.size + 1) 0 37 = some (opPC ⟨(6 : Int),n,key,val,ref,.slice A refs.length c⟩):=by simp [go_sem]
  have hgl:=h.lt;have hlens:=h.lens;unfold opC;rw [show ((6 : Nat) : Int) = (6 : Int) from rfl];go_enter Tryz.func73,Tryz.ntmps73
  go_upto_region 1 with fail
  have hW1:=h.below hbW;have hTA : TagsIn ((w.alloc (.cells (markVC m) 41)).alloc (.cells (opPC ⟨(6 : Int),n,key,val,ref,.slice A refs.length c⟩) 52)) A refs.length refs:=SlR.below hA hbW;obtain ⟨gm,hgm⟩ : ∃ gm,w.heap.size = gm:=⟨_,rfl⟩
  obtain ⟨W,hW⟩ : ∃ W,((w.alloc (.cells (markVC m) 41)).alloc (.cells (opPC ⟨(6 : Int),n,key,val,ref,.slice A refs.length c⟩) 52)) = W:=⟨_,rfl⟩
  rw [hW] at hbW rm ro hW1 hTA;rw [hW];have Hgm:=Lib.hid hgm;rw [hgm] at rm ro hgl ⊢;clear hW hgm h hA;have m0 : rowAt W gm 0 32 = some (idC m.id):=by have:=rowAt_sub rm (j:=0) (m:=32) (by omega);rwa [markVC_e0] at this
  have m1 : W.cell? ⟨gm,32,none⟩ = some (.int .i64 m.h):=by have:=rowAt_cell rm (j:=32) (by omega);rwa [markVC_g32,Nat.zero_add] at this
  have o0 : W.cell? ⟨gm + 1,0,none⟩ = some (.int .i64 (6 : Int)):=by have:=rowAt_cell ro (j:=0) (by omega);rwa [opPC_g0] at this
  have o1 : W.cell? ⟨gm + 1,1,none⟩ = some (.int .i64 n):=by have:=rowAt_cell ro (j:=1) (by omega);rwa [opPC_g1] at this
  have o2 : W.cell? ⟨gm + 1,2,none⟩ = some (.string key):=by have:=rowAt_cell ro (j:=2) (by omega);rwa [opPC_g2] at this
  have o3 : W.cell? ⟨gm + 1,3,none⟩ = some (.string val):=by have:=rowAt_cell ro (j:=3) (by omega);rwa [opPC_g3] at this
  have o4 : rowAt W (gm + 1) 4 32 = some (idC ref):=by have:=rowAt_sub ro (j:=4) (m:=32) (by omega);rwa [opPC_e4] at this
  have o5 : W.cell? ⟨gm + 1,36,none⟩ = some (.slice A refs.length c):=by have:=rowAt_cell ro (j:=36) (by omega);rwa [opPC_g36] at this
  have hgW : g < W.heap.size:=hW1.lt;have hgm1 : gm < W.heap.size:=rowAt_lt rm;have hgo1 : gm + 1 < W.heap.size:=rowAt_lt ro;have hbK : Keep [] w W:=Keep.of_below hbW;have HbK:=Lib.hid hbK;clear rm ro hbW hbK;unfold RV.len at hl;obtain ⟨l1,l2,l3,l4,l5,l6,l7⟩:=hlens;have hX:=hW1.below (w':=W.drew) ((Below.refl _ _).drew);have cc:=rsins8 ⟨m.id,m.h,ref,val⟩ W.drew g _ ss.A ss.n ss.c x.sL hX.hp rfl hX.sL.1 hX.sL.2 hok.sL (Nat.le_trans hval (by omega)) (by omega);go_upto_region 13 with fail
  refine wp_region_lex (Kp [g] W) false (by kernel_rfl) (by kernel_rfl) (by kernel_rfl) (kp_drew [g] W) ?_;have hne:=kp_some [g] W;have hS:=kp_drew [g] W;have q0:=ksub_row m0 (S:=[g]) (by simp;omega);have q1:=ksub_cell m1 (S:=[g]) (by simp;omega);have p1:=ksub_cell o1 (S:=[g]) (by simp;omega);have p2:=ksub_cell o2 (S:=[g]) (by simp;omega);have p3:=ksub_cell o3 (S:=[g]) (by simp;omega);have p4:=ksub_row o4 (S:=[g]) (by simp;omega);have p5:=ksub_cell o5 (S:=[g]) (by simp;omega);repeat (refine wpLx_loose ?_ ?_;(focus (simp only [chainOp];done));intro K hK;go_simp;refine hK _ ?_;clear hK K)
  refine wpLx_chain ?_ ?_ ?_;(focus (exact hS));(focus (simp only [chainOp];done));intro K hK;go_simp;refine cc.mono ?_;rintro e w3 ⟨A',n',cap',rfl,hp3,hsw3,hgA3,hk3⟩;have hk30 : Keep [g] W w3:=Keep.trans ((Keep.drew W).mono (by simp)) hk3 (fun x hx=>.inl hx);refine ⟨_,rfl,hk30,hK _ _ ?_⟩;clear hK K;have hfin : RVAt w3 g t I (rdoO m ⟨6,n,key,val,ref,refs⟩ x):=hX.set (ss':=⟨A',n',cap'⟩) hk3 hp3 (fun h=>h.keep hk3) (fun h=>h.keep hk3) (fun h=>h.keep hk3) (fun h=>h.keep hk3) (fun h=>h.keep hk3) (fun h=>h.keep hk3) (fun _=>⟨hsw3,hgA3⟩) (fun h=>h.keep hk3);have hkf:=kp_step HbK.out hk30;clear cc hp3 hsw3;clear q0 q1 p1 p2 p3 p4 p5;repeat (refine wpLx_loose ?_ ?_;(focus (simp only [chainOp];done));intro K hK;go_simp;refine hK _ ?_;clear hK K)
  refine wpLx_nil ?_;intro hS;clear hne hS;(go_wp2_with fail);go_end0;exact ⟨rfl,hfin,hkf⟩
set_option maxRecDepth 100000 in
set_option maxHeartbeats 4000000 in
theorem rvdoes_7 (m : MarkV) (o : OpV) (A : Option Addr) (c : Nat) (w : World) (g : Nat) (t : ByteArray) (I : List Id32) (x : RV) (h : RVAt w g t I x) (hk : o.k = 7) (hkey : o.key.size ≤ 16) (hval : o.val.size ≤ 16) (hrefs : o.refs.length ≤ 8) (hlo : -2147483648 ≤ o.n) (hhi : o.n < 2147483648) (hA : TagsIn w A o.refs.length o.refs) (hgA : g ∉ blk A) (hok : RVOk x) (hl : x.len ≤ 10000) :
    Calls Tryz.prog 73 #[.pointer (some ⟨g,0,none⟩),.agg (markVC m),.agg (opC o A c)] w fun e w'=>e = .returned (.tuple #[]) ∧ RVAt w' g t I (rdoO m o x) ∧ Keep [g] w w':=by
  obtain ⟨k,n,key,val,ref,refs⟩:=o;dsimp only at hk hkey hval hrefs hlo hhi hA;subst hk;obtain ⟨si,sa,sg,sl,sm,so,ss,sd,h⟩:=h;have hbW : Below w.heap.size w ((w.alloc (.cells (markVC m) 41)).alloc (.cells (opPC ⟨(7 : Int),n,key,val,ref,.slice A refs.length c⟩) 52)):=((Below.refl _ _).alloc (Nat.le_refl _) _).alloc (by simp) _;have rm : rowAt ((w.alloc (.cells (markVC m) 41)).alloc (.cells (opPC ⟨(7 : Int),n,key,val,ref,.slice A refs.length c⟩) 52)) w.heap.size 0 34 = some (markVC m):=by simp [go_sem]
  have ro : rowAt ((w.alloc (.cells (markVC m) 41)).alloc (.cells (opPC ⟨(7 : Int),n,key,val,ref,.slice A refs.length c⟩) 52)) (w.heap.size + 1) 0 37 = some (opPC ⟨(7 : Int),n,key,val,ref,.slice A refs.length c⟩):=by simp [go_sem]
  have hgl:=h.lt;have hlens:=h.lens;unfold opC;rw [show ((7 : Nat) : Int) = (7 : Int) from rfl];go_enter Tryz.func73,Tryz.ntmps73
  go_upto_region 1 with fail
  have hW1:=h.below hbW;have hTA : TagsIn ((w.alloc (.cells (markVC m) 41)).alloc (.cells (opPC ⟨(7 : Int),n,key,val,ref,.slice A refs.length c⟩) 52)) A refs.length refs:=SlR.below hA hbW;obtain ⟨gm,hgm⟩ : ∃ gm,w.heap.size = gm:=⟨_,rfl⟩
  obtain ⟨W,hW⟩ : ∃ W,((w.alloc (.cells (markVC m) 41)).alloc (.cells (opPC ⟨(7 : Int),n,key,val,ref,.slice A refs.length c⟩) 52)) = W:=⟨_,rfl⟩
  rw [hW] at hbW rm ro hW1 hTA;rw [hW];have Hgm:=Lib.hid hgm;rw [hgm] at rm ro hgl ⊢;clear hW hgm h hA;have m0 : rowAt W gm 0 32 = some (idC m.id):=by have:=rowAt_sub rm (j:=0) (m:=32) (by omega);rwa [markVC_e0] at this
  have m1 : W.cell? ⟨gm,32,none⟩ = some (.int .i64 m.h):=by have:=rowAt_cell rm (j:=32) (by omega);rwa [markVC_g32,Nat.zero_add] at this
  have o0 : W.cell? ⟨gm + 1,0,none⟩ = some (.int .i64 (7 : Int)):=by have:=rowAt_cell ro (j:=0) (by omega);rwa [opPC_g0] at this
  have o1 : W.cell? ⟨gm + 1,1,none⟩ = some (.int .i64 n):=by have:=rowAt_cell ro (j:=1) (by omega);rwa [opPC_g1] at this
  have o2 : W.cell? ⟨gm + 1,2,none⟩ = some (.string key):=by have:=rowAt_cell ro (j:=2) (by omega);rwa [opPC_g2] at this
  have o3 : W.cell? ⟨gm + 1,3,none⟩ = some (.string val):=by have:=rowAt_cell ro (j:=3) (by omega);rwa [opPC_g3] at this
  have o4 : rowAt W (gm + 1) 4 32 = some (idC ref):=by have:=rowAt_sub ro (j:=4) (m:=32) (by omega);rwa [opPC_e4] at this
  have o5 : W.cell? ⟨gm + 1,36,none⟩ = some (.slice A refs.length c):=by have:=rowAt_cell ro (j:=36) (by omega);rwa [opPC_g36] at this
  have hgW : g < W.heap.size:=hW1.lt;have hgm1 : gm < W.heap.size:=rowAt_lt rm;have hgo1 : gm + 1 < W.heap.size:=rowAt_lt ro;have hbK : Keep [] w W:=Keep.of_below hbW;have HbK:=Lib.hid hbK;clear rm ro hbW hbK;unfold RV.len at hl;obtain ⟨l1,l2,l3,l4,l5,l6,l7⟩:=hlens;have hX:=hW1.below (w':=W.drew) ((Below.refl _ _).drew);have cc:=rsdel8 ref W.drew g _ sd.A sd.n sd.c x.sG hX.hp rfl hX.sG.1 hX.sG.2 hok.sG (by omega);go_upto_region 15 with fail
  refine wp_region_lex (Kp [g] W) false (by kernel_rfl) (by kernel_rfl) (by kernel_rfl) (kp_drew [g] W) ?_;have hne:=kp_some [g] W;have hS:=kp_drew [g] W;have q0:=ksub_row m0 (S:=[g]) (by simp;omega);have q1:=ksub_cell m1 (S:=[g]) (by simp;omega);have p1:=ksub_cell o1 (S:=[g]) (by simp;omega);have p2:=ksub_cell o2 (S:=[g]) (by simp;omega);have p3:=ksub_cell o3 (S:=[g]) (by simp;omega);have p4:=ksub_row o4 (S:=[g]) (by simp;omega);have p5:=ksub_cell o5 (S:=[g]) (by simp;omega);repeat (refine wpLx_loose ?_ ?_;(focus (simp only [chainOp];done));intro K hK;go_simp;refine hK _ ?_;clear hK K)
  refine wpLx_chain ?_ ?_ ?_;(focus (exact hS));(focus (simp only [chainOp];done));intro K hK;go_simp;refine cc.mono ?_;rintro e w3 ⟨A',cap',rfl,hp3,hsw3,hgA3,hk3⟩;have hk30 : Keep [g] W w3:=Keep.trans ((Keep.drew W).mono (by simp)) hk3 (fun x hx=>.inl hx);refine ⟨_,rfl,hk30,hK _ _ ?_⟩;clear hK K;have hfin : RVAt w3 g t I (rdoO m ⟨7,n,key,val,ref,refs⟩ x):=hX.set (sd':=⟨A',(insC cmpId x.sG ref).length,cap'⟩) hk3 hp3 (fun h=>h.keep hk3) (fun h=>h.keep hk3) (fun h=>h.keep hk3) (fun h=>h.keep hk3) (fun h=>h.keep hk3) (fun h=>h.keep hk3) (fun h=>h.keep hk3) (fun _=>⟨hsw3,hgA3⟩);have hkf:=kp_step HbK.out hk30;clear cc hp3 hsw3;clear q0 q1 p1 p2 p3 p4 p5;repeat (refine wpLx_loose ?_ ?_;(focus (simp only [chainOp];done));intro K hK;go_simp;refine hK _ ?_;clear hK K)
  refine wpLx_nil ?_;intro hS;clear hne hS;(go_wp2_with fail);go_end0;exact ⟨rfl,hfin,hkf⟩
set_option maxRecDepth 100000 in
set_option maxHeartbeats 4000000 in
theorem rvdoes_4 (m : MarkV) (o : OpV) (A : Option Addr) (c : Nat) (w : World) (g : Nat) (t : ByteArray) (I : List Id32) (x : RV) (h : RVAt w g t I x) (hk : o.k = 4) (hkey : o.key.size ≤ 16) (hval : o.val.size ≤ 16) (hrefs : o.refs.length ≤ 8) (hlo : -2147483648 ≤ o.n) (hhi : o.n < 2147483648) (hA : TagsIn w A o.refs.length o.refs) (hgA : g ∉ blk A) (hok : RVOk x) (hl : x.len ≤ 10000) :
    Calls Tryz.prog 73 #[.pointer (some ⟨g,0,none⟩),.agg (markVC m),.agg (opC o A c)] w fun e w'=>e = .returned (.tuple #[]) ∧ RVAt w' g t I (rdoO m o x) ∧ Keep [g] w w':=by
  obtain ⟨k,n,key,val,ref,refs⟩:=o;dsimp only at hk hkey hval hrefs hlo hhi hA;subst hk;obtain ⟨si,sa,sg,sl,sm,so,ss,sd,h⟩:=h;have hbW : Below w.heap.size w ((w.alloc (.cells (markVC m) 41)).alloc (.cells (opPC ⟨(4 : Int),n,key,val,ref,.slice A refs.length c⟩) 52)):=((Below.refl _ _).alloc (Nat.le_refl _) _).alloc (by simp) _;have rm : rowAt ((w.alloc (.cells (markVC m) 41)).alloc (.cells (opPC ⟨(4 : Int),n,key,val,ref,.slice A refs.length c⟩) 52)) w.heap.size 0 34 = some (markVC m):=by simp [go_sem]
  have ro : rowAt ((w.alloc (.cells (markVC m) 41)).alloc (.cells (opPC ⟨(4 : Int),n,key,val,ref,.slice A refs.length c⟩) 52)) (w.heap.size + 1) 0 37 = some (opPC ⟨(4 : Int),n,key,val,ref,.slice A refs.length c⟩):=by simp [go_sem]
  have hgl:=h.lt;have hlens:=h.lens;unfold opC;rw [show ((4 : Nat) : Int) = (4 : Int) from rfl];go_enter Tryz.func73,Tryz.ntmps73
  go_upto_region 1 with fail
  have hW1:=h.below hbW;have hTA : TagsIn ((w.alloc (.cells (markVC m) 41)).alloc (.cells (opPC ⟨(4 : Int),n,key,val,ref,.slice A refs.length c⟩) 52)) A refs.length refs:=SlR.below hA hbW;obtain ⟨gm,hgm⟩ : ∃ gm,w.heap.size = gm:=⟨_,rfl⟩
  obtain ⟨W,hW⟩ : ∃ W,((w.alloc (.cells (markVC m) 41)).alloc (.cells (opPC ⟨(4 : Int),n,key,val,ref,.slice A refs.length c⟩) 52)) = W:=⟨_,rfl⟩
  rw [hW] at hbW rm ro hW1 hTA;rw [hW];have Hgm:=Lib.hid hgm;rw [hgm] at rm ro hgl ⊢;clear hW hgm h hA;have m0 : rowAt W gm 0 32 = some (idC m.id):=by have:=rowAt_sub rm (j:=0) (m:=32) (by omega);rwa [markVC_e0] at this
  have m1 : W.cell? ⟨gm,32,none⟩ = some (.int .i64 m.h):=by have:=rowAt_cell rm (j:=32) (by omega);rwa [markVC_g32,Nat.zero_add] at this
  have o0 : W.cell? ⟨gm + 1,0,none⟩ = some (.int .i64 (4 : Int)):=by have:=rowAt_cell ro (j:=0) (by omega);rwa [opPC_g0] at this
  have o1 : W.cell? ⟨gm + 1,1,none⟩ = some (.int .i64 n):=by have:=rowAt_cell ro (j:=1) (by omega);rwa [opPC_g1] at this
  have o2 : W.cell? ⟨gm + 1,2,none⟩ = some (.string key):=by have:=rowAt_cell ro (j:=2) (by omega);rwa [opPC_g2] at this
  have o3 : W.cell? ⟨gm + 1,3,none⟩ = some (.string val):=by have:=rowAt_cell ro (j:=3) (by omega);rwa [opPC_g3] at this
  have o4 : rowAt W (gm + 1) 4 32 = some (idC ref):=by have:=rowAt_sub ro (j:=4) (m:=32) (by omega);rwa [opPC_e4] at this
  have o5 : W.cell? ⟨gm + 1,36,none⟩ = some (.slice A refs.length c):=by have:=rowAt_cell ro (j:=36) (by omega);rwa [opPC_g36] at this
  have hgW : g < W.heap.size:=hW1.lt;have hgm1 : gm < W.heap.size:=rowAt_lt rm;have hgo1 : gm + 1 < W.heap.size:=rowAt_lt ro;have hbK : Keep [] w W:=Keep.of_below hbW;have HbK:=Lib.hid hbK;clear rm ro hbW hbK;unfold RV.len at hl;obtain ⟨l1,l2,l3,l4,l5,l6,l7⟩:=hlens;have hX:=hW1.below (w':=W.drew) ((Below.refl _ _).drew);obtain ⟨AX,nX,cX⟩:=sl;obtain ⟨xr,hxr⟩ : ∃ xr : Row,xr = ⟨key,val,n,m.id⟩:=⟨_,rfl⟩
  have hbld : ∀ w0 : World,(bdS 207 #[(0,.string key),(1,.string val),(2,.int .i64 n),(3,.agg (idC m.id))]).run Tryz.prog w0 = .ok (.agg (rowC xr)) w0:=fun w0=>(by rw [hxr];exact buildRow key val n m.id w0);have hxl : (⟨4,n,key,val,ref,refs⟩ : OpV).key = key:=rfl;have HX:=Lib.hid hW1;have Hxr:=Lib.hid hxr;have hcs : (rvC t si x.tal sa sg ⟨AX,nX,cX⟩ sm so ss sd)[5]? = some (.slice AX nX cX):=rfl;have hgx : W.heap[g]? = some (.cells (rvC t si x.tal sa sg ⟨AX,nX,cX⟩ sm so ss sd) 69 (0,0)):=hW1.hp;have h1 : SlR W AX nX 35 (x.last.map rowC):=hW1.last.1.rd;have f1 : AX = none → cX = 0:=hW1.last.1.nil;have hc0 : W.cell? ⟨g,5,none⟩ = some (.slice AX nX cX):=hW1.cell 5 rfl;have hln : nX ≤ 100000:=by have e : x.last.length = nX:=l3;omega
  obtain ⟨cs,hcse⟩ : ∃ cs,rvC t si x.tal sa sg ⟨AX,nX,cX⟩ sm so ss sd = cs:=⟨_,rfl⟩
  have Hcse:=Lib.hid hcse;rw [hcse] at hcs hgx;obtain ⟨X,hXe⟩ : ∃ X,x.last = X:=⟨_,rfl⟩
  rw [hXe] at h1;have HXe:=Lib.hid hXe;have HgW:=Lib.hid hgW;clear hW1 hX hcse hXe hxr hxl l1 l2 l3 l4 l5 l6 l7 hl;go_upto_region 9 with fail
  have q0:=ksub_row m0 (S:=[]) (by simp);have p1:=ksub_cell o1 (S:=[]) (by simp);have p2:=ksub_cell o2 (S:=[]) (by simp);have p3:=ksub_cell o3 (S:=[]) (by simp);have p5:=ksub_cell hc0 (S:=[]) (by simp);refine wp_region_treef (.loose 0 (.loose 2 (.loose 3 (.loose 4 (.loose 5 (.loose 7 (.loose 8 (.loose 9 (.loose 10 (.loose 11 (.loose 12 (.loose 13 (.loose 14 (.loose 15 (.two 1 (.two 6 (.one 16 (.one 17 (.loose 18 (.loose 19 (.one 20 .done))))) 16 (.one 6 (.one 17 (.loose 18 (.loose 19 (.one 20 .done)))))) 16 (.one 1 (.one 6 (.one 17 (.loose 18 (.loose 19 (.one 20 .done))))))))))))))))))))) (Kp [] W) false (by kernel_rfl) (by kernel_rfl) (by kernel_rfl) (by kernel_rfl) (by kernel_rfl) (kp_drew [] W) ?_;have hne:=kp_some [] W;have hS:=kp_drew [] W;repeat (refine wpTx_loose rfl ?_ ?_;(focus (simp only [chainOp];done));intro K hK;go_simp;refine hK _ ?_;clear hK K)
  refine wpTx_two ?_ ?_
  ·
    refine wpTx_one ?_ rfl ?_ ?_;(focus (exact hS));(focus (simp only [chainOp];done));intro K hK;go_simp;refine step_keep (kp_alloc hS _) (fun hSn=>?_);refine hK _ _ ?_;clear hK K;replace hS:=hSn;clear hSn;refine wpTx_two ?_ ?_
    · have hs1 : SlR (W.drew.alloc (.cells #[] 207)) AX nX 35 (X.map rowC):=h1.kept hS (by simp);refine Tx_rows einfoRow rfl rfl (Own.empty W.drew W.heap.size 207 35 (Nat.le_refl _)) rfl hs1 f1 (onesRow X) (by omega) (by omega) (by simp) ?_;intro A2 cap2 w2 hown2 hk2 hsub2;simp only [Nat.zero_add,List.nil_append] at hown2 ⊢;refine step_keep (Keep.trans hS hk2 (by simp [blk])) (fun hSn=>?_);replace hS:=hSn;clear hSn;refine wpTx_one ?_ rfl ?_ ?_;(focus (exact hS));(focus (simp only [chainOp];done));intro K hK;go_simp;refine step_keep (kp_alloc hS _) (fun hSn=>?_);refine hK _ _ ?_;clear hK K;replace hS:=hSn;clear hSn;have hba : Below w2.heap.size w2 (w2.alloc (.cells (rowC xr) 207)):=(Below.refl _ _).alloc (Nat.le_refl _) _;have hown3:=hown2.below hba;have hrow3 : rowAt (w2.alloc (.cells (rowC xr) 207)) w2.heap.size 0 35 = some (rowC xr):=by simp [go_sem]
      have hsz:=hS.size;refine Tx_append einfoRow rfl rfl hown3 rfl hrow3 (rowC_one _) (by omega) (by omega) hsz ?_;intro A3 cap3 w3 hown4 hk3 hsub3;refine step_keep (Keep.trans hS hk3 (fun x hx=>.inr ((hown2.at_base hx).1))) (fun hSn=>?_);replace hS:=hSn;clear hSn;repeat (refine wpTx_loose rfl ?_ ?_;(focus (simp only [chainOp];done));intro K hK;go_simp;refine hK _ ?_;clear hK K)
      have hg3 : w3.heap[g]? = some (.cells cs 69 (0,0)):=(hS.block g hgW (by simp)).trans hgx;have hc3 : w3.cell? ⟨g,5,none⟩ = some (.slice AX nX cX):=by rw [cell_of_row w3 g 5 _ _ _ hg3];exact hcs
      have hf3 : w3.frozen? ⟨g,5,none⟩ = false:=by simp [World.frozen?,hg3]
      refine wpTx_end rfl ?_ (by kernel_rfl) ?_;(focus (simp only [chainOp];done));intro K hK;go_simp;refine hK _ _ ?_;clear hK K;have hown5:=hown4.kept (Keep.setCell w3 ⟨g,5,none⟩ (.slice A3 (nX + 1) cap3)) (fun x hx=>by have:=(hown4.at_base hx).1;simp;omega);have hfin : (w3.setCell ⟨g,5,none⟩ (.slice A3 (nX + 1) cap3)).heap[g]? = some (.cells (cs.setIfInBounds 5 (.slice A3 (nX + 1) cap3)) 69 (0,0)):=heap_setCell_same hg3 5 _;have hrowsF : (X.map rowC) ++ [rowC xr] = (X ++ [xr]).map rowC:=by simp
      have hown6 : Own (w3.setCell ⟨g,5,none⟩ (.slice A3 (nX + 1) cap3)) W.heap.size 207 35 A3 (nX + 1) cap3 ((X ++ [xr]).map rowC):=by rw [← hrowsF];exact hown5
      have hkfin : Keep [g] W (w3.setCell ⟨g,5,none⟩ (.slice A3 (nX + 1) cap3)):=Keep.trans (hS.mono (S':=[g]) (by simp)) (Keep.setCell w3 ⟨g,5,none⟩ _) (by simp);clear hown5 hown4 hown2 hown3 hS hg3 hc3 hf3 hk3 hk2 hsub3 hsub2 hrowsF;have hkS:=hkfin;have hp3:=hfin;rw [← Hcse.out] at hp3;rw [← HXe.out,Hxr.out] at hown6;have hfin4 : RVAt (w3.setCell ⟨g,5,none⟩ (.slice A3 (nX + 1) cap3)) g t I (rdoO m ⟨4,n,key,val,ref,refs⟩ x):=HX.out.set (sl':=⟨A3,nX + 1,cap3⟩) hkS hp3 (fun h=>h.keep hkS) (fun h=>h.keep hkS) (fun h=>h.keep hkS) (fun _=>⟨hown6.slw,fun hx=>by have:=(hown6.at_base hx).1;have:=HgW.out;omega⟩) (fun h=>h.keep hkS) (fun h=>h.keep hkS) (fun h=>h.keep hkS) (fun h=>h.keep hkS);have hkf:=kp_step HbK.out hkfin;clear hown6 hp3 hfin hkS hkfin q0 p1 p2 p3 p5;(go_wp2_with fail);go_end0;exact ⟨rfl,hfin4,hkf⟩
    ·
      refine wpTx_one ?_ rfl ?_ ?_;(focus (exact hS));(focus (simp only [chainOp];done));intro K hK;go_simp;refine step_keep (kp_alloc hS _) (fun hSn=>?_);refine hK _ _ ?_;clear hK K;replace hS:=hSn;clear hSn;have hs1 : SlR ((W.drew.alloc (.cells #[] 207)).alloc (.cells (rowC xr) 207)) AX nX 35 (X.map rowC):=h1.kept hS (by simp);have hown0:=(Own.empty W.drew W.heap.size 207 35 (Nat.le_refl _)).below ((Below.refl _ _).alloc (Nat.le_refl _) (.cells (rowC xr) 207));refine Tx_rows einfoRow rfl rfl hown0 rfl hs1 f1 (onesRow X) (by omega) (by omega) (by simp;omega) ?_;intro A2 cap2 w2 hown2 hk2 hsub2;simp only [Nat.zero_add,List.nil_append] at hown2 ⊢;refine step_keep (Keep.trans hS hk2 (by simp [blk])) (fun hSn=>?_);replace hS:=hSn;clear hSn;have hown3:=hown2;have hrow3 : rowAt w2 (W.heap.size + 1) 0 35 = some (rowC xr):=(hk2.row (by simp) (by simp [blk]) 0 35).trans (by simp [go_sem]);have hsz:=hS.size;refine Tx_append einfoRow rfl rfl hown3 rfl hrow3 (rowC_one _) (by omega) (by omega) hsz ?_;intro A3 cap3 w3 hown4 hk3 hsub3;refine step_keep (Keep.trans hS hk3 (fun x hx=>.inr ((hown2.at_base hx).1))) (fun hSn=>?_);replace hS:=hSn;clear hSn;repeat (refine wpTx_loose rfl ?_ ?_;(focus (simp only [chainOp];done));intro K hK;go_simp;refine hK _ ?_;clear hK K)
      have hg3 : w3.heap[g]? = some (.cells cs 69 (0,0)):=(hS.block g hgW (by simp)).trans hgx;have hc3 : w3.cell? ⟨g,5,none⟩ = some (.slice AX nX cX):=by rw [cell_of_row w3 g 5 _ _ _ hg3];exact hcs
      have hf3 : w3.frozen? ⟨g,5,none⟩ = false:=by simp [World.frozen?,hg3]
      refine wpTx_end rfl ?_ (by kernel_rfl) ?_;(focus (simp only [chainOp];done));intro K hK;go_simp;refine hK _ _ ?_;clear hK K;have hown5:=hown4.kept (Keep.setCell w3 ⟨g,5,none⟩ (.slice A3 (nX + 1) cap3)) (fun x hx=>by have:=(hown4.at_base hx).1;simp;omega);have hfin : (w3.setCell ⟨g,5,none⟩ (.slice A3 (nX + 1) cap3)).heap[g]? = some (.cells (cs.setIfInBounds 5 (.slice A3 (nX + 1) cap3)) 69 (0,0)):=heap_setCell_same hg3 5 _;have hrowsF : (X.map rowC) ++ [rowC xr] = (X ++ [xr]).map rowC:=by simp
      have hown6 : Own (w3.setCell ⟨g,5,none⟩ (.slice A3 (nX + 1) cap3)) W.heap.size 207 35 A3 (nX + 1) cap3 ((X ++ [xr]).map rowC):=by rw [← hrowsF];exact hown5
      have hkfin : Keep [g] W (w3.setCell ⟨g,5,none⟩ (.slice A3 (nX + 1) cap3)):=Keep.trans (hS.mono (S':=[g]) (by simp)) (Keep.setCell w3 ⟨g,5,none⟩ _) (by simp);clear hown5 hown4 hown2 hown3 hS hg3 hc3 hf3 hk3 hk2 hsub3 hsub2 hrowsF;have hkS:=hkfin;have hp3:=hfin;rw [← Hcse.out] at hp3;rw [← HXe.out,Hxr.out] at hown6;have hfin4 : RVAt (w3.setCell ⟨g,5,none⟩ (.slice A3 (nX + 1) cap3)) g t I (rdoO m ⟨4,n,key,val,ref,refs⟩ x):=HX.out.set (sl':=⟨A3,nX + 1,cap3⟩) hkS hp3 (fun h=>h.keep hkS) (fun h=>h.keep hkS) (fun h=>h.keep hkS) (fun _=>⟨hown6.slw,fun hx=>by have:=(hown6.at_base hx).1;have:=HgW.out;omega⟩) (fun h=>h.keep hkS) (fun h=>h.keep hkS) (fun h=>h.keep hkS) (fun h=>h.keep hkS);have hkf:=kp_step HbK.out hkfin;clear hown6 hp3 hfin hkS hkfin q0 p1 p2 p3 p5;(go_wp2_with fail);go_end0;exact ⟨rfl,hfin4,hkf⟩
  ·
    refine wpTx_one ?_ rfl ?_ ?_;(focus (exact hS));(focus (simp only [chainOp];done));intro K hK;go_simp;refine step_keep (kp_alloc hS _) (fun hSn=>?_);refine hK _ _ ?_;clear hK K;replace hS:=hSn;clear hSn;refine wpTx_one ?_ rfl ?_ ?_;(focus (exact hS));(focus (simp only [chainOp];done));intro K hK;go_simp;refine step_keep (kp_alloc hS _) (fun hSn=>?_);refine hK _ _ ?_;clear hK K;replace hS:=hSn;clear hSn;have hs1 : SlR ((W.drew.alloc (.cells (rowC xr) 207)).alloc (.cells #[] 207)) AX nX 35 (X.map rowC):=h1.kept hS (by simp);have hown0 : Own ((W.drew.alloc (.cells (rowC xr) 207)).alloc (.cells #[] 207)) W.heap.size 207 35 (some ⟨W.heap.size + 1,0,none⟩) 0 0 []:=by
      have:=Own.empty (W.drew.alloc (.cells (rowC xr) 207)) W.heap.size 207 35 (by simp);simpa using this
    refine Tx_rows einfoRow rfl rfl hown0 rfl hs1 f1 (onesRow X) (by omega) (by omega) (by simp;omega) ?_;intro A2 cap2 w2 hown2 hk2 hsub2;simp only [Nat.zero_add,List.nil_append] at hown2 ⊢;refine step_keep (Keep.trans hS hk2 (by simp [blk])) (fun hSn=>?_);replace hS:=hSn;clear hSn;have hown3:=hown2;have hrow3 : rowAt w2 W.heap.size 0 35 = some (rowC xr):=(hk2.row (by simp;omega) (by simp [blk]) 0 35).trans (by simp [go_sem]);have hsz:=hS.size;refine Tx_append einfoRow rfl rfl hown3 rfl hrow3 (rowC_one _) (by omega) (by omega) hsz ?_;intro A3 cap3 w3 hown4 hk3 hsub3;refine step_keep (Keep.trans hS hk3 (fun x hx=>.inr ((hown2.at_base hx).1))) (fun hSn=>?_);replace hS:=hSn;clear hSn;repeat (refine wpTx_loose rfl ?_ ?_;(focus (simp only [chainOp];done));intro K hK;go_simp;refine hK _ ?_;clear hK K)
    have hg3 : w3.heap[g]? = some (.cells cs 69 (0,0)):=(hS.block g hgW (by simp)).trans hgx;have hc3 : w3.cell? ⟨g,5,none⟩ = some (.slice AX nX cX):=by rw [cell_of_row w3 g 5 _ _ _ hg3];exact hcs
    have hf3 : w3.frozen? ⟨g,5,none⟩ = false:=by simp [World.frozen?,hg3]
    refine wpTx_end rfl ?_ (by kernel_rfl) ?_;(focus (simp only [chainOp];done));intro K hK;go_simp;refine hK _ _ ?_;clear hK K;have hown5:=hown4.kept (Keep.setCell w3 ⟨g,5,none⟩ (.slice A3 (nX + 1) cap3)) (fun x hx=>by have:=(hown4.at_base hx).1;simp;omega);have hfin : (w3.setCell ⟨g,5,none⟩ (.slice A3 (nX + 1) cap3)).heap[g]? = some (.cells (cs.setIfInBounds 5 (.slice A3 (nX + 1) cap3)) 69 (0,0)):=heap_setCell_same hg3 5 _;have hrowsF : (X.map rowC) ++ [rowC xr] = (X ++ [xr]).map rowC:=by simp
    have hown6 : Own (w3.setCell ⟨g,5,none⟩ (.slice A3 (nX + 1) cap3)) W.heap.size 207 35 A3 (nX + 1) cap3 ((X ++ [xr]).map rowC):=by rw [← hrowsF];exact hown5
    have hkfin : Keep [g] W (w3.setCell ⟨g,5,none⟩ (.slice A3 (nX + 1) cap3)):=Keep.trans (hS.mono (S':=[g]) (by simp)) (Keep.setCell w3 ⟨g,5,none⟩ _) (by simp);clear hown5 hown4 hown2 hown3 hS hg3 hc3 hf3 hk3 hk2 hsub3 hsub2 hrowsF;have hkS:=hkfin;have hp3:=hfin;rw [← Hcse.out] at hp3;rw [← HXe.out,Hxr.out] at hown6;have hfin4 : RVAt (w3.setCell ⟨g,5,none⟩ (.slice A3 (nX + 1) cap3)) g t I (rdoO m ⟨4,n,key,val,ref,refs⟩ x):=HX.out.set (sl':=⟨A3,nX + 1,cap3⟩) hkS hp3 (fun h=>h.keep hkS) (fun h=>h.keep hkS) (fun h=>h.keep hkS) (fun _=>⟨hown6.slw,fun hx=>by have:=(hown6.at_base hx).1;have:=HgW.out;omega⟩) (fun h=>h.keep hkS) (fun h=>h.keep hkS) (fun h=>h.keep hkS) (fun h=>h.keep hkS);have hkf:=kp_step HbK.out hkfin;clear hown6 hp3 hfin hkS hkfin q0 p1 p2 p3 p5;(go_wp2_with fail);go_end0;exact ⟨rfl,hfin4,hkf⟩
end
section
open Go.RowKit
def hasS (k : Nat) : ByteArray:=if k = 1 then ⟨#[78]⟩ else if k = 2 then ⟨#[86]⟩ else if k = 3 then ⟨#[86,83]⟩ else if k = 4 then ⟨#[75,86,78]⟩ else if k = 5 then ⟨#[75,86,83]⟩ else if k = 6 then ⟨#[82,86]⟩ else if k = 7 then ⟨#[82]⟩ else ⟨#[]⟩
theorem rop_has (k : Nat) (w : World) (hk : k ≤ 9223372036854775807) : Calls Tryz.prog 66 #[.int .i64 k] w fun e w'=>e = .returned (.string (hasS k)) ∧ w = w':=by
  by_cases h : k ≤ 7
  · have h8 : k = 0 ∨ k = 1 ∨ k = 2 ∨ k = 3 ∨ k = 4 ∨ k = 5 ∨ k = 6 ∨ k = 7:=by omega
    rcases h8 with rfl | rfl | rfl | rfl | rfl | rfl | rfl | rfl
    all_goals
      go_enter Tryz.func66,Tryz.ntmps66
      (go_wp2_with fail);go_ret;exact ⟨rfl,rfl⟩
  · have hs : hasS k = ⟨#[]⟩:=by unfold hasS;rw [if_neg (by omega),if_neg (by omega),if_neg (by omega),if_neg (by omega),if_neg (by omega),if_neg (by omega),if_neg (by omega)]
    have Hs:=Lib.hid hs;have h1 : ((k : Int) == 1) = false:=by simp;omega
    have h2 : ((k : Int) == 2) = false:=by simp;omega
    have h3 : ((k : Int) == 3) = false:=by simp;omega
    have h4 : ((k : Int) == 4) = false:=by simp;omega
    have h5 : ((k : Int) == 5) = false:=by simp;omega
    have h6 : ((k : Int) == 6) = false:=by simp;omega
    have h7 : ((k : Int) == 7) = false:=by simp;omega
    clear hs h;go_enter Tryz.func66,Tryz.ntmps66
    (go_wp2_with fail);go_ret;exact ⟨by rw [Hs.out];rfl,rfl⟩
theorem rop_belongs (k : Nat) (w : World) (hk : k ≤ 9223372036854775807) : Calls Tryz.prog 28 #[.int .i64 k] w fun e w'=>e = .returned (.int .i64 (belongs k)) ∧ w = w':=by
  have hb : belongs k = if k = 1 then 1 else if k = 2 ∨ k = 3 then 2 else if k = 4 then 3 else if k = 5 then 4 else if k = 6 ∨ k = 7 then 5 else 0:=rfl;have Hb:=Lib.hid hb;clear hb;go_enter Tryz.func28,Tryz.ntmps28
  go_wp2_with fail
  all_goals
    go_ret;exact ⟨ret_int (by rw [Hb.out];simp at *;omega),rfl⟩
end
section
open Go.RowKit
structure OfS where
  n : Int
  key : ByteArray
  val : ByteArray
  ref : Id32
  refs : List Id32
  l : List UInt8
  e : Int
def ofS0 (l : List UInt8) (e : Int) : OfS:=⟨0,⟨#[]⟩,⟨#[]⟩,id0,[],l,e⟩
def ofLoop (N : Nat) (s : IdsR) : IdsR:=idLoop N s
def ofStep (k : Nat) (s : OfS) (c : UInt8) : OfS :=
  if c = 78 then ⟨if k = 1 then (numV 4 s.l s.e : Int) - 2147483648 else (numV 4 s.l s.e : Int),s.key,s.val,s.ref,s.refs,rawL 4 s.l s.e,rawE 4 s.l s.e⟩
  else if c = 75 then ⟨s.n,txV s.l s.e,s.val,s.ref,s.refs,txL s.l s.e,txE s.l s.e⟩
  else if c = 86 then ⟨s.n,s.key,txV s.l s.e,s.ref,s.refs,txL s.l s.e,txE s.l s.e⟩
  else if c = 82 then ⟨s.n,s.key,s.val,idOf (rawV 32 s.l s.e),s.refs,rawL 32 s.l s.e,rawE 32 s.l s.e⟩
  else ⟨s.n,s.key,s.val,s.ref,(ofLoop (numV 1 s.l s.e) ⟨s.refs,rawL 1 s.l s.e,rawE 1 s.l s.e⟩).ids,(ofLoop (numV 1 s.l s.e) ⟨s.refs,rawL 1 s.l s.e,rawE 1 s.l s.e⟩).l,(ofLoop (numV 1 s.l s.e) ⟨s.refs,rawL 1 s.l s.e,rawE 1 s.l s.e⟩).e⟩
section
variable (k : Nat) (n : Int) (key val : ByteArray) (ref : Id32) (refs : List Id32) (l : List UInt8) (e : Int)
theorem of_78 : ofStep k ⟨n,key,val,ref,refs,l,e⟩ 78 = ⟨if k = 1 then (numV 4 l e : Int) - 2147483648 else (numV 4 l e : Int),key,val,ref,refs,rawL 4 l e,rawE 4 l e⟩:=rfl
theorem of_75 : ofStep k ⟨n,key,val,ref,refs,l,e⟩ 75 = ⟨n,txV l e,val,ref,refs,txL l e,txE l e⟩:=rfl
theorem of_86 : ofStep k ⟨n,key,val,ref,refs,l,e⟩ 86 = ⟨n,key,txV l e,ref,refs,txL l e,txE l e⟩:=rfl
theorem of_82 : ofStep k ⟨n,key,val,ref,refs,l,e⟩ 82 = ⟨n,key,val,idOf (rawV 32 l e),refs,rawL 32 l e,rawE 32 l e⟩:=rfl
theorem of_83 : ofStep k ⟨n,key,val,ref,refs,l,e⟩ 83 = ⟨n,key,val,ref,(ofLoop (numV 1 l e) ⟨refs,rawL 1 l e,rawE 1 l e⟩).ids,(ofLoop (numV 1 l e) ⟨refs,rawL 1 l e,rawE 1 l e⟩).l,(ofLoop (numV 1 l e) ⟨refs,rawL 1 l e,rawE 1 l e⟩).e⟩:=rfl
end
def OfS.op (k : Nat) (s : OfS) : OpR:=⟨⟨k,s.n,s.key,s.val,s.ref,s.refs⟩,s.l,s.e⟩
theorem of_run (k : Nat) (l : List UInt8) (e : Int) (h1 : 1 ≤ k) (h7 : k ≤ 7) : ((hasS k).data.toList.foldl (ofStep k) (ofS0 l e)).op k = takeO k l e:=by
  have h : k = 1 ∨ k = 2 ∨ k = 3 ∨ k = 4 ∨ k = 5 ∨ k = 6 ∨ k = 7:=by omega
  rcases h with rfl | rfl | rfl | rfl | rfl | rfl | rfl <;> rfl
theorem has_size (k : Nat) : (hasS k).size ≤ 3:=by
  unfold hasS
  repeat' split
  all_goals decide
theorem has_chars (k : Nat) : ∀ c ∈ (hasS k).data.toList,c = 78 ∨ c = 75 ∨ c = 86 ∨ c = 82 ∨ c = 83:=by
  unfold hasS
  repeat' split
  all_goals decide
theorem has_empty (k : Nat) : (hasS k).toList.isEmpty = decide (k = 0 ∨ 7 < k):=by
  rw [ByteArray.toList_eq];by_cases h : k ≤ 7
  · have h8 : k = 0 ∨ k = 1 ∨ k = 2 ∨ k = 3 ∨ k = 4 ∨ k = 5 ∨ k = 6 ∨ k = 7:=by omega
    rcases h8 with rfl | rfl | rfl | rfl | rfl | rfl | rfl | rfl <;> rfl
  · have hs : hasS k = ⟨#[]⟩:=by unfold hasS;rw [if_neg (by omega),if_neg (by omega),if_neg (by omega),if_neg (by omega),if_neg (by omega),if_neg (by omega),if_neg (by omega)]
    rw [hs,decide_eq_true (by omega)];rfl
theorem take_small (k : Nat) (l : List UInt8) (e : Int) (h1 : 1 ≤ k) (h7 : k ≤ 7) : (takeO k l e).o.key.size ≤ 9223372036854775807 ∧ (takeO k l e).o.val.size ≤ 9223372036854775807:=by
  have hz : (⟨#[]⟩ : ByteArray).size = 0:=rfl;have ht:=fun l e=>txV_size l e;have h : k = 1 ∨ k = 2 ∨ k = 3 ∨ k = 4 ∨ k = 5 ∨ k = 6 ∨ k = 7:=by omega
  rcases h with rfl | rfl | rfl | rfl | rfl | rfl | rfl
  · exact ⟨by show (⟨#[]⟩ : ByteArray).size ≤ _;omega,by show (⟨#[]⟩ : ByteArray).size ≤ _;omega⟩
  · exact ⟨by show (⟨#[]⟩ : ByteArray).size ≤ _;omega,Nat.le_trans (ht _ _) (by omega)⟩
  · exact ⟨by show (⟨#[]⟩ : ByteArray).size ≤ _;omega,Nat.le_trans (ht _ _) (by omega)⟩
  · exact ⟨Nat.le_trans (ht _ _) (by omega),Nat.le_trans (ht _ _) (by omega)⟩
  · exact ⟨Nat.le_trans (ht _ _) (by omega),Nat.le_trans (ht _ _) (by omega)⟩
  · exact ⟨by show (⟨#[]⟩ : ByteArray).size ≤ _;omega,Nat.le_trans (ht _ _) (by omega)⟩
  · exact ⟨by show (⟨#[]⟩ : ByteArray).size ≤ _;omega,by show (⟨#[]⟩ : ByteArray).size ≤ _;omega⟩
end
section
open Go.RowKit
def inB (s : ByteArray) (c : Int) : Bool:=s.data.toList.any fun b=>((b.toNat : Int) == c)
theorem rop_in (s : ByteArray) (c : Int) (w : World) (hs : s.size ≤ 9223372036854775807) : Calls Tryz.prog 144 #[.string s,.int .u8 c] w fun e w'=>e = .returned (.bool (inB s c)) ∧ w = w':=by
  have hlen : s.data.toList.length = s.size:=Array.length_toList;have hin : inB s c = (s.data.toList.drop 0).any fun b=>((b.toNat : Int) == c):=rfl;have Hin:=Lib.hid hin;clear hin;go_enter Tryz.func144,Tryz.ntmps144
  (go_wp2_with fail);go_loopw [5] (fun i wr=>∃ k : Nat,k ≤ s.size ∧ i = .int .i64 k ∧ wr = w ∧ Hid (inB s c = (s.data.toList.drop k).any fun b=>((b.toNat : Int) == c))) (fun i _=>s.size - (intOf i).toNat)
  case atStart=>exact ⟨0,Nat.zero_le _,rfl,rfl,Hin⟩
  case round =>
    obtain ⟨k,hk,rfl,rfl,hd⟩:=hrel;by_cases hlt : k < s.size
    · have hg : s.data.toList.drop k = s[k]'hlt :: s.data.toList.drop (k + 1):=by
        rw [List.drop_eq_getElem_cons (show k < s.data.toList.length by rw [hlen];exact hlt)];rfl
      have hd2:=hd.out;rw [hg,List.any_cons] at hd2;obtain ⟨b,hb⟩ : ∃ b,s[k]'hlt = b:=⟨_,rfl⟩
      rw [hb] at hd2;cases hc : ((b.toNat : Int) == c) with
      | true =>
        rw [hc,Bool.true_or] at hd2;have Hd:=Lib.hid hd2;clear hd hd2 hg;(go_wp2_with fail);go_ret;exact ⟨ret_bool (by rw [Hd.out]),rfl⟩
      | false =>
        rw [hc,Bool.false_or] at hd2;have Hd:=Lib.hid hd2;clear hd hd2 hg;(go_wp2_with fail);go_roundw
        case rel=>exact ⟨k + 1,by omega,by go_num,trivial,Hd⟩
        case measure=>simp [intOf];omega
    · have hd2:=hd.out;rw [List.drop_eq_nil_of_le (by rw [hlen];omega)] at hd2;have Hd:=Lib.hid hd2;clear hd hd2;(go_wp2_with fail);go_ret;exact ⟨ret_bool (by rw [Hd.out];rfl),rfl⟩
end
section
open Go.RowKit
set_option maxHeartbeats 1000000 in
theorem rsame_ids (w : World) (A B : Option Addr) (n m cap cap' : Nat) (X Y : List Id32) (hx : TagsIn w A n X) (hy : TagsIn w B m Y) (hn : n ≤ 1000000) (hm : m ≤ 1000000) :
    Calls Tryz.prog 32 #[.slice A n cap,.slice B m cap'] w fun e w'=>e = .returned (.bool (decide (X = Y))) ∧ Below w.heap.size w w':=by
  have hlx:=hx.len;have hly:=hy.len;have Hlx:=Lib.hid hlx;have Hly:=Lib.hid hly;by_cases hnm : n = m
  · subst hnm;clear hlx hly;go_enter Tryz.func32,Tryz.ntmps32
    (go_wp2_with fail);go_loopw [5] (fun i wr=>∃ k : Nat,k ≤ n ∧ i = .int .i64 k ∧ Hid (X.take k = Y.take k) ∧ Below w.heap.size w wr) (fun i _=>n - (intOf i).toNat)
    case atStart=>exact ⟨0,Nat.zero_le _,rfl,rfl,Below.refl _ _⟩
    case round =>
      obtain ⟨k,hk,rfl,heq,hb⟩:=hrel;by_cases hlt : k < n
      · obtain ⟨q,o,rfl,hr⟩:=TagsIn.get (SlR.below hx hb) hlt (by rw [Hlx.out];exact hlt);obtain ⟨q2,o2,rfl,hr2⟩:=TagsIn.get (SlR.below hy hb) hlt (by rw [Hly.out];exact hlt);have hX : X.take (k + 1) = X.take k ++ [X[k]'(by rw [Hlx.out];exact hlt)]:=by rw [List.take_add_one,List.getElem?_eq_getElem (by rw [Hlx.out];exact hlt)];rfl
        have hY : Y.take (k + 1) = Y.take k ++ [Y[k]'(by rw [Hly.out];exact hlt)]:=by rw [List.take_add_one,List.getElem?_eq_getElem (by rw [Hly.out];exact hlt)];rfl
        obtain ⟨x,hx'⟩ : ∃ x,X[k]'(by rw [Hlx.out];exact hlt) = x:=⟨_,rfl⟩
        obtain ⟨y,hy'⟩ : ∃ y,Y[k]'(by rw [Hly.out];exact hlt) = y:=⟨_,rfl⟩
        rw [hx'] at hr hX;rw [hy'] at hr2 hY;have HX:=Lib.hid hX;have HY:=Lib.hid hY;clear hX hY;have HX':=Lib.hid hx';have HY':=Lib.hid hy';clear hx' hy';go_upto_region 6 with fail
        refine wp_region_lex (Bel wr) false (by kernel_rfl) (by kernel_rfl) (by kernel_rfl) (bel_drew wr) ?_;have hne:=bel_some wr;have hS:=bel_drew wr;have b1:=sub_row hr;have b2:=sub_row hr2;repeat (refine wpLx_loose ?_ ?_;(focus (simp only [chainOp];done));intro K hK;go_simp;refine hK _ ?_;clear hK K)
        refine wpLx_nil ?_;intro hS;clear hne hS b1 b2 hr hr2;have hb' : Below w.heap.size w wr.drew:=hb.drew;cases hpe : (x == y) with
        | true =>
          have e:=beq_iff_eq.1 hpe;have E:=Lib.hid e;clear e;(go_wp2_with fail);go_roundw
          case rel=>exact ⟨k + 1,by omega,by go_num,(show X.take (k + 1) = Y.take (k + 1) by rw [HX.out,HY.out,heq.out,E.out]),hb'⟩
          case measure=>simp [intOf];omega
        | false =>
          have hne : X ≠ Y:=by
            intro e;subst e;have : x = y:=HX'.out.symm.trans HY'.out;rw [beq_iff_eq.2 this] at hpe;cases hpe
          have hd:=Lib.hid (decide_eq_false hne);clear hne;(go_wp2_with fail);go_ret;exact ⟨ret_bool (by rw [hd.out]),hb'⟩
      · have hkn : k = n:=by omega
        have e : X = Y:=by
          have:=heq.out
          rwa [List.take_of_length_le (by rw [Hlx.out];omega),List.take_of_length_le (by rw [Hly.out];omega)] at this
        have E:=Lib.hid (decide_eq_true e);clear e hkn;(go_wp2_with fail);go_ret;exact ⟨ret_bool (by rw [E.out]),hb⟩
  · have hne : X ≠ Y:=by intro e;subst e;exact hnm (hlx.symm.trans hly)
    have hd:=Lib.hid (decide_eq_false hne);have hnm2 : (n == m) = false:=by simpa using hnm
    have hnm3 : ((n : Int) == (m : Int)) = false:=by rw [beq_eq_false_iff_ne];omega
    clear hlx hly hne;go_enter Tryz.func32,Tryz.ntmps32
    (go_wp2_with fail);go_ret;exact ⟨ret_bool (by rw [hd.out]),Below.refl _ _⟩
end
section
open Go.RowKit
theorem ris_sort (R : List Id32) : decide (R = sortC cmpId R) = risI R:=by
  rw [Bool.eq_iff_iff,decide_eq_true_eq,risI_ok];exact ⟨fun h=>by rw [h];exact ris_sortC totId R,fun h=>(sortC_ris totId h).symm⟩
theorem ris6 (w : World) (A : Option Addr) (n cap : Nat) (R : List Id32) (h : TagsIn w A n R) (hn : n ≤ 1000000) :
    Calls Tryz.prog 97 #[.slice A n cap] w fun e w'=>e = .returned (.bool (risI R)) ∧ Below w.heap.size w w':=by
  have hlen:=h.len;have hsl:=sortC_length (c:=cmpId) R;rw [hlen] at hsl;have c1:=rset w A n cap R h hn;have c2:=fun w1 (hb : Below w.heap.size w w1) A' cap' (hs : IdsW w1 A' (sortC cmpId R).length cap' (sortC cmpId R))=>rsame_ids w1 A A' n (sortC cmpId R).length cap cap' R (sortC cmpId R) (SlR.below h hb) hs.rd hn (by omega);have Hs:=Lib.hid (ris_sort R);clear hlen hsl;go_enter Tryz.func97,Tryz.ntmps97
  (go_wp2_with fail);refine c1.mono ?_;rintro e w1 ⟨A',cap',rfl,hs,_,hb1⟩;(go_wp2_with fail);refine (c2 w1 hb1 A' cap' hs).mono ?_;rintro e w2 ⟨rfl,hb2⟩;(go_wp2_with fail);go_ret;exact ⟨ret_bool (by rw [Hs.out]),bel2 hb1 hb2⟩
theorem emptyS : (⟨#[]⟩ : ByteArray).size = 0:=rfl
set_option maxRecDepth 100000 in
set_option maxHeartbeats 4000000 in
theorem rop_check (o : OpV) (A : Option Addr) (c : Nat) (w : World) (h : plainO o) (hT : TagsIn w A o.refs.length o.refs) (hl : o.refs.length ≤ 1000000) (hks : o.key.size ≤ 9223372036854775807) (hvs : o.val.size ≤ 9223372036854775807) :
    Calls Tryz.prog 70 #[.agg (opC o A c)] w fun e w'=>e = .returned (.int .i64 (chkN o)) ∧ Below w.heap.size w w':=by
  have hT0 : TagsIn (w.alloc (.cells (opC o A c) 52)) A o.refs.length o.refs:=SlR.below hT ((Below.refl _ _).alloc (Nat.le_refl _) _);have hck : chkN o = if 16 < o.key.size ∨ 16 < o.val.size then 3 else if numO o = false then 5 else if 8 < o.refs.length then 6 else if risI o.refs = false then 4 else 0:=rfl;have hno : numO o = (!(decide (o.k = 4) && decide (o.n < 0)) && (decide (o.n < 2147483648) && decide (-2147483648 ≤ o.n))):=rfl;obtain ⟨rb,hrb⟩ : ∃ rb,risI o.refs = rb:=⟨_,rfl⟩
  rw [hrb] at hck;rw [hno] at hck;obtain ⟨k,n,key,val,ref,refs⟩:=o;unfold opC at hT0 ⊢;unfold plainO at h;dsimp only at *;have Hck:=Lib.hid hck;have Hrb:=Lib.hid hrb;clear hck hno hrb hT;rcases h with ⟨rfl,rfl,rfl,rfl,rfl⟩ | ⟨rfl,rfl,rfl,rfl,rfl⟩ | ⟨rfl,rfl,rfl,rfl⟩ | ⟨rfl,rfl,rfl⟩ | ⟨rfl,rfl,rfl⟩ | ⟨rfl,rfl,rfl,rfl⟩ | ⟨rfl,rfl,rfl,rfl,rfl⟩
  · show Calls Tryz.prog 70 #[.agg (opPC ⟨1,n,⟨#[]⟩,⟨#[]⟩,id0,.slice A 0 c⟩)] w _;change TagsIn (w.alloc (.cells (opPC ⟨1,n,⟨#[]⟩,⟨#[]⟩,id0,.slice A 0 c⟩) 52)) A 0 [] at hT0;have hB : Below w.heap.size w (w.alloc (.cells (opPC ⟨1,n,⟨#[]⟩,⟨#[]⟩,id0,.slice A 0 c⟩) 52)):=(Below.refl _ _).alloc (Nat.le_refl _) _;have hr : rowAt (w.alloc (.cells (opPC ⟨1,n,⟨#[]⟩,⟨#[]⟩,id0,.slice A 0 c⟩) 52)) w.heap.size 0 37 = some (opPC ⟨1,n,⟨#[]⟩,⟨#[]⟩,id0,.slice A 0 c⟩):=by simp [go_sem]
    have x0:=rowAt_cell hr (j:=0) (by omega);have x1:=rowAt_cell hr (j:=1) (by omega);have x2:=rowAt_cell hr (j:=2) (by omega);have x3:=rowAt_cell hr (j:=3) (by omega);have x5:=rowAt_cell hr (j:=36) (by omega);have x4:=rowAt_sub hr (j:=4) (m:=32) (by omega);simp only [opPC_g0,opPC_g1,opPC_g2,opPC_g3,opPC_g36,opPC_e4,Nat.zero_add] at x0 x1 x2 x3 x4 x5;have c1:=rop_has 1 (w.alloc (.cells (opPC ⟨1,n,⟨#[]⟩,⟨#[]⟩,id0,.slice A 0 c⟩) 52)) (by omega);have i1:=rop_in (hasS 1) 78 (w.alloc (.cells (opPC ⟨1,n,⟨#[]⟩,⟨#[]⟩,id0,.slice A 0 c⟩) 52)) (by decide);have i2:=rop_in (hasS 1) 75 (w.alloc (.cells (opPC ⟨1,n,⟨#[]⟩,⟨#[]⟩,id0,.slice A 0 c⟩) 52)) (by decide);have i3:=rop_in (hasS 1) 86 (w.alloc (.cells (opPC ⟨1,n,⟨#[]⟩,⟨#[]⟩,id0,.slice A 0 c⟩) 52)) (by decide);have i4:=rop_in (hasS 1) 82 (w.alloc (.cells (opPC ⟨1,n,⟨#[]⟩,⟨#[]⟩,id0,.slice A 0 c⟩) 52)) (by decide);have i5:=rop_in (hasS 1) 83 (w.alloc (.cells (opPC ⟨1,n,⟨#[]⟩,⟨#[]⟩,id0,.slice A 0 c⟩) 52)) (by decide);rw [show inB (hasS 1) 78 = true by decide +kernel] at i1;rw [show inB (hasS 1) 75 = false by decide +kernel] at i2;rw [show inB (hasS 1) 86 = false by decide +kernel] at i3;rw [show inB (hasS 1) 82 = false by decide +kernel] at i4;rw [show inB (hasS 1) 83 = false by decide +kernel] at i5;rw [show hasS 1 = ⟨#[78]⟩ from rfl] at c1 i1 i2 i3 i4 i5;clear hr;go_enter Tryz.func70,Tryz.ntmps70
    go_upto_region 1 with fail
    obtain ⟨ga,hga⟩ : ∃ ga,w.heap.size = ga:=⟨_,rfl⟩
    have Hga:=Lib.hid hga;rw [hga] at x0 x1 x2 x3 x4 x5 hB ⊢;obtain ⟨W,hW⟩ : ∃ W,W = w.alloc (.cells (opPC ⟨1,n,⟨#[]⟩,⟨#[]⟩,id0,.slice A 0 c⟩) 52):=⟨_,rfl⟩
    rw [← hW] at x0 x1 x2 x3 x4 x5 hB c1 i1 i2 i3 i4 i5 hT0 ⊢;clear hW hga;(go_wp2_with fail);refine c1.mono ?_;rintro e w1 ⟨rfl,rfl⟩;(go_wp2_with fail);refine i1.mono ?_;rintro e w1 ⟨rfl,rfl⟩;(go_wp2_with fail);refine i2.mono ?_;rintro e w1 ⟨rfl,rfl⟩;(go_wp2_with fail);refine i3.mono ?_;rintro e w1 ⟨rfl,rfl⟩;(go_wp2_with fail);refine i4.mono ?_;rintro e w1 ⟨rfl,rfl⟩;(go_wp2_with fail);refine i5.mono ?_;rintro e w1 ⟨rfl,rfl⟩;clear c1 i1 i2 i3 i4 i5;have cis:=ris6 W A _ c _ hT0 hl;rw [Hrb.out] at cis;rw [← Hga.out] at hB;go_wp2_with fail
    all_goals
      first
      | (go_ret;exact ⟨ret_int (by rw [Hck.out];(try simp only [emptyS,List.length_nil] at *);(repeat' split) <;> (first | rfl | omega | (simp_all;done) | (simp_all;omega))),hB⟩)
      | (refine cis.mono ?_;rintro e w2 ⟨rfl,hb2⟩
         have hBB:=bel2 hB hb2;clear hT0 cis x0 x1 x2 x3 x4 x5 hb2;cases rb <;> (go_wp2_with fail;go_ret;exact ⟨ret_int (by rw [Hck.out];(try simp only [emptyS,List.length_nil] at *);(repeat' split) <;> (first | rfl | omega | (simp_all;done) | (simp_all;omega))),hBB⟩))
  · show Calls Tryz.prog 70 #[.agg (opPC ⟨2,0,⟨#[]⟩,val,id0,.slice A 0 c⟩)] w _;change TagsIn (w.alloc (.cells (opPC ⟨2,0,⟨#[]⟩,val,id0,.slice A 0 c⟩) 52)) A 0 [] at hT0;have hB : Below w.heap.size w (w.alloc (.cells (opPC ⟨2,0,⟨#[]⟩,val,id0,.slice A 0 c⟩) 52)):=(Below.refl _ _).alloc (Nat.le_refl _) _;have hr : rowAt (w.alloc (.cells (opPC ⟨2,0,⟨#[]⟩,val,id0,.slice A 0 c⟩) 52)) w.heap.size 0 37 = some (opPC ⟨2,0,⟨#[]⟩,val,id0,.slice A 0 c⟩):=by simp [go_sem]
    have x0:=rowAt_cell hr (j:=0) (by omega);have x1:=rowAt_cell hr (j:=1) (by omega);have x2:=rowAt_cell hr (j:=2) (by omega);have x3:=rowAt_cell hr (j:=3) (by omega);have x5:=rowAt_cell hr (j:=36) (by omega);have x4:=rowAt_sub hr (j:=4) (m:=32) (by omega);simp only [opPC_g0,opPC_g1,opPC_g2,opPC_g3,opPC_g36,opPC_e4,Nat.zero_add] at x0 x1 x2 x3 x4 x5;have c1:=rop_has 2 (w.alloc (.cells (opPC ⟨2,0,⟨#[]⟩,val,id0,.slice A 0 c⟩) 52)) (by omega);have i1:=rop_in (hasS 2) 78 (w.alloc (.cells (opPC ⟨2,0,⟨#[]⟩,val,id0,.slice A 0 c⟩) 52)) (by decide);have i2:=rop_in (hasS 2) 75 (w.alloc (.cells (opPC ⟨2,0,⟨#[]⟩,val,id0,.slice A 0 c⟩) 52)) (by decide);have i3:=rop_in (hasS 2) 86 (w.alloc (.cells (opPC ⟨2,0,⟨#[]⟩,val,id0,.slice A 0 c⟩) 52)) (by decide);have i4:=rop_in (hasS 2) 82 (w.alloc (.cells (opPC ⟨2,0,⟨#[]⟩,val,id0,.slice A 0 c⟩) 52)) (by decide);have i5:=rop_in (hasS 2) 83 (w.alloc (.cells (opPC ⟨2,0,⟨#[]⟩,val,id0,.slice A 0 c⟩) 52)) (by decide);rw [show inB (hasS 2) 78 = false by decide +kernel] at i1;rw [show inB (hasS 2) 75 = false by decide +kernel] at i2;rw [show inB (hasS 2) 86 = true by decide +kernel] at i3;rw [show inB (hasS 2) 82 = false by decide +kernel] at i4;rw [show inB (hasS 2) 83 = false by decide +kernel] at i5;rw [show hasS 2 = ⟨#[86]⟩ from rfl] at c1 i1 i2 i3 i4 i5;clear hr;go_enter Tryz.func70,Tryz.ntmps70
    go_upto_region 1 with fail
    obtain ⟨ga,hga⟩ : ∃ ga,w.heap.size = ga:=⟨_,rfl⟩
    have Hga:=Lib.hid hga;rw [hga] at x0 x1 x2 x3 x4 x5 hB ⊢;obtain ⟨W,hW⟩ : ∃ W,W = w.alloc (.cells (opPC ⟨2,0,⟨#[]⟩,val,id0,.slice A 0 c⟩) 52):=⟨_,rfl⟩
    rw [← hW] at x0 x1 x2 x3 x4 x5 hB c1 i1 i2 i3 i4 i5 hT0 ⊢;clear hW hga;(go_wp2_with fail);refine c1.mono ?_;rintro e w1 ⟨rfl,rfl⟩;(go_wp2_with fail);refine i1.mono ?_;rintro e w1 ⟨rfl,rfl⟩;(go_wp2_with fail);refine i2.mono ?_;rintro e w1 ⟨rfl,rfl⟩;(go_wp2_with fail);refine i3.mono ?_;rintro e w1 ⟨rfl,rfl⟩;(go_wp2_with fail);refine i4.mono ?_;rintro e w1 ⟨rfl,rfl⟩;(go_wp2_with fail);refine i5.mono ?_;rintro e w1 ⟨rfl,rfl⟩;clear c1 i1 i2 i3 i4 i5;have cis:=ris6 W A _ c _ hT0 hl;rw [Hrb.out] at cis;rw [← Hga.out] at hB;go_wp2_with fail
    all_goals
      first
      | (go_ret;exact ⟨ret_int (by rw [Hck.out];(try simp only [emptyS,List.length_nil] at *);(repeat' split) <;> (first | rfl | omega | (simp_all;done) | (simp_all;omega))),hB⟩)
      | (refine cis.mono ?_;rintro e w2 ⟨rfl,hb2⟩
         have hBB:=bel2 hB hb2;clear hT0 cis x0 x1 x2 x3 x4 x5 hb2;cases rb <;> (go_wp2_with fail;go_ret;exact ⟨ret_int (by rw [Hck.out];(try simp only [emptyS,List.length_nil] at *);(repeat' split) <;> (first | rfl | omega | (simp_all;done) | (simp_all;omega))),hBB⟩))
  · show Calls Tryz.prog 70 #[.agg (opPC ⟨3,0,⟨#[]⟩,val,id0,.slice A refs.length c⟩)] w _;change TagsIn (w.alloc (.cells (opPC ⟨3,0,⟨#[]⟩,val,id0,.slice A refs.length c⟩) 52)) A refs.length refs at hT0;have hB : Below w.heap.size w (w.alloc (.cells (opPC ⟨3,0,⟨#[]⟩,val,id0,.slice A refs.length c⟩) 52)):=(Below.refl _ _).alloc (Nat.le_refl _) _;have hr : rowAt (w.alloc (.cells (opPC ⟨3,0,⟨#[]⟩,val,id0,.slice A refs.length c⟩) 52)) w.heap.size 0 37 = some (opPC ⟨3,0,⟨#[]⟩,val,id0,.slice A refs.length c⟩):=by simp [go_sem]
    have x0:=rowAt_cell hr (j:=0) (by omega);have x1:=rowAt_cell hr (j:=1) (by omega);have x2:=rowAt_cell hr (j:=2) (by omega);have x3:=rowAt_cell hr (j:=3) (by omega);have x5:=rowAt_cell hr (j:=36) (by omega);have x4:=rowAt_sub hr (j:=4) (m:=32) (by omega);simp only [opPC_g0,opPC_g1,opPC_g2,opPC_g3,opPC_g36,opPC_e4,Nat.zero_add] at x0 x1 x2 x3 x4 x5;have c1:=rop_has 3 (w.alloc (.cells (opPC ⟨3,0,⟨#[]⟩,val,id0,.slice A refs.length c⟩) 52)) (by omega);have i1:=rop_in (hasS 3) 78 (w.alloc (.cells (opPC ⟨3,0,⟨#[]⟩,val,id0,.slice A refs.length c⟩) 52)) (by decide);have i2:=rop_in (hasS 3) 75 (w.alloc (.cells (opPC ⟨3,0,⟨#[]⟩,val,id0,.slice A refs.length c⟩) 52)) (by decide);have i3:=rop_in (hasS 3) 86 (w.alloc (.cells (opPC ⟨3,0,⟨#[]⟩,val,id0,.slice A refs.length c⟩) 52)) (by decide);have i4:=rop_in (hasS 3) 82 (w.alloc (.cells (opPC ⟨3,0,⟨#[]⟩,val,id0,.slice A refs.length c⟩) 52)) (by decide);have i5:=rop_in (hasS 3) 83 (w.alloc (.cells (opPC ⟨3,0,⟨#[]⟩,val,id0,.slice A refs.length c⟩) 52)) (by decide);rw [show inB (hasS 3) 78 = false by decide +kernel] at i1;rw [show inB (hasS 3) 75 = false by decide +kernel] at i2;rw [show inB (hasS 3) 86 = true by decide +kernel] at i3;rw [show inB (hasS 3) 82 = false by decide +kernel] at i4;rw [show inB (hasS 3) 83 = true by decide +kernel] at i5;rw [show hasS 3 = ⟨#[86,83]⟩ from rfl] at c1 i1 i2 i3 i4 i5;clear hr;go_enter Tryz.func70,Tryz.ntmps70
    go_upto_region 1 with fail
    obtain ⟨ga,hga⟩ : ∃ ga,w.heap.size = ga:=⟨_,rfl⟩
    have Hga:=Lib.hid hga;rw [hga] at x0 x1 x2 x3 x4 x5 hB ⊢;obtain ⟨W,hW⟩ : ∃ W,W = w.alloc (.cells (opPC ⟨3,0,⟨#[]⟩,val,id0,.slice A refs.length c⟩) 52):=⟨_,rfl⟩
    rw [← hW] at x0 x1 x2 x3 x4 x5 hB c1 i1 i2 i3 i4 i5 hT0 ⊢;clear hW hga;(go_wp2_with fail);refine c1.mono ?_;rintro e w1 ⟨rfl,rfl⟩;(go_wp2_with fail);refine i1.mono ?_;rintro e w1 ⟨rfl,rfl⟩;(go_wp2_with fail);refine i2.mono ?_;rintro e w1 ⟨rfl,rfl⟩;(go_wp2_with fail);refine i3.mono ?_;rintro e w1 ⟨rfl,rfl⟩;(go_wp2_with fail);refine i4.mono ?_;rintro e w1 ⟨rfl,rfl⟩;(go_wp2_with fail);refine i5.mono ?_;rintro e w1 ⟨rfl,rfl⟩;clear c1 i1 i2 i3 i4 i5;have cis:=ris6 W A _ c _ hT0 hl;rw [Hrb.out] at cis;rw [← Hga.out] at hB;go_wp2_with fail
    all_goals
      first
      | (go_ret;exact ⟨ret_int (by rw [Hck.out];(try simp only [emptyS,List.length_nil] at *);(repeat' split) <;> (first | rfl | omega | (simp_all;done) | (simp_all;omega))),hB⟩)
      | (refine cis.mono ?_;rintro e w2 ⟨rfl,hb2⟩
         have hBB:=bel2 hB hb2;clear hT0 cis x0 x1 x2 x3 x4 x5 hb2;cases rb <;> (go_wp2_with fail;go_ret;exact ⟨ret_int (by rw [Hck.out];(try simp only [emptyS,List.length_nil] at *);(repeat' split) <;> (first | rfl | omega | (simp_all;done) | (simp_all;omega))),hBB⟩))
  · show Calls Tryz.prog 70 #[.agg (opPC ⟨4,n,key,val,id0,.slice A 0 c⟩)] w _;change TagsIn (w.alloc (.cells (opPC ⟨4,n,key,val,id0,.slice A 0 c⟩) 52)) A 0 [] at hT0;have hB : Below w.heap.size w (w.alloc (.cells (opPC ⟨4,n,key,val,id0,.slice A 0 c⟩) 52)):=(Below.refl _ _).alloc (Nat.le_refl _) _;have hr : rowAt (w.alloc (.cells (opPC ⟨4,n,key,val,id0,.slice A 0 c⟩) 52)) w.heap.size 0 37 = some (opPC ⟨4,n,key,val,id0,.slice A 0 c⟩):=by simp [go_sem]
    have x0:=rowAt_cell hr (j:=0) (by omega);have x1:=rowAt_cell hr (j:=1) (by omega);have x2:=rowAt_cell hr (j:=2) (by omega);have x3:=rowAt_cell hr (j:=3) (by omega);have x5:=rowAt_cell hr (j:=36) (by omega);have x4:=rowAt_sub hr (j:=4) (m:=32) (by omega);simp only [opPC_g0,opPC_g1,opPC_g2,opPC_g3,opPC_g36,opPC_e4,Nat.zero_add] at x0 x1 x2 x3 x4 x5;have c1:=rop_has 4 (w.alloc (.cells (opPC ⟨4,n,key,val,id0,.slice A 0 c⟩) 52)) (by omega);have i1:=rop_in (hasS 4) 78 (w.alloc (.cells (opPC ⟨4,n,key,val,id0,.slice A 0 c⟩) 52)) (by decide);have i2:=rop_in (hasS 4) 75 (w.alloc (.cells (opPC ⟨4,n,key,val,id0,.slice A 0 c⟩) 52)) (by decide);have i3:=rop_in (hasS 4) 86 (w.alloc (.cells (opPC ⟨4,n,key,val,id0,.slice A 0 c⟩) 52)) (by decide);have i4:=rop_in (hasS 4) 82 (w.alloc (.cells (opPC ⟨4,n,key,val,id0,.slice A 0 c⟩) 52)) (by decide);have i5:=rop_in (hasS 4) 83 (w.alloc (.cells (opPC ⟨4,n,key,val,id0,.slice A 0 c⟩) 52)) (by decide);rw [show inB (hasS 4) 78 = true by decide +kernel] at i1;rw [show inB (hasS 4) 75 = true by decide +kernel] at i2;rw [show inB (hasS 4) 86 = true by decide +kernel] at i3;rw [show inB (hasS 4) 82 = false by decide +kernel] at i4;rw [show inB (hasS 4) 83 = false by decide +kernel] at i5;rw [show hasS 4 = ⟨#[75,86,78]⟩ from rfl] at c1 i1 i2 i3 i4 i5;clear hr;go_enter Tryz.func70,Tryz.ntmps70
    go_upto_region 1 with fail
    obtain ⟨ga,hga⟩ : ∃ ga,w.heap.size = ga:=⟨_,rfl⟩
    have Hga:=Lib.hid hga;rw [hga] at x0 x1 x2 x3 x4 x5 hB ⊢;obtain ⟨W,hW⟩ : ∃ W,W = w.alloc (.cells (opPC ⟨4,n,key,val,id0,.slice A 0 c⟩) 52):=⟨_,rfl⟩
    rw [← hW] at x0 x1 x2 x3 x4 x5 hB c1 i1 i2 i3 i4 i5 hT0 ⊢;clear hW hga;(go_wp2_with fail);refine c1.mono ?_;rintro e w1 ⟨rfl,rfl⟩;(go_wp2_with fail);refine i1.mono ?_;rintro e w1 ⟨rfl,rfl⟩;(go_wp2_with fail);refine i2.mono ?_;rintro e w1 ⟨rfl,rfl⟩;(go_wp2_with fail);refine i3.mono ?_;rintro e w1 ⟨rfl,rfl⟩;(go_wp2_with fail);refine i4.mono ?_;rintro e w1 ⟨rfl,rfl⟩;(go_wp2_with fail);refine i5.mono ?_;rintro e w1 ⟨rfl,rfl⟩;clear c1 i1 i2 i3 i4 i5;have cis:=ris6 W A _ c _ hT0 hl;rw [Hrb.out] at cis;rw [← Hga.out] at hB;go_wp2_with fail
    all_goals
      first
      | (go_ret;exact ⟨ret_int (by rw [Hck.out];(try simp only [emptyS,List.length_nil] at *);(repeat' split) <;> (first | rfl | omega | (simp_all;done) | (simp_all;omega))),hB⟩)
      | (refine cis.mono ?_;rintro e w2 ⟨rfl,hb2⟩
         have hBB:=bel2 hB hb2;clear hT0 cis x0 x1 x2 x3 x4 x5 hb2;cases rb <;> (go_wp2_with fail;go_ret;exact ⟨ret_int (by rw [Hck.out];(try simp only [emptyS,List.length_nil] at *);(repeat' split) <;> (first | rfl | omega | (simp_all;done) | (simp_all;omega))),hBB⟩))
  · show Calls Tryz.prog 70 #[.agg (opPC ⟨5,0,key,val,id0,.slice A refs.length c⟩)] w _;change TagsIn (w.alloc (.cells (opPC ⟨5,0,key,val,id0,.slice A refs.length c⟩) 52)) A refs.length refs at hT0;have hB : Below w.heap.size w (w.alloc (.cells (opPC ⟨5,0,key,val,id0,.slice A refs.length c⟩) 52)):=(Below.refl _ _).alloc (Nat.le_refl _) _;have hr : rowAt (w.alloc (.cells (opPC ⟨5,0,key,val,id0,.slice A refs.length c⟩) 52)) w.heap.size 0 37 = some (opPC ⟨5,0,key,val,id0,.slice A refs.length c⟩):=by simp [go_sem]
    have x0:=rowAt_cell hr (j:=0) (by omega);have x1:=rowAt_cell hr (j:=1) (by omega);have x2:=rowAt_cell hr (j:=2) (by omega);have x3:=rowAt_cell hr (j:=3) (by omega);have x5:=rowAt_cell hr (j:=36) (by omega);have x4:=rowAt_sub hr (j:=4) (m:=32) (by omega);simp only [opPC_g0,opPC_g1,opPC_g2,opPC_g3,opPC_g36,opPC_e4,Nat.zero_add] at x0 x1 x2 x3 x4 x5;have c1:=rop_has 5 (w.alloc (.cells (opPC ⟨5,0,key,val,id0,.slice A refs.length c⟩) 52)) (by omega);have i1:=rop_in (hasS 5) 78 (w.alloc (.cells (opPC ⟨5,0,key,val,id0,.slice A refs.length c⟩) 52)) (by decide);have i2:=rop_in (hasS 5) 75 (w.alloc (.cells (opPC ⟨5,0,key,val,id0,.slice A refs.length c⟩) 52)) (by decide);have i3:=rop_in (hasS 5) 86 (w.alloc (.cells (opPC ⟨5,0,key,val,id0,.slice A refs.length c⟩) 52)) (by decide);have i4:=rop_in (hasS 5) 82 (w.alloc (.cells (opPC ⟨5,0,key,val,id0,.slice A refs.length c⟩) 52)) (by decide);have i5:=rop_in (hasS 5) 83 (w.alloc (.cells (opPC ⟨5,0,key,val,id0,.slice A refs.length c⟩) 52)) (by decide);rw [show inB (hasS 5) 78 = false by decide +kernel] at i1;rw [show inB (hasS 5) 75 = true by decide +kernel] at i2;rw [show inB (hasS 5) 86 = true by decide +kernel] at i3;rw [show inB (hasS 5) 82 = false by decide +kernel] at i4;rw [show inB (hasS 5) 83 = true by decide +kernel] at i5;rw [show hasS 5 = ⟨#[75,86,83]⟩ from rfl] at c1 i1 i2 i3 i4 i5;clear hr;go_enter Tryz.func70,Tryz.ntmps70
    go_upto_region 1 with fail
    obtain ⟨ga,hga⟩ : ∃ ga,w.heap.size = ga:=⟨_,rfl⟩
    have Hga:=Lib.hid hga;rw [hga] at x0 x1 x2 x3 x4 x5 hB ⊢;obtain ⟨W,hW⟩ : ∃ W,W = w.alloc (.cells (opPC ⟨5,0,key,val,id0,.slice A refs.length c⟩) 52):=⟨_,rfl⟩
    rw [← hW] at x0 x1 x2 x3 x4 x5 hB c1 i1 i2 i3 i4 i5 hT0 ⊢;clear hW hga;(go_wp2_with fail);refine c1.mono ?_;rintro e w1 ⟨rfl,rfl⟩;(go_wp2_with fail);refine i1.mono ?_;rintro e w1 ⟨rfl,rfl⟩;(go_wp2_with fail);refine i2.mono ?_;rintro e w1 ⟨rfl,rfl⟩;(go_wp2_with fail);refine i3.mono ?_;rintro e w1 ⟨rfl,rfl⟩;(go_wp2_with fail);refine i4.mono ?_;rintro e w1 ⟨rfl,rfl⟩;(go_wp2_with fail);refine i5.mono ?_;rintro e w1 ⟨rfl,rfl⟩;clear c1 i1 i2 i3 i4 i5;have cis:=ris6 W A _ c _ hT0 hl;rw [Hrb.out] at cis;rw [← Hga.out] at hB;go_wp2_with fail
    all_goals
      first
      | (go_ret;exact ⟨ret_int (by rw [Hck.out];(try simp only [emptyS,List.length_nil] at *);(repeat' split) <;> (first | rfl | omega | (simp_all;done) | (simp_all;omega))),hB⟩)
      | (refine cis.mono ?_;rintro e w2 ⟨rfl,hb2⟩
         have hBB:=bel2 hB hb2;clear hT0 cis x0 x1 x2 x3 x4 x5 hb2;cases rb <;> (go_wp2_with fail;go_ret;exact ⟨ret_int (by rw [Hck.out];(try simp only [emptyS,List.length_nil] at *);(repeat' split) <;> (first | rfl | omega | (simp_all;done) | (simp_all;omega))),hBB⟩))
  · show Calls Tryz.prog 70 #[.agg (opPC ⟨6,0,⟨#[]⟩,val,ref,.slice A 0 c⟩)] w _;change TagsIn (w.alloc (.cells (opPC ⟨6,0,⟨#[]⟩,val,ref,.slice A 0 c⟩) 52)) A 0 [] at hT0;have hB : Below w.heap.size w (w.alloc (.cells (opPC ⟨6,0,⟨#[]⟩,val,ref,.slice A 0 c⟩) 52)):=(Below.refl _ _).alloc (Nat.le_refl _) _;have hr : rowAt (w.alloc (.cells (opPC ⟨6,0,⟨#[]⟩,val,ref,.slice A 0 c⟩) 52)) w.heap.size 0 37 = some (opPC ⟨6,0,⟨#[]⟩,val,ref,.slice A 0 c⟩):=by simp [go_sem]
    have x0:=rowAt_cell hr (j:=0) (by omega);have x1:=rowAt_cell hr (j:=1) (by omega);have x2:=rowAt_cell hr (j:=2) (by omega);have x3:=rowAt_cell hr (j:=3) (by omega);have x5:=rowAt_cell hr (j:=36) (by omega);have x4:=rowAt_sub hr (j:=4) (m:=32) (by omega);simp only [opPC_g0,opPC_g1,opPC_g2,opPC_g3,opPC_g36,opPC_e4,Nat.zero_add] at x0 x1 x2 x3 x4 x5;have c1:=rop_has 6 (w.alloc (.cells (opPC ⟨6,0,⟨#[]⟩,val,ref,.slice A 0 c⟩) 52)) (by omega);have i1:=rop_in (hasS 6) 78 (w.alloc (.cells (opPC ⟨6,0,⟨#[]⟩,val,ref,.slice A 0 c⟩) 52)) (by decide);have i2:=rop_in (hasS 6) 75 (w.alloc (.cells (opPC ⟨6,0,⟨#[]⟩,val,ref,.slice A 0 c⟩) 52)) (by decide);have i3:=rop_in (hasS 6) 86 (w.alloc (.cells (opPC ⟨6,0,⟨#[]⟩,val,ref,.slice A 0 c⟩) 52)) (by decide);have i4:=rop_in (hasS 6) 82 (w.alloc (.cells (opPC ⟨6,0,⟨#[]⟩,val,ref,.slice A 0 c⟩) 52)) (by decide);have i5:=rop_in (hasS 6) 83 (w.alloc (.cells (opPC ⟨6,0,⟨#[]⟩,val,ref,.slice A 0 c⟩) 52)) (by decide);rw [show inB (hasS 6) 78 = false by decide +kernel] at i1;rw [show inB (hasS 6) 75 = false by decide +kernel] at i2;rw [show inB (hasS 6) 86 = true by decide +kernel] at i3;rw [show inB (hasS 6) 82 = true by decide +kernel] at i4;rw [show inB (hasS 6) 83 = false by decide +kernel] at i5;rw [show hasS 6 = ⟨#[82,86]⟩ from rfl] at c1 i1 i2 i3 i4 i5;clear hr;go_enter Tryz.func70,Tryz.ntmps70
    go_upto_region 1 with fail
    obtain ⟨ga,hga⟩ : ∃ ga,w.heap.size = ga:=⟨_,rfl⟩
    have Hga:=Lib.hid hga;rw [hga] at x0 x1 x2 x3 x4 x5 hB ⊢;obtain ⟨W,hW⟩ : ∃ W,W = w.alloc (.cells (opPC ⟨6,0,⟨#[]⟩,val,ref,.slice A 0 c⟩) 52):=⟨_,rfl⟩
    rw [← hW] at x0 x1 x2 x3 x4 x5 hB c1 i1 i2 i3 i4 i5 hT0 ⊢;clear hW hga;(go_wp2_with fail);refine c1.mono ?_;rintro e w1 ⟨rfl,rfl⟩;(go_wp2_with fail);refine i1.mono ?_;rintro e w1 ⟨rfl,rfl⟩;(go_wp2_with fail);refine i2.mono ?_;rintro e w1 ⟨rfl,rfl⟩;(go_wp2_with fail);refine i3.mono ?_;rintro e w1 ⟨rfl,rfl⟩;(go_wp2_with fail);refine i4.mono ?_;rintro e w1 ⟨rfl,rfl⟩;(go_wp2_with fail);refine i5.mono ?_;rintro e w1 ⟨rfl,rfl⟩;clear c1 i1 i2 i3 i4 i5;have cis:=ris6 W A _ c _ hT0 hl;rw [Hrb.out] at cis;rw [← Hga.out] at hB;go_wp2_with fail
    all_goals
      first
      | (go_ret;exact ⟨ret_int (by rw [Hck.out];(try simp only [emptyS,List.length_nil] at *);(repeat' split) <;> (first | rfl | omega | (simp_all;done) | (simp_all;omega))),hB⟩)
      | (refine cis.mono ?_;rintro e w2 ⟨rfl,hb2⟩
         have hBB:=bel2 hB hb2;clear hT0 cis x0 x1 x2 x3 x4 x5 hb2;cases rb <;> (go_wp2_with fail;go_ret;exact ⟨ret_int (by rw [Hck.out];(try simp only [emptyS,List.length_nil] at *);(repeat' split) <;> (first | rfl | omega | (simp_all;done) | (simp_all;omega))),hBB⟩))
  · show Calls Tryz.prog 70 #[.agg (opPC ⟨7,0,⟨#[]⟩,⟨#[]⟩,ref,.slice A 0 c⟩)] w _;change TagsIn (w.alloc (.cells (opPC ⟨7,0,⟨#[]⟩,⟨#[]⟩,ref,.slice A 0 c⟩) 52)) A 0 [] at hT0;have hB : Below w.heap.size w (w.alloc (.cells (opPC ⟨7,0,⟨#[]⟩,⟨#[]⟩,ref,.slice A 0 c⟩) 52)):=(Below.refl _ _).alloc (Nat.le_refl _) _;have hr : rowAt (w.alloc (.cells (opPC ⟨7,0,⟨#[]⟩,⟨#[]⟩,ref,.slice A 0 c⟩) 52)) w.heap.size 0 37 = some (opPC ⟨7,0,⟨#[]⟩,⟨#[]⟩,ref,.slice A 0 c⟩):=by simp [go_sem]
    have x0:=rowAt_cell hr (j:=0) (by omega);have x1:=rowAt_cell hr (j:=1) (by omega);have x2:=rowAt_cell hr (j:=2) (by omega);have x3:=rowAt_cell hr (j:=3) (by omega);have x5:=rowAt_cell hr (j:=36) (by omega);have x4:=rowAt_sub hr (j:=4) (m:=32) (by omega);simp only [opPC_g0,opPC_g1,opPC_g2,opPC_g3,opPC_g36,opPC_e4,Nat.zero_add] at x0 x1 x2 x3 x4 x5;have c1:=rop_has 7 (w.alloc (.cells (opPC ⟨7,0,⟨#[]⟩,⟨#[]⟩,ref,.slice A 0 c⟩) 52)) (by omega);have i1:=rop_in (hasS 7) 78 (w.alloc (.cells (opPC ⟨7,0,⟨#[]⟩,⟨#[]⟩,ref,.slice A 0 c⟩) 52)) (by decide);have i2:=rop_in (hasS 7) 75 (w.alloc (.cells (opPC ⟨7,0,⟨#[]⟩,⟨#[]⟩,ref,.slice A 0 c⟩) 52)) (by decide);have i3:=rop_in (hasS 7) 86 (w.alloc (.cells (opPC ⟨7,0,⟨#[]⟩,⟨#[]⟩,ref,.slice A 0 c⟩) 52)) (by decide);have i4:=rop_in (hasS 7) 82 (w.alloc (.cells (opPC ⟨7,0,⟨#[]⟩,⟨#[]⟩,ref,.slice A 0 c⟩) 52)) (by decide);have i5:=rop_in (hasS 7) 83 (w.alloc (.cells (opPC ⟨7,0,⟨#[]⟩,⟨#[]⟩,ref,.slice A 0 c⟩) 52)) (by decide);rw [show inB (hasS 7) 78 = false by decide +kernel] at i1;rw [show inB (hasS 7) 75 = false by decide +kernel] at i2;rw [show inB (hasS 7) 86 = false by decide +kernel] at i3;rw [show inB (hasS 7) 82 = true by decide +kernel] at i4;rw [show inB (hasS 7) 83 = false by decide +kernel] at i5;rw [show hasS 7 = ⟨#[82]⟩ from rfl] at c1 i1 i2 i3 i4 i5;clear hr;go_enter Tryz.func70,Tryz.ntmps70
    go_upto_region 1 with fail
    obtain ⟨ga,hga⟩ : ∃ ga,w.heap.size = ga:=⟨_,rfl⟩
    have Hga:=Lib.hid hga;rw [hga] at x0 x1 x2 x3 x4 x5 hB ⊢;obtain ⟨W,hW⟩ : ∃ W,W = w.alloc (.cells (opPC ⟨7,0,⟨#[]⟩,⟨#[]⟩,ref,.slice A 0 c⟩) 52):=⟨_,rfl⟩
    rw [← hW] at x0 x1 x2 x3 x4 x5 hB c1 i1 i2 i3 i4 i5 hT0 ⊢;clear hW hga;(go_wp2_with fail);refine c1.mono ?_;rintro e w1 ⟨rfl,rfl⟩;(go_wp2_with fail);refine i1.mono ?_;rintro e w1 ⟨rfl,rfl⟩;(go_wp2_with fail);refine i2.mono ?_;rintro e w1 ⟨rfl,rfl⟩;(go_wp2_with fail);refine i3.mono ?_;rintro e w1 ⟨rfl,rfl⟩;(go_wp2_with fail);refine i4.mono ?_;rintro e w1 ⟨rfl,rfl⟩;(go_wp2_with fail);refine i5.mono ?_;rintro e w1 ⟨rfl,rfl⟩;clear c1 i1 i2 i3 i4 i5;have cis:=ris6 W A _ c _ hT0 hl;rw [Hrb.out] at cis;rw [← Hga.out] at hB;go_wp2_with fail
    all_goals
      first
      | (go_ret;exact ⟨ret_int (by rw [Hck.out];(try simp only [emptyS,List.length_nil] at *);(repeat' split) <;> (first | rfl | omega | (simp_all;done) | (simp_all;omega))),hB⟩)
      | (refine cis.mono ?_;rintro e w2 ⟨rfl,hb2⟩
         have hBB:=bel2 hB hb2;clear hT0 cis x0 x1 x2 x3 x4 x5 hb2;cases rb <;> (go_wp2_with fail;go_ret;exact ⟨ret_int (by rw [Hck.out];(try simp only [emptyS,List.length_nil] at *);(repeat' split) <;> (first | rfl | omega | (simp_all;done) | (simp_all;omega))),hBB⟩))
end
section
open Go.RowKit
@[go_sem] theorem buildRr_s (s : ByteArray) (w : World) : (bdS 112 #[(0,.string s)]).run Tryz.prog w = .ok (.agg (rrC ⟨s,0⟩)) w:=by kernel_rfl
set_option maxRecDepth 100000 in
set_option maxHeartbeats 4000000 in
theorem rop_of (s : ByteArray) (w : World) (hs : s.size ≤ 9223372036854775807) :
    Calls Tryz.prog 27 #[.string s] w (OfRes w s.data.toList):=by
  obtain ⟨l,hl⟩ : ∃ l,s.data.toList = l:=⟨_,rfl⟩
  have hsl : s = mkB l:=by rw [← hl];rfl
  have hll : l.length ≤ 9223372036854775807:=by rw [← hl];exact hs
  have hb0 : Below w.heap.size w ((w.alloc (.cells (opPC opP0) 52)).alloc (.cells (rrC ⟨mkB l,0⟩) 112)):=((Below.refl _ _).alloc (Nat.le_refl _) _).alloc (by simp) _;have hg2 : ((w.alloc (.cells (opPC opP0) 52)).alloc (.cells (rrC ⟨mkB l,0⟩) 112)).heap[w.heap.size]? = some (.cells (opPC opP0) 52 (0,0)):=by
    rw [Below.heap_alloc _ _ _ (by simp)];exact heap_alloc_new w _
  have hr1 : RrAt ((w.alloc (.cells (opPC opP0) 52)).alloc (.cells (rrC ⟨mkB l,0⟩) 112)) (w.heap.size + 1) l 0:=⟨hll,by
    have:=heap_alloc_new (w.alloc (.cells (opPC opP0) 52)) (.cells (rrC ⟨mkB l,0⟩) 112);simpa using this⟩
  rw [hl];subst hsl;clear hl hs;have hE : opE l = if rawE 1 l 0 ≠ 0 then rawE 1 l 0
    else if numV 1 l 0 = 0 ∨ 7 < numV 1 l 0 then 10
    else if endE (takeO (numV 1 l 0) (rawL 1 l 0) 0).l (takeO (numV 1 l 0) (rawL 1 l 0) 0).e ≠ 0 then endE (takeO (numV 1 l 0) (rawL 1 l 0) 0).l (takeO (numV 1 l 0) (rawL 1 l 0) 0).e
    else chkO (takeO (numV 1 l 0) (rawL 1 l 0) 0).o:=rfl
  have hO : opO l = (takeO (numV 1 l 0) (rawL 1 l 0) 0).o:=rfl;have hk8:=numV_lt 1 l 0;have hk9 : numV 1 l 0 < 256:=by simpa using hk8
  have HE:=Lib.hid hE;have HO:=Lib.hid hO;clear hE hO hk8;show Calls Tryz.prog 27 #[.string (mkB l)] w _;go_enter Tryz.func27,Tryz.ntmps27
  go_upto_region 2 with fail
  obtain ⟨ga,hga⟩ : ∃ ga,w.heap.size = ga:=⟨_,rfl⟩
  have Hga:=Lib.hid hga;obtain ⟨W,hW⟩ : ∃ W,W = (w.alloc (.cells (opPC opP0) 52)).alloc (.cells (rrC ⟨mkB l,0⟩) 112):=⟨_,rfl⟩
  rw [← hW] at hb0 hg2 hr1 ⊢;rw [hga] at hg2 hr1 hb0 ⊢;clear hW hga;obtain ⟨gr,hgr⟩ : ∃ gr,ga + 1 = gr:=⟨_,rfl⟩
  have hgar : ga < gr:=by omega
  rw [hgr] at hr1 ⊢;clear hgr;(go_wp2_with fail);refine (rr_num W gr 1 l 0 hr1 (.inl rfl)).mono ?_;rintro en w2 ⟨rfl,hr2,hk2⟩;have hg22:=(hk2.block ga (by have:=hr1.lt;omega) (by simp;omega)).trans hg2;have hb02 : Below ga w w2:=hb0.trans (hk2.below (by have:=hr1.lt;omega) (by simp;omega));obtain ⟨k,hk⟩ : ∃ k,numV 1 l 0 = k:=⟨_,rfl⟩
  rw [hk] at HE HO hk9 ⊢;clear hr1 hk2 hg2 hb0 hk;have hbx : Below w2.heap.size w2 (w2.alloc (.cells (opPC ⟨k,0,⟨#[]⟩,⟨#[]⟩,id0,.slice none 0 0⟩) 52)):=(Below.refl _ _).alloc (Nat.le_refl _) _;have hg3 : (w2.alloc (.cells (opPC ⟨k,0,⟨#[]⟩,⟨#[]⟩,id0,.slice none 0 0⟩) 52)).heap[w2.heap.size]? = some (.cells (opPC ⟨k,0,⟨#[]⟩,⟨#[]⟩,id0,.slice none 0 0⟩) 52 (0,0)):=heap_alloc_new w2 _;have hg2:=(hbx.block ga (Array.getElem?_eq_some_iff.1 hg22).1).trans hg22;have hr3:=hr2.below hbx;have hrlt:=hr2.lt;have hb03 : Below ga w (w2.alloc (.cells (opPC ⟨k,0,⟨#[]⟩,⟨#[]⟩,id0,.slice none 0 0⟩) 52)):=hb02.trans (hbx.mono (by omega));clear hbx hg22 hr2 hb02;go_upto_region 3 with fail
  obtain ⟨go,hgo⟩ : ∃ go,w2.heap.size = go:=⟨_,rfl⟩
  obtain ⟨W,hW⟩ : ∃ W,W = w2.alloc (.cells (opPC ⟨k,0,⟨#[]⟩,⟨#[]⟩,id0,.slice none 0 0⟩) 52):=⟨_,rfl⟩
  rw [← hW] at hg3 hg2 hr3 hb03 ⊢;rw [hgo] at hg3 hrlt ⊢;clear hW hgo;obtain ⟨c0,c1,hfz⟩:=rr_cells hr3;have hx0 : W.cell? ⟨go,0,none⟩ = some (.int .i64 k):=by rw [cell_of_row W go 0 _ _ _ hg3];simp [go_sem]
  have hgoW : go < W.heap.size:=(Array.getElem?_eq_some_iff.1 hg3).1;by_cases he : rawE 1 l 0 = 0
  · have hEE:=HE.out;rw [if_neg (by rw [he];simp)] at hEE;rw [he] at hr3 c1;have HEE:=Lib.hid hEE;clear hEE he HE;by_cases hk0 : k = 0 ∨ 7 < k
    · have h2:=HEE.out;rw [if_pos hk0] at h2;have hem:=has_empty k;rw [decide_eq_true hk0] at hem;have chs:=rop_has k W (by omega);have HEE2:=Lib.hid h2;clear h2 HEE HO hk0;have hsto:=run_stS_at (P:=Tryz.prog) infoOpP W ga (opPC opP0) (opPC opP0) _ hg2 (by simp) (by simp) (opPC_one _ rfl);have Hfin:=Lib.hid (setRow_heap W ga _ (opPC opP0) _ _ hg2);have hkf : Keep [ga] W (W.setRow ga (opPC opP0)):=⟨rfl,rfl,rfl,by simp [World.setRow],fun x _ hx=>setRow_other W ga x _ (by simpa using hx)⟩
      have hbf : Below ga w (W.setRow ga (opPC opP0)):=hb03.trans (hkf.below (by have:=hr3.lt;omega) (by simp));have Hbf:=Lib.hid hbf;clear hbf hkf hg2 hr3 hb03 hg3;(go_wp2_with fail);refine chs.mono ?_;rintro en w3 ⟨rfl,rfl⟩;(go_wp2_with fail);refine bodyPost_ret (results_cell_tmp Tryz.results27 _ _ ga 52 (opPC opP0) (0,0) _ rfl Hfin.out Tryz.underlying52 rfl (by first | (rw [opPC_size];exact infoOpP) | (rw [opC_size];exact infoOpP))) rfl ?_;exact ⟨_,by rw [HEE2.out];rfl,fun h0=>absurd (HEE2.out.symm.trans h0) (by omega),fun _=>rfl,by rw [Hga.out];exact Hbf.out⟩
    · have h2:=HEE.out;rw [if_neg hk0] at h2;have HEE2:=Lib.hid h2;have hk1 : 1 ≤ k:=by omega
      have hk7 : k ≤ 7:=by omega
      have hpl:=plain_take k (rawL 1 l 0) 0 hk1 hk7;have hck:=chk_take k (rawL 1 l 0) 0 hk1 hk7;have hrn:=of_run k (rawL 1 l 0) 0 hk1 hk7;have hks:=take_small k (rawL 1 l 0) 0 hk1 hk7;have hem:=has_empty k;rw [decide_eq_false hk0] at hem;have chs:=rop_has k W (by omega);have hsz:=has_size k;have hch:=has_chars k;obtain ⟨S,hS⟩ : ∃ S,hasS k = S:=⟨_,rfl⟩
      rw [hS] at hem chs hsz hch hrn;obtain ⟨R,hR⟩ : ∃ R,takeO k (rawL 1 l 0) 0 = R:=⟨_,rfl⟩
      rw [hR] at HEE2 HO hpl hck hrn hks;obtain ⟨o,l2,e2⟩:=R;dsimp only at *;have Hpl:=Lib.hid hpl;have Hck:=Lib.hid hck;have Hrn:=Lib.hid hrn;have HKS:=Lib.hid hks;have Hch:=Lib.hid hch;clear h2 HEE hk0 hR hpl hck hS hrn hch hfz c0 hks;(go_wp2_with fail);refine chs.mono ?_;rintro en w3 ⟨rfl,rfl⟩;clear chs c1;have Hb03:=Lib.hid hb03;clear hb03;(go_wp2_with fail);go_loopw [7,8,9] (fun iv _ _ wr=>∃ (i : Nat) (s : OfS) (A : Option Addr) (cap : Nat),i ≤ S.size ∧ iv = .int .i64 i ∧ Hid (S.data.toList.foldl (ofStep k) (ofS0 (rawL 1 l 0) 0) = (S.data.toList.drop i).foldl (ofStep k) s) ∧ wr.heap[go]? = some (.cells (opPC ⟨k,s.n,s.key,s.val,s.ref,.slice A s.refs.length cap⟩) 52 (0,0)) ∧ wr.heap[ga]? = some (.cells (opPC opP0) 52 (0,0)) ∧ RrAt wr gr s.l s.e ∧ Own wr W.heap.size 39 32 A s.refs.length cap (s.refs.map idC) ∧ Keep [gr,go] W wr ∧ s.refs.length ≤ 255 * i) (fun iv _ _ _=>S.size - (intOf iv).toNat)
      case atStart=>exact ⟨0,ofS0 (rawL 1 l 0) 0,none,0,Nat.zero_le _,rfl,rfl,hg3,hg2,hr3,Own.nil _ _ _ _,Keep.refl _ _,Nat.le_refl _⟩
      case round =>
        clear hg3 hg2 hr3 hx0;obtain ⟨i,s,A,cap,hi,rfl,hrun,hg3,hg2,hE,hown,hK,hrl⟩:=hrel;obtain ⟨n1,key1,val1,ref1,refs1,l1,e1⟩:=s;dsimp only at *;by_cases hlt : i < S.size
        · have hlt' : i < S.data.toList.length:=by simpa using hlt
          have hdr : S.data.toList.drop i = S.data.toList[i]'hlt' :: S.data.toList.drop (i + 1):=List.drop_eq_getElem_cons hlt';have hge : S[i]'hlt = S.data.toList[i]'hlt':=by rw [Array.getElem_toList];rfl
          have hmem : S.data.toList[i]'hlt' ∈ S.data.toList:=List.getElem_mem hlt';have hcs:=Hch.out _ hmem;obtain ⟨c,hc⟩ : ∃ c,S.data.toList[i]'hlt' = c:=⟨_,rfl⟩
          rw [hc] at hdr hge hcs;have hrun2:=hrun.out;rw [hdr,List.foldl_cons] at hrun2;have Hrun:=Lib.hid hrun2;clear hdr hmem hc hrun hrun2 hlt';have hno : go ∉ [gr]:=by simp;omega
          have hnr : gr ∉ [go]:=by simp;omega
          have hna : ga ∉ [gr,go]:=by simp;omega
          have hA1 : ∀ x ∈ blk A,x ∉ [gr]:=fun x hx=>(by have:=(hown.at_base hx).1;simp;omega);have hA2 : ∀ x ∈ blk A,x ∉ [go]:=fun x hx=>(by have:=(hown.at_base hx).1;simp;omega);rcases hcs with rfl | rfl | rfl | rfl | rfl
          · skip;(go_wp2_with fail);refine (rr_num _ gr 4 _ _ hE (.inr rfl)).mono ?_;rintro en w3 ⟨rfl,hE3,hk23⟩;have hn4:=numV_lt 4 l1 e1;obtain ⟨nv,hnv⟩ : ∃ nv,numV 4 l1 e1 = nv:=⟨_,rfl⟩
            rw [hnv] at hn4 ⊢;have Hst : Hid (ofStep k ⟨n1,key1,val1,ref1,refs1,l1,e1⟩ 78 = ⟨if k = 1 then (nv : Int) - 2147483648 else (nv : Int),key1,val1,ref1,refs1,rawL 4 l1 e1,rawE 4 l1 e1⟩):=Lib.hid (by rw [of_78,hnv]);clear hnv;have hn5 : nv < 4294967296:=by simpa using hn4
            clear hn4;have h83:=(hk23.block go (Array.getElem?_eq_some_iff.1 hg3).1 hno).trans hg3;have hc83 : ∀ j,w3.frozen? ⟨go,j,none⟩ = false:=fun j=>(by simp [World.frozen?,h83]);have f0:=hc83 1;have hg3n:=heap_setCell_same h83 1 (.int .i64 nv);rw [opPC_set1] at hg3n;have hks:=Keep.setCell w3 ⟨go,1,none⟩ (.int .i64 nv);have hEn:=hE3.kept hks hnr;have hg2n:=((Keep.trans (hk23.mono (S':=[gr,go]) (by simp)) (hks.mono (S':=[gr,go]) (by simp)) (fun x hx=>.inl hx)).block ga (Array.getElem?_eq_some_iff.1 hg2).1 hna).trans hg2;have hownn:=(hown.kept hk23 hA1).kept hks hA2;have hKn : Keep [gr,go] W (w3.setCell ⟨go,1,none⟩ (.int .i64 nv)):=Keep.trans (Keep.trans hK (hk23.mono (S':=[gr,go]) (by simp)) (fun x hx=>.inl hx)) (hks.mono (S':=[gr,go]) (by simp)) (fun x hx=>.inl hx);clear hc83 hks hE hE3 hk23 hown hK hg2 hg3;have x0 : w3.cell? ⟨go,1,none⟩ = some (.int .i64 n1):=by rw [cell_of_row w3 go _ _ _ _ h83];simp [go_sem]
            clear h83;go_upto_region 19 with fail
            obtain ⟨W',hW'⟩ : ∃ W',W' = w3.setCell ⟨go,1,none⟩ (.int .i64 nv):=⟨_,rfl⟩
            rw [← hW'] at hg3n hEn hg2n hownn hKn ⊢;clear hW' x0 f0;have y0 : W'.cell? ⟨go,0,none⟩ = some (.int .i64 k):=by rw [cell_of_row W' go _ _ _ _ hg3n];simp [go_sem]
            cases hkb : ((k : Int) == 1) with
            | false =>
              have hk1n : k ≠ 1:=by intro h;subst h;simp at hkb
              have hst:=Hst.out;rw [if_neg hk1n] at hst;have Hst2:=Lib.hid hst;clear hst hk1n Hst;(go_wp2_with fail);go_roundw
              case rel=>exact ⟨i + 1,⟨nv,key1,val1,ref1,refs1,rawL 4 l1 e1,rawE 4 l1 e1⟩,A,cap,by omega,by go_num,(show _ = _ by rw [Hrun.out,Hst2.out]),hg3n,hg2n,hEn,hownn,hKn,(by simp only;omega)⟩
              case measure=>simp [intOf];omega
            | true =>
              have hk1y : k = 1:=by have : (k : Int) = 1:=by simpa using hkb
                                    omega
              have hst:=Hst.out;rw [if_pos hk1y] at hst;have Hst2:=Lib.hid hst;clear hst hk1y Hst;have f0 : W'.frozen? ⟨go,1,none⟩ = false:=by simp [World.frozen?,hg3n]
              have x0 : W'.cell? ⟨go,1,none⟩ = some (.int .i64 nv):=by rw [cell_of_row W' go _ _ _ _ hg3n];simp [go_sem]
              have hw : IntKind.i64.wrap ((nv : Int) - 2147483648) = (nv : Int) - 2147483648:=IntWalk.i64_in _ (by omega);have hg3m:=heap_setCell_same hg3n 1 (.int .i64 ((nv : Int) - 2147483648));rw [opPC_set1] at hg3m;have hks:=Keep.setCell W' ⟨go,1,none⟩ (.int .i64 ((nv : Int) - 2147483648));have hEm:=RrAt.kept hEn hks hnr;have hg2m:=(hks.block ga (Array.getElem?_eq_some_iff.1 hg2n).1 (by simp;omega)).trans hg2n;have hownm:=hownn.kept hks hA2;have hKm : Keep [gr,go] W (W'.setCell ⟨go,1,none⟩ (.int .i64 ((nv : Int) - 2147483648))):=Keep.trans hKn (hks.mono (S':=[gr,go]) (by simp)) (fun x hx=>.inl hx);clear hks hEn hg2n hownn hKn hg3n;(go_wp2_with fail);go_roundw
              case rel=>exact ⟨i + 1,⟨(nv : Int) - 2147483648,key1,val1,ref1,refs1,rawL 4 l1 e1,rawE 4 l1 e1⟩,A,cap,by omega,by go_num,(show _ = _ by rw [Hrun.out,Hst2.out]),hg3m,hg2m,hEm,hownm,hKm,(by simp only;omega)⟩
              case measure=>simp [intOf];omega
          · skip;(go_wp2_with fail);refine (rr_num _ gr 1 _ _ hE (.inl rfl)).mono ?_;rintro en w2 ⟨rfl,hr2,hk2⟩;have hn2:=numV_lt 1 l1 e1;(go_wp2_with fail);refine (rr_raw _ gr _ _ _ hr2 (by omega)).mono ?_;rintro en w3 ⟨rfl,hE3,hk3⟩;replace hE3 : RrAt w3 gr (txL l1 e1) (txE l1 e1):=hE3;obtain ⟨tv,hkv⟩ : ∃ tv,mkB (rawV (numV 1 l1 e1) (rawL 1 l1 e1) (rawE 1 l1 e1)) = tv:=⟨_,rfl⟩
            have Htv:=Lib.hid (show txV l1 e1 = tv from hkv);rw [hkv];have hk23 : Keep [gr] wr w3:=Keep.trans hk2 hk3 (fun x hx=>.inl hx);clear hr2 hk2 hk3 hn2 hkv;have h83:=(hk23.block go (Array.getElem?_eq_some_iff.1 hg3).1 hno).trans hg3;have hc83 : ∀ j,w3.frozen? ⟨go,j,none⟩ = false:=fun j=>(by simp [World.frozen?,h83]);have f0:=hc83 2;have hg3n:=heap_setCell_same h83 2 (.string tv);rw [opPC_set2] at hg3n;have hks:=Keep.setCell w3 ⟨go,2,none⟩ (.string tv);have hEn:=hE3.kept hks hnr;have hg2n:=((Keep.trans (hk23.mono (S':=[gr,go]) (by simp)) (hks.mono (S':=[gr,go]) (by simp)) (fun x hx=>.inl hx)).block ga (Array.getElem?_eq_some_iff.1 hg2).1 hna).trans hg2;have hownn:=(hown.kept hk23 hA1).kept hks hA2;have hKn : Keep [gr,go] W (w3.setCell ⟨go,2,none⟩ (.string tv)):=Keep.trans (Keep.trans hK (hk23.mono (S':=[gr,go]) (by simp)) (fun x hx=>.inl hx)) (hks.mono (S':=[gr,go]) (by simp)) (fun x hx=>.inl hx);clear hc83 hks hE hE3 hk23 hown hK hg2 hg3;have x0 : w3.cell? ⟨go,2,none⟩ = some (.string key1):=by rw [cell_of_row w3 go _ _ _ _ h83];simp [go_sem]
            clear h83;(go_wp2_with fail);go_roundw
            case rel=>exact ⟨i + 1,⟨n1,tv,val1,ref1,refs1,txL l1 e1,txE l1 e1⟩,A,cap,by omega,by go_num,(show _ = _ by rw [Hrun.out,of_75,Htv.out]),hg3n,hg2n,hEn,hownn,hKn,(by simp only;omega)⟩
            case measure=>simp [intOf];omega
          · skip;(go_wp2_with fail);refine (rr_num _ gr 1 _ _ hE (.inl rfl)).mono ?_;rintro en w2 ⟨rfl,hr2,hk2⟩;have hn2:=numV_lt 1 l1 e1;(go_wp2_with fail);refine (rr_raw _ gr _ _ _ hr2 (by omega)).mono ?_;rintro en w3 ⟨rfl,hE3,hk3⟩;replace hE3 : RrAt w3 gr (txL l1 e1) (txE l1 e1):=hE3;obtain ⟨tv,hkv⟩ : ∃ tv,mkB (rawV (numV 1 l1 e1) (rawL 1 l1 e1) (rawE 1 l1 e1)) = tv:=⟨_,rfl⟩
            have Htv:=Lib.hid (show txV l1 e1 = tv from hkv);rw [hkv];have hk23 : Keep [gr] wr w3:=Keep.trans hk2 hk3 (fun x hx=>.inl hx);clear hr2 hk2 hk3 hn2 hkv;have h83:=(hk23.block go (Array.getElem?_eq_some_iff.1 hg3).1 hno).trans hg3;have hc83 : ∀ j,w3.frozen? ⟨go,j,none⟩ = false:=fun j=>(by simp [World.frozen?,h83]);have f0:=hc83 3;have hg3n:=heap_setCell_same h83 3 (.string tv);rw [opPC_set3] at hg3n;have hks:=Keep.setCell w3 ⟨go,3,none⟩ (.string tv);have hEn:=hE3.kept hks hnr;have hg2n:=((Keep.trans (hk23.mono (S':=[gr,go]) (by simp)) (hks.mono (S':=[gr,go]) (by simp)) (fun x hx=>.inl hx)).block ga (Array.getElem?_eq_some_iff.1 hg2).1 hna).trans hg2;have hownn:=(hown.kept hk23 hA1).kept hks hA2;have hKn : Keep [gr,go] W (w3.setCell ⟨go,3,none⟩ (.string tv)):=Keep.trans (Keep.trans hK (hk23.mono (S':=[gr,go]) (by simp)) (fun x hx=>.inl hx)) (hks.mono (S':=[gr,go]) (by simp)) (fun x hx=>.inl hx);clear hc83 hks hE hE3 hk23 hown hK hg2 hg3;have x0 : w3.cell? ⟨go,3,none⟩ = some (.string val1):=by rw [cell_of_row w3 go _ _ _ _ h83];simp [go_sem]
            clear h83;(go_wp2_with fail);go_roundw
            case rel=>exact ⟨i + 1,⟨n1,key1,tv,ref1,refs1,txL l1 e1,txE l1 e1⟩,A,cap,by omega,by go_num,(show _ = _ by rw [Hrun.out,of_86,Htv.out]),hg3n,hg2n,hEn,hownn,hKn,(by simp only;omega)⟩
            case measure=>simp [intOf];omega
          · skip;(go_wp2_with fail);refine (rr_id _ gr _ _ hE).mono ?_;rintro en w3 ⟨rfl,hE3,hk23⟩;obtain ⟨d,hd⟩ : ∃ d,idOf (rawV 32 l1 e1) = d:=⟨_,rfl⟩
            have Hst : Hid (ofStep k ⟨n1,key1,val1,ref1,refs1,l1,e1⟩ 82 = ⟨n1,key1,val1,d,refs1,rawL 32 l1 e1,rawE 32 l1 e1⟩):=Lib.hid (by rw [of_82,hd]);rw [hd];clear hd;have h83:=(hk23.block go (Array.getElem?_eq_some_iff.1 hg3).1 hno).trans hg3;have hst:=store_ref d h83;have hg3n:=setRow_heap w3 go _ (opPC ⟨k,n1,key1,val1,d,.slice A refs1.length cap⟩) _ _ h83;have hks : Keep [go] w3 (w3.setRow go (opPC ⟨k,n1,key1,val1,d,.slice A refs1.length cap⟩)):=⟨rfl,rfl,rfl,by simp [World.setRow],fun x _ hx=>setRow_other w3 go x _ (by simpa using hx)⟩
            have hEn:=RrAt.kept hE3 hks hnr;have hg2n:=((Keep.trans (hk23.mono (S':=[gr,go]) (by simp)) (hks.mono (S':=[gr,go]) (by simp)) (fun x hx=>.inl hx)).block ga (Array.getElem?_eq_some_iff.1 hg2).1 hna).trans hg2;have hownn:=(hown.kept hk23 hA1).kept hks hA2;have hKn : Keep [gr,go] W (w3.setRow go (opPC ⟨k,n1,key1,val1,d,.slice A refs1.length cap⟩)):=Keep.trans (Keep.trans hK (hk23.mono (S':=[gr,go]) (by simp)) (fun x hx=>.inl hx)) (hks.mono (S':=[gr,go]) (by simp)) (fun x hx=>.inl hx);clear hks hE hE3 hk23 hown hK hg2 hg3 h83;(go_wp2_with fail);go_roundw
            case rel=>exact ⟨i + 1,⟨n1,key1,val1,d,refs1,rawL 32 l1 e1,rawE 32 l1 e1⟩,A,cap,by omega,by go_num,(show _ = _ by rw [Hrun.out,Hst.out]),hg3n,hg2n,hEn,hownn,hKn,(by simp only;omega)⟩
            case measure=>simp [intOf];omega
          · skip;(go_wp2_with fail);refine (rr_num _ gr 1 _ _ hE (.inl rfl)).mono ?_;rintro en w3 ⟨rfl,hE3,hk23⟩;have hn4:=numV_lt 1 l1 e1;obtain ⟨N,hN⟩ : ∃ N,numV 1 l1 e1 = N:=⟨_,rfl⟩
            obtain ⟨LR,hLR⟩ : ∃ LR,ofLoop N ⟨refs1,rawL 1 l1 e1,rawE 1 l1 e1⟩ = LR:=⟨_,rfl⟩
            have Hst : Hid (ofStep k ⟨n1,key1,val1,ref1,refs1,l1,e1⟩ 83 = ⟨n1,key1,val1,ref1,LR.ids,LR.l,LR.e⟩):=Lib.hid (by rw [of_83,hN,hLR]);have HLR:=Lib.hid (show idLoop N ⟨refs1,rawL 1 l1 e1,rawE 1 l1 e1⟩ = LR from hLR);rw [hN] at hn4 ⊢;clear hN hLR;have hn5 : N < 256:=by simpa using hn4
            clear hn4;have hg3n:=(hk23.block go (Array.getElem?_eq_some_iff.1 hg3).1 hno).trans hg3;have hg2n:=(hk23.block ga (Array.getElem?_eq_some_iff.1 hg2).1 (by simp;omega)).trans hg2;have hownn:=hown.kept hk23 hA1;have hKn : Keep [gr,go] W w3:=Keep.trans hK (hk23.mono (S':=[gr,go]) (by simp)) (fun x hx=>.inl hx);clear hE hk23 hown hK hg2 hg3 hA1 hA2;obtain ⟨W3,rfl⟩ : ∃ W' : World,W' = w3:=⟨_,rfl⟩
            (go_wp2_with fail);go_loopw [9] (fun jv wr=>∃ (j : Nat) (s : IdsR) (A : Option Addr) (cap : Nat),j ≤ N ∧ jv = .int .i64 j ∧ s.ids.length = refs1.length + j ∧ Hid (LR = idLoop (N - j) s) ∧ wr.heap[go]? = some (.cells (opPC ⟨k,n1,key1,val1,ref1,.slice A s.ids.length cap⟩) 52 (0,0)) ∧ wr.heap[ga]? = some (.cells (opPC opP0) 52 (0,0)) ∧ RrAt wr gr s.l s.e ∧ Own wr W.heap.size 39 32 A s.ids.length cap (s.ids.map idC) ∧ Keep [gr,go] W wr) (fun jv _=>N - (intOf jv).toNat)
            case atStart=>exact ⟨0,⟨refs1,rawL 1 l1 e1,rawE 1 l1 e1⟩,A,cap,Nat.zero_le _,rfl,rfl,(show _ = _ from HLR.out.symm),hg3n,hg2n,hE3,hownn,hKn⟩
            case round =>
              clear hg3n hg2n hE3 hownn hKn HLR;obtain ⟨j,s,A,cap,hj,rfl,hsl,hlp,hg3,hg2,hE,hown,hK⟩:=hrel;obtain ⟨ids,l3,e3⟩:=s;dsimp only at *;by_cases hltj : j < N
              · have hlp2:=hlp.out;rw [show N - j = (N - (j + 1)) + 1 by omega] at hlp2;have hlp3 : LR = idLoop (N - (j + 1)) ⟨ids ++ [idOf (rawV 32 l3 e3)],rawL 32 l3 e3,rawE 32 l3 e3⟩:=hlp2;have Hlp:=Lib.hid hlp3;clear hlp hlp2 hlp3;have hAb : ∀ x ∈ blk A,W.heap.size ≤ x ∧ x < wr.heap.size:=fun x hx=>hown.at_base hx;have hnS : go ∉ gr :: blk A:=by
                  intro hm;rcases List.mem_cons.1 hm with h1 | h1
                  · omega
                  · have:=(hAb _ h1).1;omega
                have hgA : gr ∉ blk A:=fun h1=>(by have:=(hAb _ h1).1;omega);have hgaS : ga ∉ gr :: blk A:=by
                  intro hm;rcases List.mem_cons.1 hm with h1 | h1
                  · omega
                  · have:=(hAb _ h1).1;omega
                have x0 : wr.cell? ⟨go,36,none⟩ = some (.slice A ids.length cap):=by rw [cell_of_row wr go _ _ _ _ hg3];simp [go_sem]
                have cid:=rr_id wr.drew gr l3 e3 (hE.kept (Keep.drew wr) (by simp));have hids : ids.length ≤ 1275:=by omega
                have HSL:=Lib.hid hsl;have hKW:=Lib.hid hK;clear hsl hK;go_upto_region 16 with fail
                refine wp_region_lexf (Kp (gr :: blk A) wr) false (by kernel_rfl) (by kernel_rfl) (by kernel_rfl) (by kernel_rfl) (kp_drew (gr :: blk A) wr) ?_;have hne:=kp_some (gr :: blk A) wr;have hS:=kp_drew (gr :: blk A) wr;have b1:=ksub_cell x0 hnS;repeat (refine wpLx_loose ?_ ?_;(focus (simp only [chainOp];done));intro K hK;go_simp;refine hK _ ?_;clear hK K)
                refine wpLx_chain ?_ ?_ ?_;(focus (exact hS));(focus (simp only [chainOp];done));intro K hK;go_simp;refine cid.mono ?_;rintro en w4 ⟨rfl,hE4,hk4⟩;replace hS:=kp_next hS hk4 (by simp);refine ⟨_,rfl,hS,hK _ _ ?_⟩;clear hK K cid;repeat (refine wpLx_loose ?_ ?_;(focus (simp only [chainOp];done));intro K hK;go_simp;refine hK _ ?_;clear hK K)
                refine wpLx_chain ?_ ?_ ?_;(focus (exact hS));(focus (simp only [chainOp];done));intro K hK;go_simp;refine step_keep (kp_alloc hS _) (fun hS=>?_);refine hK _ _ ?_;clear hK K;obtain ⟨d,hd⟩ : ∃ d,idOf (rawV 32 l3 e3) = d:=⟨_,rfl⟩
                rw [hd] at hS ⊢;have Hd:=Lib.hid hd;clear hd;have hk04 : Keep [gr] wr w4:=Keep.trans ((Keep.drew wr).mono (S':=[gr]) (by simp)) hk4 (fun x hx=>.inl hx);have hb4:=Keep.alloc w4 (.cells (idC d) 39);have hownr:=(hown.kept hk04 (fun x hx=>by have:=(hAb x hx).1;simp;omega)).kept hb4 (by simp);have hrow2 : rowAt (w4.alloc (.cells (idC d) 39)) w4.heap.size 0 32 = some (idC d):=by simp [go_sem]
                have hsz4:=hk04.size;have hBs : W.heap.size ≤ (w4.alloc (.cells (idC d) 39)).heap.size:=by have:=hKW.out.size;simp;omega
                refine Lx_append einfoId rfl hownr rfl hrow2 (idC_one _) (by omega) (by omega) hBs ?_;intro A2 cap2 w5 hown5 hk5 hsub5;have hk45 : Keep (blk A) w4 w5:=Keep.trans (hb4.mono (S':=blk A) (by simp)) hk5 (fun x hx=>.inl hx);have hS5 : Keep (gr :: blk A) wr w5:=Keep.trans (hk04.mono (S':=gr :: blk A) (by simp)) (hk45.mono (S':=gr :: blk A) (fun x hx=>.inl (List.mem_cons_of_mem _ hx))) (fun x hx=>.inl hx);refine step_keep hS5 (fun hS6=>?_);repeat (refine wpLx_loose ?_ ?_;(focus (simp only [chainOp];done));intro K hK;go_simp;refine hK _ ?_;clear hK K)
                have hgl1 : go < wr.heap.size:=(Array.getElem?_eq_some_iff.1 hg3).1;have hgl2 : ga < wr.heap.size:=(Array.getElem?_eq_some_iff.1 hg2).1;have hg35:=(hS5.block go hgl1 hnS).trans hg3;have hg25:=(hS5.block ga hgl2 hgaS).trans hg2;have f0 : w5.frozen? ⟨go,36,none⟩ = false:=by simp [World.frozen?,hg35]
                have d0 : w5.cell? ⟨go,36,none⟩ = some (.slice A ids.length cap):=by rw [cell_of_row w5 go _ _ _ _ hg35];simp [go_sem]
                refine wpLx_end ?_ ?_;(focus (simp only [chainOp];done));intro K hK;go_simp;refine hK _ _ ?_;clear hK K;have hg3n:=heap_setCell_same hg35 36 (.slice A2 (ids.length + 1) cap2);rw [opPC_set36] at hg3n;have hks:=Keep.setCell w5 ⟨go,36,none⟩ (.slice A2 (ids.length + 1) cap2);have hE6:=(RrAt.kept hE4 hk45 hgA).kept hks hnr;have hg2n:=(hks.block ga (by have:=hS5.size;omega) (by simp;omega)).trans hg25;have hA2 : ∀ x ∈ blk A2,x ∉ [go]:=fun x hx=>(by have:=(hown5.at_base hx).1;simp;omega);have hown6:=hown5.kept hks hA2;have hKn : Keep [gr,go] W (w5.setCell ⟨go,36,none⟩ (.slice A2 (ids.length + 1) cap2)):=by
                  have h1 : Keep [gr,go] W w5:=(Keep.trans (hKW.out.mono (S':=gr :: go :: blk A) (by intro x hx;simp at hx ⊢;omega)) (hS5.mono (S':=gr :: go :: blk A) (fun x hx=>.inl (by rcases List.mem_cons.1 hx with h | h;exact List.mem_cons.2 (.inl h);exact List.mem_cons.2 (.inr (List.mem_cons.2 (.inr h)))))) (fun x hx=>.inl hx)).narrow (fun x hx=>by
                    rcases List.mem_cons.1 hx with h | h
                    · exact .inl (by simp [h])
                    · rcases List.mem_cons.1 h with h | h
                      · exact .inl (by simp [h])
                      · right;exact (hAb x h).1)
                  exact Keep.trans h1 (hks.mono (S':=[gr,go]) (by simp)) (fun x hx=>.inl hx)
                have hl2 : (ids ++ [d]).length = ids.length + 1:=by simp
                rw [show ids.map idC ++ [idC d] = (ids ++ [d]).map idC by simp] at hown6;have Hl2:=Lib.hid hl2;rw [Hd.out] at Hlp;clear hl2 f0 d0 b1 hne hS hS5 hS6 hk04 hk45 hk4 hk5 hsub5 hown5 hownr hrow2 hb4 hg35 hg25 hks hE4 hBs hown hE hg3 hg2 x0 hA2 hKW;(go_wp2_with fail);go_roundw
                case rel=>exact ⟨j + 1,⟨ids ++ [d],rawL 32 l3 e3,rawE 32 l3 e3⟩,A2,cap2,by omega,by go_num,by rw [Hl2.out,HSL.out];omega,Hlp,(by rw [Hl2.out];exact hg3n),hg2n,hE6,(by rw [Hl2.out];exact hown6),hKn⟩
                case measure=>simp [intOf];omega
              · have hfin : LR = ⟨ids,l3,e3⟩:=by rw [hlp.out,show N - j = 0 by omega];rfl
                have Hfl:=Lib.hid hfin;have hlb : ids.length ≤ 255 * (i + 1):=by omega
                have Hlb:=Lib.hid hlb;clear hsl hfin hlp hlb;(go_wp2_with fail);go_roundw
                case rel=>exact ⟨i + 1,⟨n1,key1,val1,ref1,ids,l3,e3⟩,A,cap,by omega,by go_num,(show _ = _ by rw [Hrun.out,Hst.out,Hfl.out]),hg3,hg2,hE,hown,hK,Hlb.out⟩
                case measure=>simp [intOf];omega
        · skip;have hrf:=Hrn.out;have hrx:=hrun.out;rw [List.drop_eq_nil_of_le (by simp;omega),List.foldl_nil] at hrx;rw [hrx] at hrf;have hoeq : (⟨⟨k,n1,key1,val1,ref1,refs1⟩,l1,e1⟩ : OpR) = ⟨o,l2,e2⟩:=hrf;injection hoeq with ho1 ho2 ho3
          have HO1:=Lib.hid ho1;subst ho2 ho3;have hb04 : Below ga w wr:=Hb03.out.trans (hK.below (by have:=hgoW;omega) (by simp;omega));have hga4 : ga ≤ wr.heap.size:=by have:=hb04.size;have:=Hga.out;omega
          have hcells : opPC ⟨k,n1,key1,val1,ref1,.slice A refs1.length cap⟩ = opC o A cap:=by rw [← HO1.out];rfl
          have hown4 : Own wr W.heap.size 39 32 A o.refs.length cap (o.refs.map idC):=by rw [← HO1.out];exact hown
          rw [hcells] at hg3;have hrow : rowAt wr go 0 37 = some (opC o A cap):=by unfold rowAt;rw [hg3];simp [go_sem]
          have ce:=rr_end _ gr l1 e1 hE;have HgoW:=Lib.hid hgoW;clear hrf hrx hrun hK hi hrl Hrn Hch Hb03 hown hcells hg3 hE ho1 hsz hem hgoW;(go_wp2_with fail);refine ce.mono ?_;rintro en w5 ⟨rfl,hb5⟩;have hg25:=(hb5.block ga (Array.getElem?_eq_some_iff.1 hg2).1).trans hg2;have hrow5 : rowAt w5 go 0 37 = some (opC o A cap):=(rowAt_of_block (hb5.block go (rowAt_lt hrow)) _ _).trans hrow;have hown5:=hown4.below hb5;have hb05 : Below ga w w5:=hb04.trans (hb5.mono hga4);have hga5 : ga ≤ w5.heap.size:=by have:=hb5.size;omega
          clear ce hg2 hrow hown4 hb04 hb5 hga4;by_cases hee : endE l1 e1 = 0
          · have h2:=HEE2.out;rw [if_neg (by rw [hee];simp),← Hck.out] at h2;rw [hee];have hT5 : TagsIn w5 A o.refs.length o.refs:=hown5.slr;have cc:=rop_check o A cap w5 Hpl.out.1 hT5 (by have:=Hpl.out.2.2;omega) HKS.out.1 HKS.out.2;obtain ⟨ck,hckk⟩ : ∃ ck,chkN o = ck:=⟨_,rfl⟩
            rw [hckk] at h2 cc;have HEE3:=Lib.hid h2;clear h2 HEE2 hee hckk hT5;(go_wp2_with fail);refine cc.mono ?_;rintro en w6 ⟨rfl,hb6⟩;have hg26:=(hb6.block ga (Array.getElem?_eq_some_iff.1 hg25).1).trans hg25;have hrow6 : rowAt w6 go 0 37 = some (opC o A cap):=(rowAt_of_block (hb6.block go (rowAt_lt hrow5)) _ _).trans hrow5;have hown6:=hown5.below hb6;have hb06 : Below ga w w6:=hb05.trans (hb6.mono hga5);have hga6 : ga ≤ w6.heap.size:=by have:=hb6.size;omega
            clear cc hg25 hrow5 hown5 hb05 hb6;cases hc0 : (ck == 0) with
            | true =>
              obtain rfl : ck = 0:=by simpa using hc0
              have hsto:=run_stS_at (P:=Tryz.prog) infoOpP w6 ga (opPC opP0) (opC o A cap) _ hg26 (by simp) (by simp) (opC_one o A cap);have Hfin:=Lib.hid (setRow_heap w6 ga _ (opC o A cap) _ _ hg26);have hkf : Keep [ga] w6 (w6.setRow ga (opC o A cap)):=⟨rfl,rfl,rfl,by simp [World.setRow],fun x _ hx=>setRow_other w6 ga x _ (by simpa using hx)⟩
              have hbf : Below ga w (w6.setRow ga (opC o A cap)):=hb06.trans (hkf.below hga6 (by simp));have hownf : Own (w6.setRow ga (opC o A cap)) w.heap.size 39 32 A o.refs.length cap (o.refs.map idC):=(hown6.mono (by have:=Hga.out;have:=HgoW.out;omega)).kept hkf (fun x hx=>by have:=(hown6.at_base hx).1;have:=HgoW.out;simp;omega);have Hbf:=Lib.hid hbf;have Hownf:=Lib.hid hownf;clear hbf hkf hg26 hb06 hownf hown6;(go_wp2_with fail);refine bodyPost_ret (results_cell_tmp Tryz.results27 _ _ ga 52 (opC o A cap) (0,0) _ rfl Hfin.out Tryz.underlying52 rfl (by first | (rw [opPC_size];exact infoOpP) | (rw [opC_size];exact infoOpP))) rfl ?_;exact ⟨_,by rw [HEE3.out];rfl,fun _=>⟨A,cap,by rw [HO.out],by rw [HO.out];exact Hownf.out⟩,fun h0=>absurd HEE3.out h0,by rw [Hga.out];exact Hbf.out⟩
            | false =>
              have hcn : ck ≠ 0:=by simpa using hc0
              have hcb : (ck != 0) = true:=by simpa using hc0
              have Hcn:=Lib.hid hcn;clear hcn;have hsto:=run_stS_at (P:=Tryz.prog) infoOpP w6 ga (opPC opP0) (opPC opP0) _ hg26 (by simp) (by simp) (opPC_one _ rfl);have Hfin:=Lib.hid (setRow_heap w6 ga _ (opPC opP0) _ _ hg26);have hkf : Keep [ga] w6 (w6.setRow ga (opPC opP0)):=⟨rfl,rfl,rfl,by simp [World.setRow],fun x _ hx=>setRow_other w6 ga x _ (by simpa using hx)⟩
              have hbf : Below ga w (w6.setRow ga (opPC opP0)):=hb06.trans (hkf.below hga6 (by simp));have Hbf:=Lib.hid hbf;clear hbf hkf hg26 hb06 hown6;(go_wp2_with fail);refine bodyPost_ret (results_cell_tmp Tryz.results27 _ _ ga 52 (opPC opP0) (0,0) _ rfl Hfin.out Tryz.underlying52 rfl (by first | (rw [opPC_size];exact infoOpP) | (rw [opC_size];exact infoOpP))) rfl ?_;exact ⟨_,by rw [HEE3.out];rfl,fun h0=>absurd (HEE3.out.symm.trans h0) Hcn.out,fun _=>rfl,by rw [Hga.out];exact Hbf.out⟩
          · have h2:=HEE2.out;rw [if_pos hee] at h2;obtain ⟨ee,hEe⟩ : ∃ ee,endE l1 e1 = ee:=⟨_,rfl⟩
            rw [hEe] at h2 hee ⊢;have HEE3:=Lib.hid h2;have Hcn:=Lib.hid hee;have hcb : (ee != 0) = true:=by simpa using hee
            have hcc : (ee == 0) = false:=by simpa using hee
            clear h2 HEE2 hee hEe hrow5 hown5;have hsto:=run_stS_at (P:=Tryz.prog) infoOpP w5 ga (opPC opP0) (opPC opP0) _ hg25 (by simp) (by simp) (opPC_one _ rfl);have Hfin:=Lib.hid (setRow_heap w5 ga _ (opPC opP0) _ _ hg25);have hkf : Keep [ga] w5 (w5.setRow ga (opPC opP0)):=⟨rfl,rfl,rfl,by simp [World.setRow],fun x _ hx=>setRow_other w5 ga x _ (by simpa using hx)⟩
            have hbf : Below ga w (w5.setRow ga (opPC opP0)):=hb05.trans (hkf.below hga5 (by simp));have Hbf:=Lib.hid hbf;clear hbf hkf hg25 hb05;(go_wp2_with fail);refine bodyPost_ret (results_cell_tmp Tryz.results27 _ _ ga 52 (opPC opP0) (0,0) _ rfl Hfin.out Tryz.underlying52 rfl (by first | (rw [opPC_size];exact infoOpP) | (rw [opC_size];exact infoOpP))) rfl ?_;exact ⟨_,by rw [HEE3.out];rfl,fun h0=>absurd (HEE3.out.symm.trans h0) Hcn.out,fun _=>rfl,by rw [Hga.out];exact Hbf.out⟩
  · have hEE:=HE.out;rw [if_pos he] at hEE;obtain ⟨e1,he1⟩ : ∃ e1,rawE 1 l 0 = e1:=⟨_,rfl⟩
    rw [he1] at hEE he hr3 c1;have HEE:=Lib.hid hEE;have He:=Lib.hid he;have hen : (e1 != 0) = true:=by simpa using he
    clear hEE he HE HO he1;have hsto:=run_stS_at (P:=Tryz.prog) infoOpP W.drew ga (opPC opP0) (opPC opP0) _ hg2 (by simp) (by simp) (opPC_one _ rfl);have Hfin:=Lib.hid (setRow_heap W.drew ga _ (opPC opP0) _ _ hg2);have hkf : Keep [ga] W.drew (W.drew.setRow ga (opPC opP0)):=⟨rfl,rfl,rfl,by simp [World.setRow],fun x _ hx=>setRow_other W.drew ga x _ (by simpa using hx)⟩
    have hbf : Below ga w (W.drew.setRow ga (opPC opP0)):=(hb03.trans ((bel_drew W).mono (by have:=hr3.lt;omega))).trans (hkf.below (by have:=hr3.lt;simp;omega) (by simp));have Hbf:=Lib.hid hbf;clear hbf hr3 hb03 hg3;go_upto_region 4 with fail
    refine wp_region_lex (Kp [ga] W) false (by kernel_rfl) (by kernel_rfl) (by kernel_rfl) (kp_drew [ga] W) ?_;have hne:=kp_some [ga] W;have hS:=kp_drew [ga] W;have b1:=ksub_cell c1 (S:=[ga]) (by simp;omega);repeat (refine wpLx_loose ?_ ?_;(focus (simp only [chainOp];done));intro K hK;go_simp;refine hK _ ?_;clear hK K)
    refine wpLx_chain ?_ ?_ ?_;(focus (exact hS));(focus (simp only [chainOp];done));intro K hK;go_simp;refine step_keep (kp_next hS hkf (by simp)) (fun hS=>?_);refine hK _ _ ?_;clear hK K;repeat (refine wpLx_loose ?_ ?_;(focus (simp only [chainOp];done));intro K hK;go_simp;refine hK _ ?_;clear hK K)
    refine wpLx_nil ?_;intro hS;clear hS b1 hne hkf hg2 hx0 hfz c0 c1;(go_wp2_with fail);refine bodyPost_ret (results_cell_tmp Tryz.results27 _ _ ga 52 (opPC opP0) (0,0) _ rfl Hfin.out Tryz.underlying52 rfl (by first | (rw [opPC_size];exact infoOpP) | (rw [opC_size];exact infoOpP))) rfl ?_;exact ⟨_,by rw [HEE.out];rfl,fun h0=>absurd (HEE.out.symm.trans h0) He.out,fun _=>rfl,by rw [Hga.out];exact Hbf.out⟩
end
end Go.Proofs.YtgfpjjppeldhbaaGreatDoor
