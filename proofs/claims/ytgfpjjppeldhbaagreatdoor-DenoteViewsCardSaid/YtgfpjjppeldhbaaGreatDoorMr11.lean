/- Part 11 of the texts that lead to this claim: the walks of the functions and the plain law, in order. -/
import Derived.Test.YtgfpjjppeldhbaaGreatDoorMr10
import Derived.LoopN
import Derived.Laws.StructEq
import Derived.Test.YtgfpjjppeldhbaaGreatDoorRows
import Derived.LaidLaws
import Derived.LaidHandle
import Derived.Stop.Joined
import Derived.Test.YtgfpjjppeldhbaaGreatDoorTie
import Derived.Test.YtgfpjjppeldhbaaGreatDoorCards
import Derived.SevenTiedAt
namespace Go.Proofs.YtgfpjjppeldhbaaGreatDoor
section
open Go.RowKit
theorem ris_sort (R : List Id32) : decide (R = sortC cmpId R) = risI R:=by
  rw [Bool.eq_iff_iff,decide_eq_true_eq,risI_ok];exact ⟨fun h=>by rw [h];exact ris_sortC totId R,fun h=>(sortC_ris totId h).symm⟩
theorem ris6 (w : World) (A : Option Addr) (n cap : Nat) (R : List Id32) (h : TagsIn w A n R) (hn : n ≤ 1000000) :
    Calls Tryz.prog 97 #[.slice A n cap] w fun e w'=>e = .returned (.bool (risI R)) ∧ Below w.heap.size w w':=by
  have hlen:=h.len;have hsl:=sortC_length (c:=cmpId) R;rw [hlen] at hsl;have c1:=rset w A n cap R h hn;have c2:=fun w1 (hb : Below w.heap.size w w1) A' cap' (hs : IdsW w1 A' (sortC cmpId R).length cap' (sortC cmpId R))=>rsame_ids w1 A A' n (sortC cmpId R).length cap cap' R (sortC cmpId R) (SlR.below h hb) hs.rd hn (by omega);have Hs:=Lib.hid (ris_sort R);clear hlen hsl;go_enter Tryz.func97,Tryz.ntmps97
  (go_wp2_with fail);refine c1.mono ?_;rintro e w1 ⟨A',cap',rfl,hs,_,hb1⟩;(go_wp2_with fail);refine (c2 w1 hb1 A' cap' hs).mono ?_;rintro e w2 ⟨rfl,hb2⟩;(go_wp2_with fail);go_ret;exact ⟨ret_bool (by rw [Hs.out]),bel2 hb1 hb2⟩
theorem emptyS : (⟨#[]⟩ : ByteArray).size = 0:=rfl
set_option maxRecDepth 100000 in
set_option maxHeartbeats 4000000 in
theorem rop_check (o : OpV) (A : Option Addr) (c : Nat) (w : World) (h : plainO o) (hT : TagsIn w A o.refs.length o.refs) (hl : o.refs.length ≤ 1000000) (hks : o.key.size ≤ 9223372036854775807) (hvs : o.val.size ≤ 9223372036854775807) :
    Calls Tryz.prog 70 #[.agg (opC o A c)] w fun e w'=>e = .returned (.int .i64 (chkN o)) ∧ Below w.heap.size w w':=by
  have hT0 : TagsIn (w.alloc (.cells (opC o A c) 52)) A o.refs.length o.refs:=SlR.below hT ((Below.refl _ _).alloc (Nat.le_refl _) _);have hck : chkN o = if 16 < o.key.size ∨ 16 < o.val.size then 3 else if numO o = false then 5 else if 8 < o.refs.length then 6 else if risI o.refs = false then 4 else 0:=rfl;have hno : numO o = (!(decide (o.k = 4) && decide (o.n < 0)) && (decide (o.n < 2147483648) && decide (-2147483648 ≤ o.n))):=rfl;obtain ⟨rb,hrb⟩ : ∃ rb,risI o.refs = rb:=⟨_,rfl⟩
  rw [hrb] at hck;rw [hno] at hck;obtain ⟨k,n,key,val,ref,refs⟩:=o;unfold opC at hT0 ⊢;unfold plainO at h;dsimp only at *;have Hck:=Lib.hid hck;have Hrb:=Lib.hid hrb;clear hck hno hrb hT;rcases h with ⟨rfl,rfl,rfl,rfl,rfl⟩ | ⟨rfl,rfl,rfl,rfl,rfl⟩ | ⟨rfl,rfl,rfl,rfl⟩ | ⟨rfl,rfl,rfl⟩ | ⟨rfl,rfl,rfl⟩ | ⟨rfl,rfl,rfl,rfl⟩ | ⟨rfl,rfl,rfl,rfl,rfl⟩
  · show Calls Tryz.prog 70 #[.agg (opPC ⟨1,n,⟨#[]⟩,⟨#[]⟩,id0,.slice A 0 c⟩)] w _;change TagsIn (w.alloc (.cells (opPC ⟨1,n,⟨#[]⟩,⟨#[]⟩,id0,.slice A 0 c⟩) 52)) A 0 [] at hT0;have hB : Below w.heap.size w (w.alloc (.cells (opPC ⟨1,n,⟨#[]⟩,⟨#[]⟩,id0,.slice A 0 c⟩) 52)):=(Below.refl _ _).alloc (Nat.le_refl _) _;have hr : rowAt (w.alloc (.cells (opPC ⟨1,n,⟨#[]⟩,⟨#[]⟩,id0,.slice A 0 c⟩) 52)) w.heap.size 0 37 = some (opPC ⟨1,n,⟨#[]⟩,⟨#[]⟩,id0,.slice A 0 c⟩):=by simp [go_sem]
    have x0:=rowAt_cell hr (j:=0) (by omega);have x1:=rowAt_cell hr (j:=1) (by omega);have x2:=rowAt_cell hr (j:=2) (by omega);have x3:=rowAt_cell hr (j:=3) (by omega);have x5:=rowAt_cell hr (j:=36) (by omega);have x4:=rowAt_sub hr (j:=4) (m:=32) (by omega);simp only [opPC_g0,opPC_g1,opPC_g2,opPC_g3,opPC_g36,opPC_e4,Nat.zero_add] at x0 x1 x2 x3 x4 x5;have c1:=rop_has 1 (w.alloc (.cells (opPC ⟨1,n,⟨#[]⟩,⟨#[]⟩,id0,.slice A 0 c⟩) 52)) (by omega);have i1:=rop_in (hasS 1) 78 (w.alloc (.cells (opPC ⟨1,n,⟨#[]⟩,⟨#[]⟩,id0,.slice A 0 c⟩) 52)) (by decide);have i2:=rop_in (hasS 1) 75 (w.alloc (.cells (opPC ⟨1,n,⟨#[]⟩,⟨#[]⟩,id0,.slice A 0 c⟩) 52)) (by decide);have i3:=rop_in (hasS 1) 86 (w.alloc (.cells (opPC ⟨1,n,⟨#[]⟩,⟨#[]⟩,id0,.slice A 0 c⟩) 52)) (by decide);have i4:=rop_in (hasS 1) 82 (w.alloc (.cells (opPC ⟨1,n,⟨#[]⟩,⟨#[]⟩,id0,.slice A 0 c⟩) 52)) (by decide);have i5:=rop_in (hasS 1) 83 (w.alloc (.cells (opPC ⟨1,n,⟨#[]⟩,⟨#[]⟩,id0,.slice A 0 c⟩) 52)) (by decide);rw [show inB (hasS 1) 78 = true by decide +kernel] at i1;rw [show inB (hasS 1) 75 = false by decide +kernel] at i2;rw [show inB (hasS 1) 86 = false by decide +kernel] at i3;rw [show inB (hasS 1) 82 = false by decide +kernel] at i4;rw [show inB (hasS 1) 83 = false by decide +kernel] at i5;rw [show hasS 1 = ⟨#[78]⟩ from rfl] at c1 i1 i2 i3 i4 i5;clear hr;go_enter Tryz.func70,Tryz.ntmps70
    go_upto_region 1 with fail
    obtain ⟨ga,hga⟩ : ∃ ga,w.heap.size = ga:=⟨_,rfl⟩
    have Hga:=Lib.hid hga;rw [hga] at x0 x1 x2 x3 x4 x5 hB ⊢;obtain ⟨W,hW⟩ : ∃ W,W = w.alloc (.cells (opPC ⟨1,n,⟨#[]⟩,⟨#[]⟩,id0,.slice A 0 c⟩) 52):=⟨_,rfl⟩
    rw [← hW] at x0 x1 x2 x3 x4 x5 hB c1 i1 i2 i3 i4 i5 hT0 ⊢;clear hW hga;(go_wp2_with fail);refine c1.mono ?_;rintro e w1 ⟨rfl,rfl⟩;(go_wp2_with fail);refine i1.mono ?_;rintro e w1 ⟨rfl,rfl⟩;(go_wp2_with fail);refine i2.mono ?_;rintro e w1 ⟨rfl,rfl⟩;(go_wp2_with fail);refine i3.mono ?_;rintro e w1 ⟨rfl,rfl⟩;(go_wp2_with fail);refine i4.mono ?_;rintro e w1 ⟨rfl,rfl⟩;(go_wp2_with fail);refine i5.mono ?_;rintro e w1 ⟨rfl,rfl⟩;clear c1 i1 i2 i3 i4 i5;have cis:=ris6 W A _ c _ hT0 hl;rw [Hrb.out] at cis;rw [← Hga.out] at hB;go_wp2_with fail
    all_goals
      first
      | (go_ret;exact ⟨ret_int (by rw [Hck.out];(try simp only [emptyS,List.length_nil] at *);(repeat' split) <;> (first | rfl | omega | (simp_all;done) | (simp_all;omega))),hB⟩)
      | (refine cis.mono ?_;rintro e w2 ⟨rfl,hb2⟩
         have hBB:=bel2 hB hb2;clear hT0 cis x0 x1 x2 x3 x4 x5 hb2;cases rb <;> (go_wp2_with fail;go_ret;exact ⟨ret_int (by rw [Hck.out];(try simp only [emptyS,List.length_nil] at *);(repeat' split) <;> (first | rfl | omega | (simp_all;done) | (simp_all;omega))),hBB⟩))
  · show Calls Tryz.prog 70 #[.agg (opPC ⟨2,0,⟨#[]⟩,val,id0,.slice A 0 c⟩)] w _;change TagsIn (w.alloc (.cells (opPC ⟨2,0,⟨#[]⟩,val,id0,.slice A 0 c⟩) 52)) A 0 [] at hT0;have hB : Below w.heap.size w (w.alloc (.cells (opPC ⟨2,0,⟨#[]⟩,val,id0,.slice A 0 c⟩) 52)):=(Below.refl _ _).alloc (Nat.le_refl _) _;have hr : rowAt (w.alloc (.cells (opPC ⟨2,0,⟨#[]⟩,val,id0,.slice A 0 c⟩) 52)) w.heap.size 0 37 = some (opPC ⟨2,0,⟨#[]⟩,val,id0,.slice A 0 c⟩):=by simp [go_sem]
    have x0:=rowAt_cell hr (j:=0) (by omega);have x1:=rowAt_cell hr (j:=1) (by omega);have x2:=rowAt_cell hr (j:=2) (by omega);have x3:=rowAt_cell hr (j:=3) (by omega);have x5:=rowAt_cell hr (j:=36) (by omega);have x4:=rowAt_sub hr (j:=4) (m:=32) (by omega);simp only [opPC_g0,opPC_g1,opPC_g2,opPC_g3,opPC_g36,opPC_e4,Nat.zero_add] at x0 x1 x2 x3 x4 x5;have c1:=rop_has 2 (w.alloc (.cells (opPC ⟨2,0,⟨#[]⟩,val,id0,.slice A 0 c⟩) 52)) (by omega);have i1:=rop_in (hasS 2) 78 (w.alloc (.cells (opPC ⟨2,0,⟨#[]⟩,val,id0,.slice A 0 c⟩) 52)) (by decide);have i2:=rop_in (hasS 2) 75 (w.alloc (.cells (opPC ⟨2,0,⟨#[]⟩,val,id0,.slice A 0 c⟩) 52)) (by decide);have i3:=rop_in (hasS 2) 86 (w.alloc (.cells (opPC ⟨2,0,⟨#[]⟩,val,id0,.slice A 0 c⟩) 52)) (by decide);have i4:=rop_in (hasS 2) 82 (w.alloc (.cells (opPC ⟨2,0,⟨#[]⟩,val,id0,.slice A 0 c⟩) 52)) (by decide);have i5:=rop_in (hasS 2) 83 (w.alloc (.cells (opPC ⟨2,0,⟨#[]⟩,val,id0,.slice A 0 c⟩) 52)) (by decide);rw [show inB (hasS 2) 78 = false by decide +kernel] at i1;rw [show inB (hasS 2) 75 = false by decide +kernel] at i2;rw [show inB (hasS 2) 86 = true by decide +kernel] at i3;rw [show inB (hasS 2) 82 = false by decide +kernel] at i4;rw [show inB (hasS 2) 83 = false by decide +kernel] at i5;rw [show hasS 2 = ⟨#[86]⟩ from rfl] at c1 i1 i2 i3 i4 i5;clear hr;go_enter Tryz.func70,Tryz.ntmps70
    go_upto_region 1 with fail
    obtain ⟨ga,hga⟩ : ∃ ga,w.heap.size = ga:=⟨_,rfl⟩
    have Hga:=Lib.hid hga;rw [hga] at x0 x1 x2 x3 x4 x5 hB ⊢;obtain ⟨W,hW⟩ : ∃ W,W = w.alloc (.cells (opPC ⟨2,0,⟨#[]⟩,val,id0,.slice A 0 c⟩) 52):=⟨_,rfl⟩
    rw [← hW] at x0 x1 x2 x3 x4 x5 hB c1 i1 i2 i3 i4 i5 hT0 ⊢;clear hW hga;(go_wp2_with fail);refine c1.mono ?_;rintro e w1 ⟨rfl,rfl⟩;(go_wp2_with fail);refine i1.mono ?_;rintro e w1 ⟨rfl,rfl⟩;(go_wp2_with fail);refine i2.mono ?_;rintro e w1 ⟨rfl,rfl⟩;(go_wp2_with fail);refine i3.mono ?_;rintro e w1 ⟨rfl,rfl⟩;(go_wp2_with fail);refine i4.mono ?_;rintro e w1 ⟨rfl,rfl⟩;(go_wp2_with fail);refine i5.mono ?_;rintro e w1 ⟨rfl,rfl⟩;clear c1 i1 i2 i3 i4 i5;have cis:=ris6 W A _ c _ hT0 hl;rw [Hrb.out] at cis;rw [← Hga.out] at hB;go_wp2_with fail
    all_goals
      first
      | (go_ret;exact ⟨ret_int (by rw [Hck.out];(try simp only [emptyS,List.length_nil] at *);(repeat' split) <;> (first | rfl | omega | (simp_all;done) | (simp_all;omega))),hB⟩)
      | (refine cis.mono ?_;rintro e w2 ⟨rfl,hb2⟩
         have hBB:=bel2 hB hb2;clear hT0 cis x0 x1 x2 x3 x4 x5 hb2;cases rb <;> (go_wp2_with fail;go_ret;exact ⟨ret_int (by rw [Hck.out];(try simp only [emptyS,List.length_nil] at *);(repeat' split) <;> (first | rfl | omega | (simp_all;done) | (simp_all;omega))),hBB⟩))
  · show Calls Tryz.prog 70 #[.agg (opPC ⟨3,0,⟨#[]⟩,val,id0,.slice A refs.length c⟩)] w _;change TagsIn (w.alloc (.cells (opPC ⟨3,0,⟨#[]⟩,val,id0,.slice A refs.length c⟩) 52)) A refs.length refs at hT0;have hB : Below w.heap.size w (w.alloc (.cells (opPC ⟨3,0,⟨#[]⟩,val,id0,.slice A refs.length c⟩) 52)):=(Below.refl _ _).alloc (Nat.le_refl _) _;have hr : rowAt (w.alloc (.cells (opPC ⟨3,0,⟨#[]⟩,val,id0,.slice A refs.length c⟩) 52)) w.heap.size 0 37 = some (opPC ⟨3,0,⟨#[]⟩,val,id0,.slice A refs.length c⟩):=by simp [go_sem]
    have x0:=rowAt_cell hr (j:=0) (by omega);have x1:=rowAt_cell hr (j:=1) (by omega);have x2:=rowAt_cell hr (j:=2) (by omega);have x3:=rowAt_cell hr (j:=3) (by omega);have x5:=rowAt_cell hr (j:=36) (by omega);have x4:=rowAt_sub hr (j:=4) (m:=32) (by omega);simp only [opPC_g0,opPC_g1,opPC_g2,opPC_g3,opPC_g36,opPC_e4,Nat.zero_add] at x0 x1 x2 x3 x4 x5;have c1:=rop_has 3 (w.alloc (.cells (opPC ⟨3,0,⟨#[]⟩,val,id0,.slice A refs.length c⟩) 52)) (by omega);have i1:=rop_in (hasS 3) 78 (w.alloc (.cells (opPC ⟨3,0,⟨#[]⟩,val,id0,.slice A refs.length c⟩) 52)) (by decide);have i2:=rop_in (hasS 3) 75 (w.alloc (.cells (opPC ⟨3,0,⟨#[]⟩,val,id0,.slice A refs.length c⟩) 52)) (by decide);have i3:=rop_in (hasS 3) 86 (w.alloc (.cells (opPC ⟨3,0,⟨#[]⟩,val,id0,.slice A refs.length c⟩) 52)) (by decide);have i4:=rop_in (hasS 3) 82 (w.alloc (.cells (opPC ⟨3,0,⟨#[]⟩,val,id0,.slice A refs.length c⟩) 52)) (by decide);have i5:=rop_in (hasS 3) 83 (w.alloc (.cells (opPC ⟨3,0,⟨#[]⟩,val,id0,.slice A refs.length c⟩) 52)) (by decide);rw [show inB (hasS 3) 78 = false by decide +kernel] at i1;rw [show inB (hasS 3) 75 = false by decide +kernel] at i2;rw [show inB (hasS 3) 86 = true by decide +kernel] at i3;rw [show inB (hasS 3) 82 = false by decide +kernel] at i4;rw [show inB (hasS 3) 83 = true by decide +kernel] at i5;rw [show hasS 3 = ⟨#[86,83]⟩ from rfl] at c1 i1 i2 i3 i4 i5;clear hr;go_enter Tryz.func70,Tryz.ntmps70
    go_upto_region 1 with fail
    obtain ⟨ga,hga⟩ : ∃ ga,w.heap.size = ga:=⟨_,rfl⟩
    have Hga:=Lib.hid hga;rw [hga] at x0 x1 x2 x3 x4 x5 hB ⊢;obtain ⟨W,hW⟩ : ∃ W,W = w.alloc (.cells (opPC ⟨3,0,⟨#[]⟩,val,id0,.slice A refs.length c⟩) 52):=⟨_,rfl⟩
    rw [← hW] at x0 x1 x2 x3 x4 x5 hB c1 i1 i2 i3 i4 i5 hT0 ⊢;clear hW hga;(go_wp2_with fail);refine c1.mono ?_;rintro e w1 ⟨rfl,rfl⟩;(go_wp2_with fail);refine i1.mono ?_;rintro e w1 ⟨rfl,rfl⟩;(go_wp2_with fail);refine i2.mono ?_;rintro e w1 ⟨rfl,rfl⟩;(go_wp2_with fail);refine i3.mono ?_;rintro e w1 ⟨rfl,rfl⟩;(go_wp2_with fail);refine i4.mono ?_;rintro e w1 ⟨rfl,rfl⟩;(go_wp2_with fail);refine i5.mono ?_;rintro e w1 ⟨rfl,rfl⟩;clear c1 i1 i2 i3 i4 i5;have cis:=ris6 W A _ c _ hT0 hl;rw [Hrb.out] at cis;rw [← Hga.out] at hB;go_wp2_with fail
    all_goals
      first
      | (go_ret;exact ⟨ret_int (by rw [Hck.out];(try simp only [emptyS,List.length_nil] at *);(repeat' split) <;> (first | rfl | omega | (simp_all;done) | (simp_all;omega))),hB⟩)
      | (refine cis.mono ?_;rintro e w2 ⟨rfl,hb2⟩
         have hBB:=bel2 hB hb2;clear hT0 cis x0 x1 x2 x3 x4 x5 hb2;cases rb <;> (go_wp2_with fail;go_ret;exact ⟨ret_int (by rw [Hck.out];(try simp only [emptyS,List.length_nil] at *);(repeat' split) <;> (first | rfl | omega | (simp_all;done) | (simp_all;omega))),hBB⟩))
  · show Calls Tryz.prog 70 #[.agg (opPC ⟨4,n,key,val,id0,.slice A 0 c⟩)] w _;change TagsIn (w.alloc (.cells (opPC ⟨4,n,key,val,id0,.slice A 0 c⟩) 52)) A 0 [] at hT0;have hB : Below w.heap.size w (w.alloc (.cells (opPC ⟨4,n,key,val,id0,.slice A 0 c⟩) 52)):=(Below.refl _ _).alloc (Nat.le_refl _) _;have hr : rowAt (w.alloc (.cells (opPC ⟨4,n,key,val,id0,.slice A 0 c⟩) 52)) w.heap.size 0 37 = some (opPC ⟨4,n,key,val,id0,.slice A 0 c⟩):=by simp [go_sem]
    have x0:=rowAt_cell hr (j:=0) (by omega);have x1:=rowAt_cell hr (j:=1) (by omega);have x2:=rowAt_cell hr (j:=2) (by omega);have x3:=rowAt_cell hr (j:=3) (by omega);have x5:=rowAt_cell hr (j:=36) (by omega);have x4:=rowAt_sub hr (j:=4) (m:=32) (by omega);simp only [opPC_g0,opPC_g1,opPC_g2,opPC_g3,opPC_g36,opPC_e4,Nat.zero_add] at x0 x1 x2 x3 x4 x5;have c1:=rop_has 4 (w.alloc (.cells (opPC ⟨4,n,key,val,id0,.slice A 0 c⟩) 52)) (by omega);have i1:=rop_in (hasS 4) 78 (w.alloc (.cells (opPC ⟨4,n,key,val,id0,.slice A 0 c⟩) 52)) (by decide);have i2:=rop_in (hasS 4) 75 (w.alloc (.cells (opPC ⟨4,n,key,val,id0,.slice A 0 c⟩) 52)) (by decide);have i3:=rop_in (hasS 4) 86 (w.alloc (.cells (opPC ⟨4,n,key,val,id0,.slice A 0 c⟩) 52)) (by decide);have i4:=rop_in (hasS 4) 82 (w.alloc (.cells (opPC ⟨4,n,key,val,id0,.slice A 0 c⟩) 52)) (by decide);have i5:=rop_in (hasS 4) 83 (w.alloc (.cells (opPC ⟨4,n,key,val,id0,.slice A 0 c⟩) 52)) (by decide);rw [show inB (hasS 4) 78 = true by decide +kernel] at i1;rw [show inB (hasS 4) 75 = true by decide +kernel] at i2;rw [show inB (hasS 4) 86 = true by decide +kernel] at i3;rw [show inB (hasS 4) 82 = false by decide +kernel] at i4;rw [show inB (hasS 4) 83 = false by decide +kernel] at i5;rw [show hasS 4 = ⟨#[75,86,78]⟩ from rfl] at c1 i1 i2 i3 i4 i5;clear hr;go_enter Tryz.func70,Tryz.ntmps70
    go_upto_region 1 with fail
    obtain ⟨ga,hga⟩ : ∃ ga,w.heap.size = ga:=⟨_,rfl⟩
    have Hga:=Lib.hid hga;rw [hga] at x0 x1 x2 x3 x4 x5 hB ⊢;obtain ⟨W,hW⟩ : ∃ W,W = w.alloc (.cells (opPC ⟨4,n,key,val,id0,.slice A 0 c⟩) 52):=⟨_,rfl⟩
    rw [← hW] at x0 x1 x2 x3 x4 x5 hB c1 i1 i2 i3 i4 i5 hT0 ⊢;clear hW hga;(go_wp2_with fail);refine c1.mono ?_;rintro e w1 ⟨rfl,rfl⟩;(go_wp2_with fail);refine i1.mono ?_;rintro e w1 ⟨rfl,rfl⟩;(go_wp2_with fail);refine i2.mono ?_;rintro e w1 ⟨rfl,rfl⟩;(go_wp2_with fail);refine i3.mono ?_;rintro e w1 ⟨rfl,rfl⟩;(go_wp2_with fail);refine i4.mono ?_;rintro e w1 ⟨rfl,rfl⟩;(go_wp2_with fail);refine i5.mono ?_;rintro e w1 ⟨rfl,rfl⟩;clear c1 i1 i2 i3 i4 i5;have cis:=ris6 W A _ c _ hT0 hl;rw [Hrb.out] at cis;rw [← Hga.out] at hB;go_wp2_with fail
    all_goals
      first
      | (go_ret;exact ⟨ret_int (by rw [Hck.out];(try simp only [emptyS,List.length_nil] at *);(repeat' split) <;> (first | rfl | omega | (simp_all;done) | (simp_all;omega))),hB⟩)
      | (refine cis.mono ?_;rintro e w2 ⟨rfl,hb2⟩
         have hBB:=bel2 hB hb2;clear hT0 cis x0 x1 x2 x3 x4 x5 hb2;cases rb <;> (go_wp2_with fail;go_ret;exact ⟨ret_int (by rw [Hck.out];(try simp only [emptyS,List.length_nil] at *);(repeat' split) <;> (first | rfl | omega | (simp_all;done) | (simp_all;omega))),hBB⟩))
  · show Calls Tryz.prog 70 #[.agg (opPC ⟨5,0,key,val,id0,.slice A refs.length c⟩)] w _;change TagsIn (w.alloc (.cells (opPC ⟨5,0,key,val,id0,.slice A refs.length c⟩) 52)) A refs.length refs at hT0;have hB : Below w.heap.size w (w.alloc (.cells (opPC ⟨5,0,key,val,id0,.slice A refs.length c⟩) 52)):=(Below.refl _ _).alloc (Nat.le_refl _) _;have hr : rowAt (w.alloc (.cells (opPC ⟨5,0,key,val,id0,.slice A refs.length c⟩) 52)) w.heap.size 0 37 = some (opPC ⟨5,0,key,val,id0,.slice A refs.length c⟩):=by simp [go_sem]
    have x0:=rowAt_cell hr (j:=0) (by omega);have x1:=rowAt_cell hr (j:=1) (by omega);have x2:=rowAt_cell hr (j:=2) (by omega);have x3:=rowAt_cell hr (j:=3) (by omega);have x5:=rowAt_cell hr (j:=36) (by omega);have x4:=rowAt_sub hr (j:=4) (m:=32) (by omega);simp only [opPC_g0,opPC_g1,opPC_g2,opPC_g3,opPC_g36,opPC_e4,Nat.zero_add] at x0 x1 x2 x3 x4 x5;have c1:=rop_has 5 (w.alloc (.cells (opPC ⟨5,0,key,val,id0,.slice A refs.length c⟩) 52)) (by omega);have i1:=rop_in (hasS 5) 78 (w.alloc (.cells (opPC ⟨5,0,key,val,id0,.slice A refs.length c⟩) 52)) (by decide);have i2:=rop_in (hasS 5) 75 (w.alloc (.cells (opPC ⟨5,0,key,val,id0,.slice A refs.length c⟩) 52)) (by decide);have i3:=rop_in (hasS 5) 86 (w.alloc (.cells (opPC ⟨5,0,key,val,id0,.slice A refs.length c⟩) 52)) (by decide);have i4:=rop_in (hasS 5) 82 (w.alloc (.cells (opPC ⟨5,0,key,val,id0,.slice A refs.length c⟩) 52)) (by decide);have i5:=rop_in (hasS 5) 83 (w.alloc (.cells (opPC ⟨5,0,key,val,id0,.slice A refs.length c⟩) 52)) (by decide);rw [show inB (hasS 5) 78 = false by decide +kernel] at i1;rw [show inB (hasS 5) 75 = true by decide +kernel] at i2;rw [show inB (hasS 5) 86 = true by decide +kernel] at i3;rw [show inB (hasS 5) 82 = false by decide +kernel] at i4;rw [show inB (hasS 5) 83 = true by decide +kernel] at i5;rw [show hasS 5 = ⟨#[75,86,83]⟩ from rfl] at c1 i1 i2 i3 i4 i5;clear hr;go_enter Tryz.func70,Tryz.ntmps70
    go_upto_region 1 with fail
    obtain ⟨ga,hga⟩ : ∃ ga,w.heap.size = ga:=⟨_,rfl⟩
    have Hga:=Lib.hid hga;rw [hga] at x0 x1 x2 x3 x4 x5 hB ⊢;obtain ⟨W,hW⟩ : ∃ W,W = w.alloc (.cells (opPC ⟨5,0,key,val,id0,.slice A refs.length c⟩) 52):=⟨_,rfl⟩
    rw [← hW] at x0 x1 x2 x3 x4 x5 hB c1 i1 i2 i3 i4 i5 hT0 ⊢;clear hW hga;(go_wp2_with fail);refine c1.mono ?_;rintro e w1 ⟨rfl,rfl⟩;(go_wp2_with fail);refine i1.mono ?_;rintro e w1 ⟨rfl,rfl⟩;(go_wp2_with fail);refine i2.mono ?_;rintro e w1 ⟨rfl,rfl⟩;(go_wp2_with fail);refine i3.mono ?_;rintro e w1 ⟨rfl,rfl⟩;(go_wp2_with fail);refine i4.mono ?_;rintro e w1 ⟨rfl,rfl⟩;(go_wp2_with fail);refine i5.mono ?_;rintro e w1 ⟨rfl,rfl⟩;clear c1 i1 i2 i3 i4 i5;have cis:=ris6 W A _ c _ hT0 hl;rw [Hrb.out] at cis;rw [← Hga.out] at hB;go_wp2_with fail
    all_goals
      first
      | (go_ret;exact ⟨ret_int (by rw [Hck.out];(try simp only [emptyS,List.length_nil] at *);(repeat' split) <;> (first | rfl | omega | (simp_all;done) | (simp_all;omega))),hB⟩)
      | (refine cis.mono ?_;rintro e w2 ⟨rfl,hb2⟩
         have hBB:=bel2 hB hb2;clear hT0 cis x0 x1 x2 x3 x4 x5 hb2;cases rb <;> (go_wp2_with fail;go_ret;exact ⟨ret_int (by rw [Hck.out];(try simp only [emptyS,List.length_nil] at *);(repeat' split) <;> (first | rfl | omega | (simp_all;done) | (simp_all;omega))),hBB⟩))
  · show Calls Tryz.prog 70 #[.agg (opPC ⟨6,0,⟨#[]⟩,val,ref,.slice A 0 c⟩)] w _;change TagsIn (w.alloc (.cells (opPC ⟨6,0,⟨#[]⟩,val,ref,.slice A 0 c⟩) 52)) A 0 [] at hT0;have hB : Below w.heap.size w (w.alloc (.cells (opPC ⟨6,0,⟨#[]⟩,val,ref,.slice A 0 c⟩) 52)):=(Below.refl _ _).alloc (Nat.le_refl _) _;have hr : rowAt (w.alloc (.cells (opPC ⟨6,0,⟨#[]⟩,val,ref,.slice A 0 c⟩) 52)) w.heap.size 0 37 = some (opPC ⟨6,0,⟨#[]⟩,val,ref,.slice A 0 c⟩):=by simp [go_sem]
    have x0:=rowAt_cell hr (j:=0) (by omega);have x1:=rowAt_cell hr (j:=1) (by omega);have x2:=rowAt_cell hr (j:=2) (by omega);have x3:=rowAt_cell hr (j:=3) (by omega);have x5:=rowAt_cell hr (j:=36) (by omega);have x4:=rowAt_sub hr (j:=4) (m:=32) (by omega);simp only [opPC_g0,opPC_g1,opPC_g2,opPC_g3,opPC_g36,opPC_e4,Nat.zero_add] at x0 x1 x2 x3 x4 x5;have c1:=rop_has 6 (w.alloc (.cells (opPC ⟨6,0,⟨#[]⟩,val,ref,.slice A 0 c⟩) 52)) (by omega);have i1:=rop_in (hasS 6) 78 (w.alloc (.cells (opPC ⟨6,0,⟨#[]⟩,val,ref,.slice A 0 c⟩) 52)) (by decide);have i2:=rop_in (hasS 6) 75 (w.alloc (.cells (opPC ⟨6,0,⟨#[]⟩,val,ref,.slice A 0 c⟩) 52)) (by decide);have i3:=rop_in (hasS 6) 86 (w.alloc (.cells (opPC ⟨6,0,⟨#[]⟩,val,ref,.slice A 0 c⟩) 52)) (by decide);have i4:=rop_in (hasS 6) 82 (w.alloc (.cells (opPC ⟨6,0,⟨#[]⟩,val,ref,.slice A 0 c⟩) 52)) (by decide);have i5:=rop_in (hasS 6) 83 (w.alloc (.cells (opPC ⟨6,0,⟨#[]⟩,val,ref,.slice A 0 c⟩) 52)) (by decide);rw [show inB (hasS 6) 78 = false by decide +kernel] at i1;rw [show inB (hasS 6) 75 = false by decide +kernel] at i2;rw [show inB (hasS 6) 86 = true by decide +kernel] at i3;rw [show inB (hasS 6) 82 = true by decide +kernel] at i4;rw [show inB (hasS 6) 83 = false by decide +kernel] at i5;rw [show hasS 6 = ⟨#[82,86]⟩ from rfl] at c1 i1 i2 i3 i4 i5;clear hr;go_enter Tryz.func70,Tryz.ntmps70
    go_upto_region 1 with fail
    obtain ⟨ga,hga⟩ : ∃ ga,w.heap.size = ga:=⟨_,rfl⟩
    have Hga:=Lib.hid hga;rw [hga] at x0 x1 x2 x3 x4 x5 hB ⊢;obtain ⟨W,hW⟩ : ∃ W,W = w.alloc (.cells (opPC ⟨6,0,⟨#[]⟩,val,ref,.slice A 0 c⟩) 52):=⟨_,rfl⟩
    rw [← hW] at x0 x1 x2 x3 x4 x5 hB c1 i1 i2 i3 i4 i5 hT0 ⊢;clear hW hga;(go_wp2_with fail);refine c1.mono ?_;rintro e w1 ⟨rfl,rfl⟩;(go_wp2_with fail);refine i1.mono ?_;rintro e w1 ⟨rfl,rfl⟩;(go_wp2_with fail);refine i2.mono ?_;rintro e w1 ⟨rfl,rfl⟩;(go_wp2_with fail);refine i3.mono ?_;rintro e w1 ⟨rfl,rfl⟩;(go_wp2_with fail);refine i4.mono ?_;rintro e w1 ⟨rfl,rfl⟩;(go_wp2_with fail);refine i5.mono ?_;rintro e w1 ⟨rfl,rfl⟩;clear c1 i1 i2 i3 i4 i5;have cis:=ris6 W A _ c _ hT0 hl;rw [Hrb.out] at cis;rw [← Hga.out] at hB;go_wp2_with fail
    all_goals
      first
      | (go_ret;exact ⟨ret_int (by rw [Hck.out];(try simp only [emptyS,List.length_nil] at *);(repeat' split) <;> (first | rfl | omega | (simp_all;done) | (simp_all;omega))),hB⟩)
      | (refine cis.mono ?_;rintro e w2 ⟨rfl,hb2⟩
         have hBB:=bel2 hB hb2;clear hT0 cis x0 x1 x2 x3 x4 x5 hb2;cases rb <;> (go_wp2_with fail;go_ret;exact ⟨ret_int (by rw [Hck.out];(try simp only [emptyS,List.length_nil] at *);(repeat' split) <;> (first | rfl | omega | (simp_all;done) | (simp_all;omega))),hBB⟩))
  · show Calls Tryz.prog 70 #[.agg (opPC ⟨7,0,⟨#[]⟩,⟨#[]⟩,ref,.slice A 0 c⟩)] w _;change TagsIn (w.alloc (.cells (opPC ⟨7,0,⟨#[]⟩,⟨#[]⟩,ref,.slice A 0 c⟩) 52)) A 0 [] at hT0;have hB : Below w.heap.size w (w.alloc (.cells (opPC ⟨7,0,⟨#[]⟩,⟨#[]⟩,ref,.slice A 0 c⟩) 52)):=(Below.refl _ _).alloc (Nat.le_refl _) _;have hr : rowAt (w.alloc (.cells (opPC ⟨7,0,⟨#[]⟩,⟨#[]⟩,ref,.slice A 0 c⟩) 52)) w.heap.size 0 37 = some (opPC ⟨7,0,⟨#[]⟩,⟨#[]⟩,ref,.slice A 0 c⟩):=by simp [go_sem]
    have x0:=rowAt_cell hr (j:=0) (by omega);have x1:=rowAt_cell hr (j:=1) (by omega);have x2:=rowAt_cell hr (j:=2) (by omega);have x3:=rowAt_cell hr (j:=3) (by omega);have x5:=rowAt_cell hr (j:=36) (by omega);have x4:=rowAt_sub hr (j:=4) (m:=32) (by omega);simp only [opPC_g0,opPC_g1,opPC_g2,opPC_g3,opPC_g36,opPC_e4,Nat.zero_add] at x0 x1 x2 x3 x4 x5;have c1:=rop_has 7 (w.alloc (.cells (opPC ⟨7,0,⟨#[]⟩,⟨#[]⟩,ref,.slice A 0 c⟩) 52)) (by omega);have i1:=rop_in (hasS 7) 78 (w.alloc (.cells (opPC ⟨7,0,⟨#[]⟩,⟨#[]⟩,ref,.slice A 0 c⟩) 52)) (by decide);have i2:=rop_in (hasS 7) 75 (w.alloc (.cells (opPC ⟨7,0,⟨#[]⟩,⟨#[]⟩,ref,.slice A 0 c⟩) 52)) (by decide);have i3:=rop_in (hasS 7) 86 (w.alloc (.cells (opPC ⟨7,0,⟨#[]⟩,⟨#[]⟩,ref,.slice A 0 c⟩) 52)) (by decide);have i4:=rop_in (hasS 7) 82 (w.alloc (.cells (opPC ⟨7,0,⟨#[]⟩,⟨#[]⟩,ref,.slice A 0 c⟩) 52)) (by decide);have i5:=rop_in (hasS 7) 83 (w.alloc (.cells (opPC ⟨7,0,⟨#[]⟩,⟨#[]⟩,ref,.slice A 0 c⟩) 52)) (by decide);rw [show inB (hasS 7) 78 = false by decide +kernel] at i1;rw [show inB (hasS 7) 75 = false by decide +kernel] at i2;rw [show inB (hasS 7) 86 = false by decide +kernel] at i3;rw [show inB (hasS 7) 82 = true by decide +kernel] at i4;rw [show inB (hasS 7) 83 = false by decide +kernel] at i5;rw [show hasS 7 = ⟨#[82]⟩ from rfl] at c1 i1 i2 i3 i4 i5;clear hr;go_enter Tryz.func70,Tryz.ntmps70
    go_upto_region 1 with fail
    obtain ⟨ga,hga⟩ : ∃ ga,w.heap.size = ga:=⟨_,rfl⟩
    have Hga:=Lib.hid hga;rw [hga] at x0 x1 x2 x3 x4 x5 hB ⊢;obtain ⟨W,hW⟩ : ∃ W,W = w.alloc (.cells (opPC ⟨7,0,⟨#[]⟩,⟨#[]⟩,ref,.slice A 0 c⟩) 52):=⟨_,rfl⟩
    rw [← hW] at x0 x1 x2 x3 x4 x5 hB c1 i1 i2 i3 i4 i5 hT0 ⊢;clear hW hga;(go_wp2_with fail);refine c1.mono ?_;rintro e w1 ⟨rfl,rfl⟩;(go_wp2_with fail);refine i1.mono ?_;rintro e w1 ⟨rfl,rfl⟩;(go_wp2_with fail);refine i2.mono ?_;rintro e w1 ⟨rfl,rfl⟩;(go_wp2_with fail);refine i3.mono ?_;rintro e w1 ⟨rfl,rfl⟩;(go_wp2_with fail);refine i4.mono ?_;rintro e w1 ⟨rfl,rfl⟩;(go_wp2_with fail);refine i5.mono ?_;rintro e w1 ⟨rfl,rfl⟩;clear c1 i1 i2 i3 i4 i5;have cis:=ris6 W A _ c _ hT0 hl;rw [Hrb.out] at cis;rw [← Hga.out] at hB;go_wp2_with fail
    all_goals
      first
      | (go_ret;exact ⟨ret_int (by rw [Hck.out];(try simp only [emptyS,List.length_nil] at *);(repeat' split) <;> (first | rfl | omega | (simp_all;done) | (simp_all;omega))),hB⟩)
      | (refine cis.mono ?_;rintro e w2 ⟨rfl,hb2⟩
         have hBB:=bel2 hB hb2;clear hT0 cis x0 x1 x2 x3 x4 x5 hb2;cases rb <;> (go_wp2_with fail;go_ret;exact ⟨ret_int (by rw [Hck.out];(try simp only [emptyS,List.length_nil] at *);(repeat' split) <;> (first | rfl | omega | (simp_all;done) | (simp_all;omega))),hBB⟩))
end
section
open Go.RowKit
@[go_sem] theorem buildRr_s (s : ByteArray) (w : World) : (bdS 112 #[(0,.string s)]).run Tryz.prog w = .ok (.agg (rrC ⟨s,0⟩)) w:=by kernel_rfl
end
section
open Go.RowKit
def lettersS : ByteArray:=⟨#[63,99,115,108,109,114]⟩
end
section
open Go.RowKit
end
section
open Go.RowKit
end
section
open Go.RowKit
end
section
open Go.RowKit
def valC (k n : Int) (A : Option Addr) (m c : Nat) : Array Value:=valVC ⟨k,n,.slice A m c⟩
set_option maxRecDepth 100000 in
set_option maxHeartbeats 1000000 in
theorem rsame26 (w : World) (k n k' n' : Int) (A B : Option Addr) (m m' c c' : Nat) (X Y : List Pair) (hx : PairsIn w A m X) (hy : PairsIn w B m' Y) (hm : m ≤ 1000000) (hm' : m' ≤ 1000000) :
    Calls Tryz.prog 15 #[.agg (valC k n A m c),.agg (valC k' n' B m' c')] w fun e w'=>e = .returned (.bool (decide (k = k' ∧ n = n' ∧ X = Y))) ∧ Below w.heap.size w w':=by
  have hB : Below w.heap.size w ((w.alloc (.cells (valC k n A m c) 25)).alloc (.cells (valC k' n' B m' c') 25)):=((Below.refl _ _).alloc (Nat.le_refl _) _).alloc (by simp) _;have hx1:=SlR.below hx hB;have hy1:=SlR.below hy hB;have cp:=rpairs _ A B m m' c c' X Y hx1 hy1 hm hm';unfold valC at hB cp ⊢;have hd : decide (k = k' ∧ n = n' ∧ X = Y) = ((k == k') && (n == n') && decide (X = Y)):=by
    rw [Bool.eq_iff_iff];simp [and_assoc]
  obtain ⟨b,hb⟩ : ∃ b,decide (X = Y) = b:=⟨_,rfl⟩
  rw [hb] at cp hd;have Hd:=Lib.hid hd;clear hd hx1 hy1 hb hx hy;obtain ⟨b1,h1⟩ : ∃ b1,(k == k') = b1:=⟨_,rfl⟩
  obtain ⟨b2,h2⟩ : ∃ b2,(n == n') = b2:=⟨_,rfl⟩
  have Hd2 : Hid (decide (k = k' ∧ n = n' ∧ X = Y) = (b1 && b2 && b)):=by show _ = _;rw [Hd.out,h1,h2]
  clear Hd;cases b1 <;> cases b2
  all_goals
    go_enter Tryz.func15,Tryz.ntmps15
    go_wp2_with fail
    first
    | (go_ret;exact ⟨ret_bool (by rw [Hd2.out];rfl),hB⟩)
    | (refine cp.mono ?_;rintro e w1 ⟨rfl,hb1⟩
       have hBB:=bel2 hB hb1;clear cp hb1 hB;(go_wp2_with fail);go_ret;exact ⟨ret_bool (by rw [Hd2.out];rfl),hBB⟩)
end
section
open Go.RowKit
@[go_sem] theorem buildValV_kn (k n : Int) (w : World) : (bdS 25 #[(0,.int .i64 k),(1,.int .i64 n)]).run Tryz.prog w = .ok (.agg (valVC ⟨k,n,.slice none 0 0⟩)) w:=by kernel_rfl
@[go_sem] theorem buildValV_kl (k : Int) (A : Option Addr) (n c : Nat) (w : World) : (bdS 25 #[(0,.int .i64 k),(2,.slice A n c)]).run Tryz.prog w = .ok (.agg (valVC ⟨k,0,.slice A n c⟩)) w:=by kernel_rfl
end
section
open Go.RowKit
def pow256 : Nat → Int | 0=>1 | k + 1=>256 * pow256 k
theorem beL_snoc (k n : Nat) : beL (k + 1) n = beL k (n / 256) ++ [UInt8.ofNat n]:=by
  induction k generalizing n with
  | zero=>simp [beL]
  | succ k ih =>
    have h1:=ih n;show UInt8.ofNat (n / 256 ^ (k + 1)) :: beL (k + 1) n = (UInt8.ofNat (n / 256 / 256 ^ k) :: beL k (n / 256)) ++ [UInt8.ofNat n];rw [h1,Nat.pow_succ,Nat.mul_comm,← Nat.div_div_eq_div_mul];rfl
theorem mk1 (w : World) : (Instr.makeSlice 37 (.int .i64 1) (.int .i64 1)).run Tryz.prog w = .ok (.slice (some ⟨w.heap.size,0,none⟩) 1 1) (w.alloc (.cells #[.int .u8 0] 5)):=by kernel_rfl
theorem mk4 (w : World) : (Instr.makeSlice 37 (.int .i64 4) (.int .i64 4)).run Tryz.prog w = .ok (.slice (some ⟨w.heap.size,0,none⟩) 4 4) (w.alloc (.cells #[.int .u8 0,.int .u8 0,.int .u8 0,.int .u8 0] 5)):=by kernel_rfl
theorem conv_bytes (w : World) (bs : List UInt8) (n : Nat) (hn : n = bs.length) (cs : Array Value) (hc : cs = (bs.map byteC).toArray) :
    (convert 37 9 (.slice (some ⟨w.heap.size,0,none⟩) n n)).run Tryz.prog (w.alloc (.cells cs 5)) = .ok (.string ⟨bs.toArray⟩) (w.alloc (.cells cs 5)):=by
  subst hn;subst hc;exact run_convert_bytes_back (P:=Tryz.prog) _ 37 9 5 ⟨w.heap.size,0,none⟩ bs.length bs Tryz.underlying37 Tryz.underlying5 Tryz.underlying9 (fun j hj=>by simp [go_sem,byteC,hj])
theorem u8n (n : Nat) : ((n : Int) % 256) = ((UInt8.ofNat n).toNat : Int):=by simp
set_option maxHeartbeats 1000000 in
set_option maxRecDepth 100000 in
theorem rnum1 (n : Nat) (w : World) (h : n < 256) :
    Calls Tryz.prog 83 #[.int .i64 n,.int .i64 1] w fun e w'=>e = .returned (.tuple #[.string ⟨(beL 1 n).toArray⟩,.int .i64 0]) ∧ Below w.heap.size w w':=by
  have hd1 : decide ((n : Int) < 0) = false:=by simp
  have hd2 : decide (256 ≤ (n : Int)) = false:=by simp;omega
  have hcv:=conv_bytes w (beL 1 n) 1 rfl #[.int .u8 ((n : Int) % 256)] (by rw [u8n];simp [beL,byteC]);obtain ⟨bs,hbs⟩ : ∃ bs,beL 1 n = bs:=⟨_,rfl⟩
  rw [hbs] at hcv ⊢;clear hbs;have hmk:=mk1;go_enter Tryz.func83,Tryz.ntmps83
  (go_wp2_with fail);refine wp_loop_rounds 1 ?_;rw [rounds_succ];(go_wp2_with fail);refine wp_loop_rounds 2 ?_;rw [rounds_succ];(go_wp2_with fail);rw [rounds_succ];(go_wp2_with fail);go_ret2;exact ⟨rfl,(Below.refl _ _).alloc (Nat.le_refl _) _⟩
set_option maxHeartbeats 1000000 in
set_option maxRecDepth 100000 in
theorem rnum4 (n : Nat) (w : World) (h : n < 4294967296) :
    Calls Tryz.prog 83 #[.int .i64 n,.int .i64 4] w fun e w'=>e = .returned (.tuple #[.string ⟨(beL 4 n).toArray⟩,.int .i64 0]) ∧ Below w.heap.size w w':=by
  have hd1 : decide ((n : Int) < 0) = false:=by simp
  have hd2 : decide (4294967296 ≤ (n : Int)) = false:=by simp;omega
  have hcv:=conv_bytes w (beL 4 n) 4 rfl #[.int .u8 ((n : Int) / 256 / 256 / 256 % 256),.int .u8 ((n : Int) / 256 / 256 % 256),.int .u8 ((n : Int) / 256 % 256),.int .u8 ((n : Int) % 256)] (by
    have e1 : (n : Int) / 256 = ((n / 256 : Nat) : Int):=by simp
    have e2 : ((n / 256 : Nat) : Int) / 256 = ((n / 256 / 256 : Nat) : Int):=by simp
    have e3 : ((n / 256 / 256 : Nat) : Int) / 256 = ((n / 256 / 256 / 256 : Nat) : Int):=by simp
    rw [e1,e2,e3,u8n,u8n,u8n,u8n,beL_snoc,beL_snoc,beL_snoc];simp [beL,byteC])
  obtain ⟨bs,hbs⟩ : ∃ bs,beL 4 n = bs:=⟨_,rfl⟩
  rw [hbs] at hcv ⊢;clear hbs;have hmk:=mk4;go_enter Tryz.func83,Tryz.ntmps83
  (go_wp2_with fail);refine wp_loop_rounds 4 ?_;rw [rounds_succ];(go_wp2_with fail);rw [rounds_succ];(go_wp2_with fail);rw [rounds_succ];(go_wp2_with fail);rw [rounds_succ];(go_wp2_with fail);refine wp_loop_rounds 5 ?_;rw [rounds_succ];(go_wp2_with fail);rw [rounds_succ];(go_wp2_with fail);rw [rounds_succ];(go_wp2_with fail);rw [rounds_succ];(go_wp2_with fail);rw [rounds_succ];(go_wp2_with fail);go_ret2;exact ⟨rfl,(Below.refl _ _).alloc (Nat.le_refl _) _⟩
theorem rnumP (n M : Nat) (w : World) (hM : M = 1 ∨ M = 4) (h : n < 256 ^ M) :
    Calls Tryz.prog 83 #[.int .i64 n,.int .i64 M] w fun e w'=>∃ s : ByteArray,e = .returned (.tuple #[.string s,.int .i64 0]) ∧ s.size = M ∧ s.data.toList = beL M n ∧ Below w.heap.size w w':=by
  have c : Calls Tryz.prog 83 #[.int .i64 n,.int .i64 M] w fun e w'=>e = .returned (.tuple #[.string ⟨(beL M n).toArray⟩,.int .i64 0]) ∧ Below w.heap.size w w':=by
    rcases hM with rfl | rfl
    · exact rnum1 n w h
    · exact rnum4 n w h
  exact c.mono fun _ _ ⟨he,hb⟩=>⟨_,he,(by show (beL M n).toArray.size = M;simp [beL_length]),by simp,hb⟩
end
section
open Go.RowKit
end
section
open Go.RowKit
end
section
open Go.RowKit
end
section
open Go.RowKit
end
section
open Go.RowKit
end
section
open Go.RowKit
end
section
open Go.RowKit
end
section
open Go.RowKit
end
section
open Go.RowKit
end
section
open Go.RowKit
end
section
open Go.RowKit
end
section
open Go.RowKit
end
section
open Go.RowKit
def Small (w : World) (x : Nat) : Prop:=∀ o k cs,32 ≤ k → rowAt w x o k = some cs → False
theorem small_map {w : World} {x : Nat} {es : Array MapEntry} {clk : Nat} (h : w.heap[x]? = some (.map es clk)) : Small w x:=fun o k cs _ hr=>by
  unfold rowAt at hr;rw [h] at hr;cases hr
theorem small_cells {w : World} {x : Nat} {cs : Array Value} {t : TypeId} {f : Nat × Nat} (h : w.heap[x]? = some (.cells cs t f)) (hs : cs.size < 32) : Small w x:=fun o k c hk hr=>by
  unfold rowAt at hr;rw [h] at hr;dsimp only at hr;rw [if_neg (by omega)] at hr;cases hr
theorem SlR.kept_small {w w' : World} {A : Option Addr} {n k : Nat} {R : List (Array Value)} {S : List Nat} (h : SlR w A n k R) (hk : 32 ≤ k) (hw : Keep S w w') (hs : ∀ x ∈ S,Small w x) : SlR w' A n k R:=by
  refine ⟨h.1,fun h0=>?_⟩;obtain ⟨q,o,e,hc⟩:=h.2 h0;refine ⟨q,o,e,fun i hi=>?_⟩;have hql:=rowAt_lt (hc i hi);rw [hw.row hql (fun hm=>hs q hm _ _ _ hk (hc i hi)) _ _];exact hc i hi
section
variable {w w' : World} {M S : List Nat}
theorem setAt_small {κ : Type} {kv : κ → Value} {ok : κ → Prop} {b : Nat} {X : List κ} (h : SetAt w b kv ok X) : Small w b:=by
  obtain ⟨M,es,clk,hm,_⟩:=h;exact small_map hm.heap
theorem StAt.small {O : List Nat} {v : Value} {s : VSt} (h : StAt w O M v s) : ∀ x ∈ O,Small w x:=by
  cases s with
  | t n =>
    obtain ⟨g,e,h1,rfl⟩:=h;intro x hx;simp at hx;subst hx;exact small_cells h1 (by simp)
  | b L G =>
    obtain ⟨g,bl,bg,e,h1,rfl⟩:=h;intro x hx;simp at hx;rcases hx with rfl | rfl | rfl
    · exact small_cells h1.blk (by simp)
    · exact setAt_small h1.live
    · exact setAt_small h1.gone
  | l L =>
    obtain ⟨g,b,e,h1,rfl⟩:=h;obtain ⟨M',es,clk,hm,_⟩:=h1.map;intro x hx;simp at hx;rcases hx with rfl | rfl
    · exact small_cells h1.blk (by simp)
    · exact small_map hm.heap
  | m X Ov =>
    obtain ⟨g,bl,bo,e,h1,rfl⟩:=h;intro x hx;simp at hx;rcases hx with rfl | rfl | rfl
    · exact small_cells h1.blk (by simp)
    · exact setAt_small h1.live
    · exact setAt_small h1.over
  | s N G =>
    obtain ⟨g,bn,bb,bg,e,h1,rfl⟩:=h;obtain ⟨es,clk,hn⟩:=h1.nodes;obtain ⟨BM,es',clk',hb,_,_⟩:=h1.behind;intro x hx;simp at hx;rcases hx with rfl | rfl | rfl | rfl
    · exact small_cells h1.blk (by simp)
    · exact small_map hn.heap
    · exact small_map hb.heap
    · exact setAt_small h1.gone
end
theorem VAt.small {w : World} {g : Nat} {t : ByteArray} {b : Nat} {O : List Nat} {I : List Id32} {v : Value} {s : VSt} (h : VAt w g t b O I v s) : ∀ x ∈ b :: O,Small w x:=by
  intro x hx;rcases List.mem_cons.1 hx with rfl | hx
  · exact setAt_small h.view.ids
  · exact h.st.small x hx
def stepI (m : MarkV) (I : List Id32) : List Id32:=if m.id ∈ I then I else m.id :: I
def stepS (t : ByteArray) (m : MarkV) (I : List Id32) (s : VSt) : VSt:=if m.id ∈ I then s else foldS t m s
def stepX (t : ByteArray) (m : MarkV) (I : List Id32) (x : RV) : RV:=if m.id ∈ I then x else rfoldS t m x
structure Told (t : ByteArray) (i : Nat) (I : List Id32) (s : VSt) : Prop where
  kind : s.kind = kindB t
  len : s.len ≤ i
  big : s.big ≤ 9 * i
  ris : s.ris
  ids : I.length ≤ i
structure ToldR (t : ByteArray) (i : Nat) (I : List Id32) (s : VSt) (x : RV) : Prop extends Told t i I s where
  rel : RelS x s
  ok : RVOk x
  xlen : x.len ≤ 9 * i
theorem Told.step {t : ByteArray} {i : Nat} {I : List Id32} {s : VSt} (h : Told t i I s) (m : MarkV) : Told t (i + 1) (stepI m I) (stepS t m I s):=by
  have h1:=h.len;have h2:=h.big;have h3:=h.ids;unfold stepI stepS;by_cases hm : m.id ∈ I
  · rw [if_pos hm,if_pos hm];exact ⟨h.kind,by omega,by omega,h.ris,by omega⟩
  · rw [if_neg hm,if_neg hm];have h4:=foldS_len t m s;have h5:=foldS_big t m s;exact ⟨(foldS_kind t m s).trans h.kind,by omega,by omega,foldS_ris t m s h.ris,by simp;omega⟩
theorem ToldR.new (t : ByteArray) (hk : kindB t ≠ 0) : ToldR t 0 [] (VSt.new (kindB t)) rv0:=by
  refine ⟨⟨?_,?_,?_,?_,by simp⟩,rel_new _,rvOk0,by simp [rv0,RV.len]⟩
  all_goals
    rcases kindB_range t with e | e | e | e | e | e
    · exact absurd e hk
    all_goals (rw [e];first | rfl | trivial | exact Nat.le_refl _ | exact Ris.nil)
theorem vfold_step (m : MarkV) (w : World) (g : Nat) (t : ByteArray) (b : Nat) (O : List Nat) (I : List Id32) (v : Value) (s : VSt) (h : VAt w g t b O I v s) (hp : PartsVar w) (hs : m.body.size ≤ 9223372036854775807) (ht : t.size ≤ 9223372036854775807) (hk : kindB t = s.kind) (hl : s.len ≤ 1000) :
    Calls Tryz.prog 26 #[.pointer (some ⟨g,0,none⟩),.agg (markVC m)] w fun e w'=>e = .returned (.bool (!decide (m.id ∈ I))) ∧ VAt w' g t b O (stepI m I) v (stepS t m I s) ∧ Keep (b :: O) w w':=by
  by_cases hm : m.id ∈ I
  · refine (vfold_old m w g t b I v h.view hm).mono ?_;rintro e w' ⟨rfl,hb⟩;rw [decide_eq_true hm];unfold stepI stepS;rw [if_pos hm,if_pos hm];exact ⟨rfl,h.below hb,(Keep.of_below hb).mono (by simp)⟩
  · refine (vfold_vat m w g t b O I v s h hm hp hs ht hk hl).mono ?_;rintro e w' ⟨rfl,h1,h2⟩;rw [decide_eq_false hm];unfold stepI stepS;rw [if_neg hm,if_neg hm];exact ⟨rfl,h1,h2⟩
theorem vnew_bad (t : ByteArray) (w : World) (ht : t.size ≤ 9223372036854775807) (hk : kindB t = 0) :
    Calls Tryz.prog 23 #[.string t] w fun e w'=>e = .returned (.tuple #[.pointer none,.int .i64 (checkB t)]) ∧ Below w.heap.size w w':=by
  have c1:=fun w=>check_any t w ht;have hcn : checkB t ≠ 0:=by unfold checkB;rw [if_pos hk];decide
  obtain ⟨E,hE⟩ : ∃ E,checkB t = E:=⟨_,rfl⟩
  rw [hE] at hcn c1 ⊢;have hcb : (E != 0) = true:=by simpa using hcn
  clear hcn hE hk;go_enter Tryz.func23,Tryz.ntmps23
  (go_wp2_with fail);refine (c1 _).mono ?_;rintro e w1 ⟨rfl,hb1⟩;(go_wp2_with fail);go_ret2;exact ⟨rfl,hb1⟩
theorem pairs_lenQ {w : World} {O M : List Nat} {v : Value} (s : VSt) (hs : StAt w O M v s) : s.pairs.length ≤ s.len:=by
  cases s with
  | t n=>exact Nat.le_refl _
  | b L G=>show ((listB L).map pairV).length ≤ L.length;rw [List.length_map];exact listB_len L
  | l L=>show (L.map pairOf).length ≤ L.length;rw [List.length_map];exact Nat.le_refl _
  | m X O=>exact listM_len X
  | s N G =>
    obtain ⟨g,bn,bb,bg,rfl,h1,rfl⟩:=hs;exact listS_len (N:=N) (G:=G) ⟨h1.one,fun a ha=>(nodeE_id (h1.ok a ha)).1⟩
section
variable {t : ByteArray} {i : Nat} {I : List Id32} {s : VSt} {x : RV}
theorem vval_t (T : Told t i I s) (ht : t.size ≤ 9223372036854775807) (hi : i ≤ 30) (w : World) (g b : Nat) (O : List Nat) (v : Value) (h : VAt w g t b O I v s) :
    Calls Tryz.prog 24 #[.pointer (some ⟨g,0,none⟩)] w fun e w'=>∃ A m c,e = .returned (.agg (valVC ⟨s.kind,s.num,.slice A m c⟩)) ∧ (PairsIn w' A m s.pairs ∧ m ≤ 1000000) ∧ Below w.heap.size w w':=by
  have h1:=T.len;have h2:=pairs_lenQ s h.st;refine (vvalue w g t b I v O (b :: O) s h.view h.st ht T.kind.symm (by omega)).mono ?_;rintro e w' ⟨A,c,rfl,ho,hb⟩;exact ⟨A,_,c,rfl,⟨ho.slr,by omega⟩,hb⟩
theorem same_t (w : World) (k n : Int) (A B : Option Addr) (m m' c c' : Nat) (L : List Pair) (hx : PairsIn w A m L ∧ m ≤ 1000000) (hy : PairsIn w B m' L ∧ m' ≤ 1000000) :
    Calls Tryz.prog 15 #[.agg (valVC ⟨k,n,.slice A m c⟩),.agg (valVC ⟨k,n,.slice B m' c'⟩)] w fun e w'=>e = .returned (.bool true) ∧ Below w.heap.size w w':=by
  have cs:=rsame26 w k n k n A B m m' c c' L L hx.1 hy.1 hx.2 hy.2;rw [decide_eq_true ⟨rfl,rfl,rfl⟩] at cs;exact cs
end
end
section
open Go.RowKit
theorem chk_inc (n : Nat) (hn : n < 1000) : chkN ⟨1,n,⟨#[]⟩,⟨#[]⟩,id0,[]⟩ = 0:=by
  unfold chkN numO risI;simp only [emptyS,List.length_nil];have h1 : decide ((n : Int) < 2147483648) = true:=decide_eq_true (by omega);have h2 : decide (-2147483648 ≤ (n : Int)) = true:=decide_eq_true (by omega);rw [h1,h2];rfl
def incL (n : Nat) : List UInt8:=beL 1 1 ++ beL 4 (n + 2147483648)
set_option maxRecDepth 100000 in
set_option maxHeartbeats 2000000 in
theorem rop_put_inc (n : Nat) (w : World) (hn : n < 1000) :
    Calls Tryz.prog 41 #[.agg (opPC ⟨1,n,⟨#[]⟩,⟨#[]⟩,id0,.slice none 0 0⟩)] w fun e w'=>∃ s : ByteArray,e = .returned (.tuple #[.string s,.int .i64 0]) ∧ s.data.toList = incL n ∧ Below w.heap.size w w':=by
  have hB : Below w.heap.size w (w.alloc (.cells (opPC ⟨1,n,⟨#[]⟩,⟨#[]⟩,id0,.slice none 0 0⟩) 52)):=(Below.refl _ _).alloc (Nat.le_refl _) _;have hr : rowAt (w.alloc (.cells (opPC ⟨1,n,⟨#[]⟩,⟨#[]⟩,id0,.slice none 0 0⟩) 52)) w.heap.size 0 37 = some (opPC ⟨1,n,⟨#[]⟩,⟨#[]⟩,id0,.slice none 0 0⟩):=by simp [go_sem]
  have cck:=rop_check ⟨1,n,⟨#[]⟩,⟨#[]⟩,id0,[]⟩ none 0 (w.alloc (.cells (opPC ⟨1,n,⟨#[]⟩,⟨#[]⟩,id0,.slice none 0 0⟩) 52)) (.inl ⟨rfl,rfl,rfl,rfl,rfl⟩) SlR.nil_ (by simp) (by rw [emptyS];omega) (by rw [emptyS];omega);rw [chk_inc n hn] at cck;change Calls Tryz.prog _ #[.agg (opPC ⟨1,n,⟨#[]⟩,⟨#[]⟩,id0,.slice none 0 0⟩)] _ _ at cck;go_enter Tryz.func41,Tryz.ntmps41
  go_upto_region 1 with fail
  obtain ⟨ga,hga⟩ : ∃ ga,w.heap.size = ga:=⟨_,rfl⟩
  have Hga:=Lib.hid hga;rw [hga] at hr hB ⊢;obtain ⟨W,hW⟩ : ∃ W,W = w.alloc (.cells (opPC ⟨1,n,⟨#[]⟩,⟨#[]⟩,id0,.slice none 0 0⟩) 52):=⟨_,rfl⟩
  rw [← hW] at hr hB cck ⊢;clear hW hga;(go_wp2_with fail);refine cck.mono ?_;rintro e w1 ⟨rfl,hb1⟩;have hr1 : rowAt w1 ga 0 37 = some (opPC ⟨1,n,⟨#[]⟩,⟨#[]⟩,id0,.slice none 0 0⟩):=(rowAt_of_block (hb1.block ga (rowAt_lt hr)) _ _).trans hr;have hB1 : Below ga w w1:=hB.trans (hb1.mono (by have:=hB.size;have:=Hga.out;omega));have x0:=rowAt_cell hr1 (j:=0) (by omega);rw [opPC_g0,Nat.zero_add] at x0;clear hr hB cck hb1;(go_wp2_with fail);refine (rnumP 1 1 _ (.inl rfl) (by omega)).mono ?_;rintro e w2 ⟨s1,rfl,hs1,hl1,hb2⟩;have hr2 : rowAt w2 ga 0 37 = some (opPC ⟨1,n,⟨#[]⟩,⟨#[]⟩,id0,.slice none 0 0⟩):=(rowAt_of_block (hb2.block ga (rowAt_lt hr1)) _ _).trans hr1;have hB2 : Below ga w w2:=hB1.trans (hb2.mono (by have:=rowAt_lt hr1;omega));clear hr1 hB1 hb2 x0;have x0:=rowAt_cell hr2 (j:=0) (by omega);have x1:=rowAt_cell hr2 (j:=1) (by omega);rw [opPC_g0,Nat.zero_add] at x0;rw [opPC_g1,Nat.zero_add] at x1;have Hl1:=Lib.hid hl1;have Hs1:=Lib.hid hs1;clear hl1;have ch:=rop_has 1 w2 (by omega);rw [show hasS 1 = ⟨#[78]⟩ from rfl] at ch;(go_wp2_with fail);refine ch.mono ?_;rintro e w3 ⟨rfl,rfl⟩;have hb0 : (((⟨#[78]⟩ : ByteArray)[0]'(by decide)).toNat : Int) = 78:=rfl;have cn:=rnumP (n + 2147483648) 4 w2 (.inr rfl) (by omega);rw [show ((n + 2147483648 : Nat) : Int) = (n : Int) + 2147483648 from by omega] at cn;have hw1 : ((n : Int) + 2147483648 + 9223372036854775808) % 18446744073709551616 - 9223372036854775808 = (n : Int) + 2147483648:=by omega
  have hle : (((⟨#[78]⟩ : ByteArray).size : Nat) : Int) = 1:=rfl;(go_wp2_with fail);refine wp_loop_rounds 2 ?_;rw [rounds_succ];(go_wp2_with fail);refine cn.mono ?_;rintro e w4 ⟨s2,rfl,hs2,hl2,hb4⟩;have hB4 : Below ga w w4:=hB2.trans (hb4.mono (by have:=rowAt_lt hr2;omega));have hsz : (s1 ++ s2).size ≤ 9223372036854775807:=by rw [ByteArray.size_append];omega
  have hss : ¬ 9223372036854775807 < s1.size + s2.size:=by omega
  have Hl2:=Lib.hid hl2;clear hb4 hr2 x0 x1 hl2 cn;(go_wp2_with fail);rw [rounds_succ];(go_wp2_with fail);go_ret2;refine ⟨s1 ++ s2,rfl,?_,by rw [Hga.out];exact hB4⟩;rw [ByteArray.data_append,Array.toList_append,Hl1.out,Hl2.out];rfl
end
section
open Go.RowKit
def id1v : Id32:=⟨1 :: List.replicate 31 0,by simp⟩
@[go_sem ↓] theorem buildId1v_run (w : World) : (Instr.build 39 #[(0,.int .u8 1)]).run Tryz.prog w = .ok (.agg (idC id1v)) w:=by kernel_rfl
@[go_sem] theorem id1v_set : (idC id0).setIfInBounds 0 (.int .u8 1) = idC id1v:=by simp [idC,id0,id1v,byteC,List.replicate]
def caS : ByteArray:=⟨#[99,97]⟩
theorem ca_kind : kindB caS = 1:=by decide +kernel
end
section
open Go.RowKit
def markEqB (x y : MarkV) : Bool:=(x.id == y.id) && ((x.h == y.h) && (x.body.toList == y.body.toList))
theorem markEqB_eq (x y : MarkV) : markEqB x y = true ↔ x = y:=by
  unfold markEqB;simp only [Bool.and_eq_true,beq_iff_eq,toList_inj];exact ⟨fun h=>MarkV_ext h,fun h=>by subst h;exact ⟨rfl,rfl,rfl⟩⟩
theorem eqMark_in (x y : MarkV) (w : World) : (Op.equalIn 10000 41 (.agg (markVC x)) (.agg (markVC y))).run Tryz.prog w = .ok (markEqB x y) w:=by
  rw [show (10000 : Nat) = 9999 + 1 from rfl,run_equalIn_agg w 9999 41 _ _ fieldsMarkV (by kernel_rfl)];unfold markEqB;have e1:=eqId_in 9997 x.id y.id w;have e2:=run_equalIn_string (P:=Tryz.prog) w 9998 9 x.body y.body Tryz.underlying9;have e3:=run_equalIn_int (P:=Tryz.prog) w 9998 3 .i64 .i64 x.h y.h (by kernel_rfl);simp only [Program.fieldsOf,Tryz.underlying41];simp [Op.eqFields,part,asAgg,isAgg,go_sem,Tryz.underlying9,Tryz.underlying39,e1,e2,e3];cases h1 : (x.id == y.id) <;> cases h2 : (x.body.toList == y.body.toList) <;> cases h3 : (x.h == y.h) <;> simp_all
@[go_sem ↓] theorem neqMark_run (x y : MarkV) (w : World) : (binOp .neq 41 (.agg (markVC x)) (.agg (markVC y))).run Tryz.prog w = .ok (.bool (!(markEqB x y))) w:=by
  rw [run_neq_struct,eqMark_in];rfl
def OncePre (R : List MarkV) (i k : Nat) : Prop:=∀ a b (ha : a < R.length) (hb : b < R.length),b < a → (a < i ∨ (a = i ∧ b < k)) → (R[a]).id = (R[b]).id → R[a] = R[b]
theorem oncePre_next {R : List MarkV} {i k : Nat} (h : OncePre R i k) (hi : i < R.length) (hk : k < i) (hx : (R[i]).id = (R[k]'(by omega)).id → R[i] = R[k]'(by omega)) : OncePre R i (k + 1):=by
  intro a b ha hb hab hc he;rcases hc with h1 | ⟨h1,h2⟩
  · exact h a b ha hb hab (.inl h1) he
  · by_cases h3 : b < k
    · exact h a b ha hb hab (.inr ⟨h1,h3⟩) he
    · obtain rfl : b = k:=by omega
      subst h1;exact hx he
theorem oncePre_row {R : List MarkV} {i : Nat} (h : OncePre R i i) : OncePre R (i + 1) 0:=by
  intro a b ha hb hab hc he;rcases hc with h1 | ⟨h1,h2⟩
  · by_cases h3 : a < i
    · exact h a b ha hb hab (.inl h3) he
    · obtain rfl : a = i:=by omega
      exact h a b ha hb hab (.inr ⟨rfl,hab⟩) he
  · omega
end
section
open Go.RowKit Stb
set_option maxRecDepth 100000 in
set_option maxHeartbeats 1000000 in
theorem eq_pairs (w : World) (A B : Option Addr) (n m cap cap' : Nat) (X Y : List Pair) (hx : PairsIn w A n X) (hy : PairsIn w B m Y) (hn : n ≤ 1000000) (hm : m ≤ 1000000) :
    Calls Tryz.prog 54 #[.slice A n cap,.slice B m cap'] w fun e w'=>e = .returned (.bool (decide (X = Y))) ∧ Below w.heap.size w w':=by
  have hlx:=PairsIn.len hx;have hly:=PairsIn.len hy;have Hlx:=Lib.hid hlx;have Hly:=Lib.hid hly;by_cases hnm : n = m
  · subst hnm;clear hlx hly;go_enter Tryz.func54,Tryz.ntmps54
    (go_wp2_with fail);go_loopw [13] (fun i wr=>∃ k : Nat,k ≤ n ∧ i = .int .i64 k ∧ Hid (X.take k = Y.take k) ∧ Below w.heap.size w wr) (fun i _=>n - (intOf i).toNat)
    case atStart=>exact ⟨0,Nat.zero_le _,rfl,rfl,Below.refl _ _⟩
    case round =>
      obtain ⟨k,hk,rfl,heq,hb⟩:=hrel;by_cases hlt : k < n
      · obtain ⟨q,o,rfl,hr,_,_⟩:=PairsIn.get (SlR.below hx hb) hlt (by rw [Hlx.out];exact hlt);obtain ⟨q2,o2,rfl,hr2,_,_⟩:=PairsIn.get (SlR.below hy hb) hlt (by rw [Hly.out];exact hlt);have hX : X.take (k + 1) = X.take k ++ [X[k]'(by rw [Hlx.out];exact hlt)]:=by rw [List.take_add_one,List.getElem?_eq_getElem (by rw [Hlx.out];exact hlt)];rfl
        have hY : Y.take (k + 1) = Y.take k ++ [Y[k]'(by rw [Hly.out];exact hlt)]:=by rw [List.take_add_one,List.getElem?_eq_getElem (by rw [Hly.out];exact hlt)];rfl
        obtain ⟨x,hx'⟩ : ∃ x,X[k]'(by rw [Hlx.out];exact hlt) = x:=⟨_,rfl⟩
        obtain ⟨y,hy'⟩ : ∃ y,Y[k]'(by rw [Hly.out];exact hlt) = y:=⟨_,rfl⟩
        rw [hx'] at hr hX;rw [hy'] at hr2 hY;have HX:=Lib.hid hX;have HY:=Lib.hid hY;clear hX hY;have HX':=Lib.hid hx';have HY':=Lib.hid hy';clear hx' hy';go_upto_region 6 with fail
        refine wp_region_lex (Bel wr) false (by kernel_rfl) (by kernel_rfl) (by kernel_rfl) (bel_drew wr) ?_;have hne:=bel_some wr;have hS:=bel_drew wr;have b1:=sub_row hr;have b2:=sub_row hr2;repeat (refine wpLx_loose ?_ ?_;(focus (simp only [chainOp];done));intro K hK;go_simp;refine hK _ ?_;clear hK K)
        refine wpLx_nil ?_;intro hS;clear hne hS b1 b2 hr hr2;have hb' : Below w.heap.size w wr.drew:=hb.drew;cases hpe : pairEqB x y with
        | true =>
          have e:=(pairEqB_eq x y).1 hpe;have E:=Lib.hid e;clear e;(go_wp2_with fail);go_roundw
          case rel=>exact ⟨k + 1,by omega,by go_num,(show X.take (k + 1) = Y.take (k + 1) by rw [HX.out,HY.out,heq.out,E.out]),hb'⟩
          case measure=>simp [intOf];omega
        | false =>
          have hne : X ≠ Y:=by
            intro e;subst e;have : x = y:=HX'.out.symm.trans HY'.out;rw [(pairEqB_eq x y).2 this] at hpe;cases hpe
          have hd:=Lib.hid (decide_eq_false hne);clear hne;(go_wp2_with fail);go_ret;exact ⟨ret_bool (by rw [hd.out]),hb'⟩
      · have hkn : k = n:=by omega
        have e : X = Y:=by
          have:=heq.out
          rwa [List.take_of_length_le (by rw [Hlx.out];omega),List.take_of_length_le (by rw [Hly.out];omega)] at this
        have E:=Lib.hid (decide_eq_true e);clear e hkn;(go_wp2_with fail);go_ret;exact ⟨ret_bool (by rw [E.out]),hb⟩
  · have hne : X ≠ Y:=fun e=>hnm (by rw [← hlx,← hly,e]);have hd:=Lib.hid (decide_eq_false hne);have hni : ((n : Int) != (m : Int)) = true:=by simp;omega
    clear hne hnm hlx hly;go_enter Tryz.func54,Tryz.ntmps54
    (go_wp2_with fail);go_ret;exact ⟨ret_bool (by rw [hd.out]),Below.refl _ _⟩
set_option maxRecDepth 100000 in
set_option maxHeartbeats 1000000 in
theorem rmarks (w : World) (A B : Option Addr) (n m cap cap' : Nat) (X Y : List MarkV) (hx : MarksIn w A n X) (hy : MarksIn w B m Y) (hn : n ≤ 1000000) (hm : m ≤ 1000000) :
    Calls Tryz.prog 16 #[.slice A n cap,.slice B m cap'] w fun e w'=>e = .returned (.bool (decide (X = Y))) ∧ Below w.heap.size w w':=by
  have hlx:=MarksIn.len hx;have hly:=MarksIn.len hy;have Hlx:=Lib.hid hlx;have Hly:=Lib.hid hly;by_cases hnm : n = m
  · subst hnm;clear hlx hly;go_enter Tryz.func16,Tryz.ntmps16
    (go_wp2_with fail);go_loopw [5] (fun i wr=>∃ k : Nat,k ≤ n ∧ i = .int .i64 k ∧ Hid (X.take k = Y.take k) ∧ Below w.heap.size w wr) (fun i _=>n - (intOf i).toNat)
    case atStart=>exact ⟨0,Nat.zero_le _,rfl,rfl,Below.refl _ _⟩
    case round =>
      obtain ⟨k,hk,rfl,heq,hb⟩:=hrel;by_cases hlt : k < n
      · obtain ⟨q,o,rfl,hr,_,_⟩:=MarksIn.get (SlR.below hx hb) hlt (by rw [Hlx.out];exact hlt);obtain ⟨q2,o2,rfl,hr2,_,_⟩:=MarksIn.get (SlR.below hy hb) hlt (by rw [Hly.out];exact hlt);have hX : X.take (k + 1) = X.take k ++ [X[k]'(by rw [Hlx.out];exact hlt)]:=by rw [List.take_add_one,List.getElem?_eq_getElem (by rw [Hlx.out];exact hlt)];rfl
        have hY : Y.take (k + 1) = Y.take k ++ [Y[k]'(by rw [Hly.out];exact hlt)]:=by rw [List.take_add_one,List.getElem?_eq_getElem (by rw [Hly.out];exact hlt)];rfl
        obtain ⟨x,hx'⟩ : ∃ x,X[k]'(by rw [Hlx.out];exact hlt) = x:=⟨_,rfl⟩
        obtain ⟨y,hy'⟩ : ∃ y,Y[k]'(by rw [Hly.out];exact hlt) = y:=⟨_,rfl⟩
        rw [hx'] at hr hX;rw [hy'] at hr2 hY;have HX:=Lib.hid hX;have HY:=Lib.hid hY;clear hX hY;have HX':=Lib.hid hx';have HY':=Lib.hid hy';clear hx' hy';go_upto_region 6 with fail
        refine wp_region_lex (Bel wr) false (by kernel_rfl) (by kernel_rfl) (by kernel_rfl) (bel_drew wr) ?_;have hne:=bel_some wr;have hS:=bel_drew wr;have b1:=sub_row hr;have b2:=sub_row hr2;repeat (refine wpLx_loose ?_ ?_;(focus (simp only [chainOp];done));intro K hK;go_simp;refine hK _ ?_;clear hK K)
        refine wpLx_nil ?_;intro hS;clear hne hS b1 b2 hr hr2;have hb' : Below w.heap.size w wr.drew:=hb.drew;cases hpe : markEqB x y with
        | true =>
          have e:=(markEqB_eq x y).1 hpe;have E:=Lib.hid e;clear e;(go_wp2_with fail);go_roundw
          case rel=>exact ⟨k + 1,by omega,by go_num,(show X.take (k + 1) = Y.take (k + 1) by rw [HX.out,HY.out,heq.out,E.out]),hb'⟩
          case measure=>simp [intOf];omega
        | false =>
          have hne : X ≠ Y:=by
            intro e;subst e;have : x = y:=HX'.out.symm.trans HY'.out;rw [(markEqB_eq x y).2 this] at hpe;cases hpe
          have hd:=Lib.hid (decide_eq_false hne);clear hne;(go_wp2_with fail);go_ret;exact ⟨ret_bool (by rw [hd.out]),hb'⟩
      · have hkn : k = n:=by omega
        have e : X = Y:=by
          have:=heq.out
          rwa [List.take_of_length_le (by rw [Hlx.out];omega),List.take_of_length_le (by rw [Hly.out];omega)] at this
        have E:=Lib.hid (decide_eq_true e);clear e hkn;(go_wp2_with fail);go_ret;exact ⟨ret_bool (by rw [E.out]),hb⟩
  · have hne : X ≠ Y:=fun e=>hnm (by rw [← hlx,← hly,e]);have hd:=Lib.hid (decide_eq_false hne);have hni : ((n : Int) != (m : Int)) = true:=by simp;omega
    clear hne hnm hlx hly;go_enter Tryz.func16,Tryz.ntmps16
    (go_wp2_with fail);go_ret;exact ⟨ret_bool (by rw [hd.out]),Below.refl _ _⟩
set_option maxRecDepth 100000 in
theorem dsame (w : World) (k n k' n' : Int) (A B : Option Addr) (m m' c c' : Nat) (X Y : List Pair) (hx : PairsIn w A m X) (hy : PairsIn w B m' Y) (hm : m ≤ 1000000) (hm' : m' ≤ 1000000) :
    Calls Tryz.prog 19 #[.agg (valVC ⟨k,n,.slice A m c⟩),.agg (valVC ⟨k',n',.slice B m' c'⟩)] w fun e w'=>e = .returned (.bool (decide (k = k' ∧ n = n' ∧ X = Y))) ∧ Below w.heap.size w w':=by
  have hB : Below w.heap.size w ((w.alloc (.cells (valVC ⟨k,n,.slice A m c⟩) 25)).alloc (.cells (valVC ⟨k',n',.slice B m' c'⟩) 25)):=((Below.refl _ _).alloc (Nat.le_refl _) _).alloc (by simp) _;have ce:=eq_pairs _ A B m m' c c' X Y (SlR.below hx hB) (SlR.below hy hB) hm hm';obtain ⟨b,hb⟩ : ∃ b,decide (X = Y) = b:=⟨_,rfl⟩
  rw [hb] at ce;have Hb:=Lib.hid hb;clear hb hx hy;by_cases h1 : k = k'
  · subst h1;by_cases h2 : n = n'
    · subst h2;go_enter Tryz.func19,Tryz.ntmps19
      (go_wp2_with fail);refine ce.mono ?_;rintro e w1 ⟨rfl,hb1⟩;clear ce;(go_wp2_with fail);go_ret;exact ⟨ret_bool (by rw [← Hb.out];simp),bel2 hB hb1⟩
    · have hn2 : (n == n') = false:=by simpa using h2
      have H2:=Lib.hid h2;clear h2 ce;go_enter Tryz.func19,Tryz.ntmps19
      (go_wp2_with fail);go_ret;exact ⟨ret_bool (by have:=H2.out;simp [this]),hB⟩
  · have hn1 : (k == k') = false:=by simpa using h1
    have H1:=Lib.hid h1;clear h1 ce;go_enter Tryz.func19,Tryz.ntmps19
    (go_wp2_with fail);go_ret;exact ⟨ret_bool (by have:=H1.out;simp [this]),hB⟩
end
section
open Go.RowKit Stb
def id2v : Id32:=⟨2 :: List.replicate 31 0,by simp⟩
@[go_sem ↓] theorem buildId2v_run (w : World) : (Instr.build 39 #[(0,.int .u8 2)]).run Tryz.prog w = .ok (.agg (idC id2v)) w:=by kernel_rfl
@[go_sem] theorem id2v_set : (idC id0).setIfInBounds 0 (.int .u8 2) = idC id2v:=by simp [idC,id0,id2v,byteC,List.replicate]
@[go_sem] theorem buildMark1 (s : ByteArray) (w : World) : (bdS 41 #[(0,.agg (idC id1v)),(2,.string s)]).run Tryz.prog w = .ok (.agg (markVC ⟨id1v,0,s⟩)) w:=by kernel_rfl
@[go_sem] theorem buildMark2 (s : ByteArray) (w : World) : (bdS 41 #[(0,.agg (idC id2v)),(2,.string s)]).run Tryz.prog w = .ok (.agg (markVC ⟨id2v,0,s⟩)) w:=by kernel_rfl
@[go_sem] theorem bsMark2_run (a b : ByteArray) (w : World) : (bsS 22 2 #[(0,.agg (markVC ⟨id1v,0,a⟩)),(1,.agg (markVC ⟨id2v,0,b⟩))]).run Tryz.prog w = .ok (.slice (some ⟨w.heap.size,0,none⟩) 2 2) (w.alloc (.cells (markVC ⟨id1v,0,a⟩ ++ markVC ⟨id2v,0,b⟩) 41)):=by kernel_rfl
theorem aw27_num : (denS caS [⟨id1v,0,mkB (incL 2)⟩,⟨id2v,0,mkB (incL 3)⟩]).num = 5:=by decide +kernel
theorem aw27_pairs (R : List MarkV) : (denS caS R).pairs = []:=by
  have h:=denS_kind caS R (by rw [ca_kind];decide);rw [ca_kind] at h;cases hd : denS caS R <;> rw [hd] at h <;> first | rfl | (simp [VSt.kind] at h)
set_option maxRecDepth 100000 in
set_option maxHeartbeats 1000000 in
theorem awake27 (w : World) (hp : PartsVar w) : Calls Tryz.prog 12 #[] w fun e w'=>e = .returned (.bool true) ∧ Below w.heap.size w w':=by
  have hca : (⟨#[99,97]⟩ : ByteArray) = caS:=rfl;have cp:=rop_put_inc 2 w (by omega);change Calls Tryz.prog _ #[.agg (opPC ⟨1,2,⟨#[]⟩,⟨#[]⟩,id0,.slice none 0 0⟩)] _ _ at cp;go_enter Tryz.func12,Tryz.ntmps12
  (go_wp2_with fail);refine cp.mono ?_;rintro e w1 ⟨s1,rfl,hs1,hb1⟩;have cq:=rop_put_inc 3 w1 (by omega);change Calls Tryz.prog _ #[.agg (opPC ⟨1,3,⟨#[]⟩,⟨#[]⟩,id0,.slice none 0 0⟩)] _ _ at cq;clear cp;(go_wp2_with fail);refine cq.mono ?_;rintro e w2 ⟨s2,rfl,hs2,hb2⟩;have hb02:=bel2 hb1 hb2;have hp2:=(hp.below hb1).below hb2;have e1 : s1 = mkB (incL 2):=by apply ByteArray.ext;rw [← Array.toList_inj,hs1];rfl
  have e2 : s2 = mkB (incL 3):=by apply ByteArray.ext;rw [← Array.toList_inj,hs2];rfl
  have hz1 : s1.size ≤ 600:=by rw [e1];decide
  have hz2 : s2.size ≤ 600:=by rw [e2];decide
  have hnum : (denS caS [⟨id1v,0,s1⟩,⟨id2v,0,s2⟩]).num = 5:=by rw [e1,e2];exact aw27_num
  clear cq hb1 hb2 e1 e2 hs1 hs2;have hbx : Below w2.heap.size w2 (w2.alloc (.cells (markVC ⟨id1v,0,s1⟩ ++ markVC ⟨id2v,0,s2⟩) 41)):=(Below.refl _ _).alloc (Nat.le_refl _) _;have hm : MarksIn (w2.alloc (.cells (markVC ⟨id1v,0,s1⟩ ++ markVC ⟨id2v,0,s2⟩) 41)) (some ⟨w2.heap.size,0,none⟩) 2 [⟨id1v,0,s1⟩,⟨id2v,0,s2⟩]:=by
    refine ⟨rfl,fun _=>⟨w2.heap.size,0,rfl,fun i hi=>?_⟩⟩;have h1 : (markVC ⟨id1v,0,s1⟩ ++ markVC ⟨id2v,0,s2⟩).extract 0 34 = markVC ⟨id1v,0,s1⟩:=by
      have:=arr_mid #[] (markVC ⟨id1v,0,s1⟩) (markVC ⟨id2v,0,s2⟩) 0 34 rfl (by simp)
      rwa [Array.empty_append] at this
    have h2 : (markVC ⟨id1v,0,s1⟩ ++ markVC ⟨id2v,0,s2⟩).extract 34 68 = markVC ⟨id2v,0,s2⟩:=by
      have:=arr_mid (markVC ⟨id1v,0,s1⟩) (markVC ⟨id2v,0,s2⟩) #[] 34 68 (by simp) (by simp)
      rwa [Array.append_empty] at this
    have hi2 : i = 0 ∨ i = 1:=by simp at hi;omega
    have hh:=heap_alloc_new w2 (.cells (markVC ⟨id1v,0,s1⟩ ++ markVC ⟨id2v,0,s2⟩) 41 (0,0));rcases hi2 with rfl | rfl
    · unfold rowAt;rw [hh];simp [h1]
    · unfold rowAt;rw [hh];simp [h2]
  have cv:=dvalue caS (some ⟨w2.heap.size,0,none⟩) 2 2 _ _ hm (by omega) (Nat.le_trans (onceM_len _) (by simp)) (fun m hmm=>by simp at hmm;rcases hmm with rfl | rfl <;> assumption) (hp2.below hbx) (by decide) (by rw [ca_kind];decide);rw [hnum,aw27_pairs,ca_kind] at cv;(go_wp2_with fail);refine cv.mono ?_;rintro e w3 ⟨A,m,c,rfl,hpr,hb3⟩;have hb03:=bel2 (hb02.trans (hbx.mono hb02.size)) hb3;clear cv hm hbx hp2 hnum;have hb4 : Below w3.heap.size w3 (w3.alloc (.cells (valVC ⟨1,5,.slice A m c⟩) 25)):=(Below.refl _ _).alloc (Nat.le_refl _) _;have cs:=dsame (w3.alloc (.cells (valVC ⟨1,5,.slice A m c⟩) 25)) 1 5 1 5 A none m 0 c 0 [] [] (SlR.below hpr.1 hb4) SlR.nil_ hpr.2 (by omega);rw [decide_eq_true ⟨rfl,rfl,rfl⟩] at cs;(go_wp2_with fail);refine cs.mono ?_;rintro e w4 ⟨rfl,hb5⟩;have hbF:=bel2 (hb03.trans (hb4.mono hb03.size)) hb5;clear cs;(go_wp2_with fail);go_ret;exact ⟨rfl,hbF⟩
set_option maxRecDepth 100000 in
theorem dmuch (w : World) (A : Option Addr) (n cap : Nat) (R : List MarkV) (h : MarksOk w A n R) :
    Calls Tryz.prog 11 #[.slice A n cap] w fun e w'=>∃ b,e = .returned (.bool b) ∧ (b = false → FewMarks R) ∧ Below w.heap.size w w':=by
  have hlen:=h.rows.len;have hn:=h.big;have hrows:=h.rows;have hs:=h.each;have Hlen:=Lib.hid hlen;go_enter Tryz.func11,Tryz.ntmps11
  (go_wp2_with fail);go_loopw [3] (fun i wr=>∃ k : Nat,k ≤ n ∧ k ≤ 30 ∧ i = .int .i64 k ∧ Hid (∀ j (hj : j < R.length),j < k → (R[j]).body.size ≤ 600) ∧ Below w.heap.size w wr) (fun i _=>n - (intOf i).toNat)
  case atStart=>exact ⟨0,Nat.zero_le _,by omega,rfl,(show ∀ j (hj : j < R.length),j < 0 → _ from fun j _ h=>absurd h (by omega)),Below.refl _ _⟩
  case round =>
    obtain ⟨k,hk,hk40,rfl,hd,hb⟩:=hrel;by_cases hlt : k < n ∧ k < 30
    · obtain ⟨hlt,hlt40⟩:=hlt;obtain ⟨g,o,rfl,_,_,hval⟩:=MarksIn.get (SlR.below hrows hb) hlt (by omega);have hsk:=hs R[k] (List.getElem_mem (by omega));obtain ⟨x,hx⟩ : ∃ x,R[k]'(by omega) = x:=⟨_,rfl⟩
      have Hx:=Lib.hid hx;rw [hx] at hval hsk;clear hx;by_cases h1 : 600 < x.body.size
      · (go_wp2_with fail);go_ret;exact ⟨true,rfl,nofun,hb⟩
      · have hd2 : ∀ j (hj : j < R.length),j < k + 1 → (R[j]).body.size ≤ 600:=fun j hj hjk=>by
          rcases Nat.lt_or_ge j k with h3 | h3
          · exact hd.out j hj h3
          · obtain rfl : j = k:=by omega
            have:=Hx.out;rw [this];omega
        have Hd2:=Lib.hid hd2;clear hd2 hd;(go_wp2_with fail);go_roundw
        case rel=>exact ⟨k + 1,by omega,by omega,by go_num,Hd2,hb⟩
        case measure=>simp [intOf];omega
    · have hstop : n ≤ k ∨ 30 ≤ k:=by omega
      by_cases hm : 30 < n
      · (go_wp2_with fail);go_ret;exact ⟨true,ret_bool (decide_eq_true (by omega)),nofun,hb⟩
      · have hfew : FewMarks R:=⟨by omega,fun a ha=>by
          obtain ⟨j,hj,rfl⟩:=List.getElem_of_mem ha;exact hd.out j hj (by omega)⟩
        have Hf:=Lib.hid hfew;clear hfew hd;(go_wp2_with fail);go_ret;exact ⟨false,ret_bool (decide_eq_false (by omega)),fun _=>Hf.out,hb⟩
end
section
open Go.RowKit Stb
theorem once_mem {R : List MarkV} (h : ∀ x ∈ R,∀ y ∈ R,x.id = y.id → x = y) (z : MarkV) : z ∈ onceM R ↔ z ∈ R:=by
  refine ⟨onceM_sub R z,fun hz=>?_⟩;obtain ⟨a,ha,e⟩:=List.mem_map.1 ((onceM_ids R z.id).2 (List.mem_map.2 ⟨z,hz,rfl⟩));rw [← h a (onceM_sub R a ha) z hz e];exact ha
theorem srt_same {R M : List MarkV} (h : ∀ x ∈ R,∀ y ∈ R,x.id = y.id → x = y) (hm : ∀ z,z ∈ M ↔ z ∈ R) : srtM M = srtM R:=by
  have h' : ∀ x ∈ M,∀ y ∈ M,x.id = y.id → x = y:=fun x hx y hy=>h x ((hm x).1 hx) y ((hm y).1 hy);refine sortC_congr totMk fun z=>?_;rw [once_mem h',once_mem h,hm]
theorem mem_swap {M : List MarkV} {a b : Nat} (ha : a < M.length) (hb : b < M.length) (z : MarkV) : z ∈ (M.set a M[b]).set b M[a] ↔ z ∈ M:=by
  constructor
  · intro h;rcases List.mem_or_eq_of_mem_set h with h | rfl
    · rcases List.mem_or_eq_of_mem_set h with h | rfl
      · exact h
      · exact List.getElem_mem _
    · exact List.getElem_mem _
  · intro h;obtain ⟨i,hi,rfl⟩:=List.getElem_of_mem h;by_cases hib : i = a
    · subst hib;exact List.mem_iff_getElem.2 ⟨b,by simpa using hb,by simp⟩
    · by_cases hi2 : i = b
      · subst hi2;exact List.mem_iff_getElem.2 ⟨a,by simpa using ha,by rw [List.getElem_set_ne (fun e=>hib e),List.getElem_set_self]⟩
      · exact List.mem_iff_getElem.2 ⟨i,by simpa using hi,by rw [List.getElem_set_ne (fun e=>hi2 e.symm),List.getElem_set_ne (fun e=>hib e.symm)]⟩
def byteI (b : Int) : Array Value:=#[.int .u8 b]
set_option maxRecDepth 100000 in
set_option maxHeartbeats 8000000 in
theorem denoteOrder_any (t : ByteArray) (A : Option Addr) (n cap : Nat) (R : List MarkV) (A2 : Option Addr) (n2 cap2 : Nat) (B : List Int) (w : World) (hp : PartsVar w) (ht : t.size ≤ 9223372036854775807) (h : MarksOk w A n R) (hA : A = none → cap = 0) (hB : SlR w A2 n2 1 (B.map byteI)) (hBb : ∀ b ∈ B,0 ≤ b ∧ b ≤ 255) (hn2 : n2 ≤ 9223372036854775807) :
    Calls Tryz.prog 4 #[.string t,.slice A n cap,.slice A2 n2 cap2] w fun e w'=>e = .returned (.bool true) ∧ Below w.heap.size w w':=by
  have hlen:=h.rows.len;have hBl : B.length = n2:=by simpa using hB.1
  have c1:=dmuch w A n cap R h;have hrows0:=h.rows;have Hlen:=Lib.hid hlen;have HBl:=Lib.hid hBl;clear h hlen hBl;go_enter Tryz.func4,Tryz.ntmps4
  (go_wp2_with fail);refine c1.mono ?_;rintro e w1 ⟨bm,rfl,hfew,hbw⟩;have hp1:=hp.below hbw;have hrows:=SlR.below hrows0 hbw;clear c1;cases bm with
  | true =>
    have cw:=awake27 w1 hp1;(go_wp2_with fail);refine cw.mono ?_;rintro e w9 ⟨rfl,hb9⟩;have hbF:=bel2 hbw hb9;clear cw;(go_wp2_with fail);go_ret;exact ⟨rfl,hbF⟩
  | false =>
  have hf:=hfew rfl;have hn30 : n ≤ 30:=by have:=hf.1;have:=Hlen.out;omega
  have Hf:=Lib.hid hf;clear hfew hf hrows0;(go_wp2_with fail);go_loopw [7,8] (fun iv _ wr=>∃ i : Nat,i ≤ n ∧ iv = .int .i64 i ∧ Hid (OncePre R i 0) ∧ Below w1.heap.size w1 wr) (fun iv _ _=>n - (intOf iv).toNat)
  case atStart=>exact ⟨0,Nat.zero_le _,rfl,(show OncePre R 0 0 from fun a b _ _ h1 h2=>by omega),Below.refl _ _⟩
  case round =>
    obtain ⟨i,hi,rfl,hO,hb⟩:=hrel;by_cases hlt : i < n
    · obtain ⟨q,o,rfl,hrow,hid,_⟩:=MarksIn.get (SlR.below hrows hb) hlt (by rw [Hlen.out];exact hlt);have hiR : i < R.length:=by rw [Hlen.out];exact hlt
      obtain ⟨x,hx⟩ : ∃ x,R[i]'hiR = x:=⟨_,rfl⟩
      have hx' : R[i]'(by rw [Hlen.out];exact hlt) = x:=hx;rw [hx'] at hrow hid;have Hx:=Lib.hid hx;have HiR:=Lib.hid hiR;obtain ⟨wo,rfl⟩ : ∃ wo,wo = wr:=⟨wr,rfl⟩
      clear hx hx';(go_wp2_with fail);go_loopw [8] (fun kv wr=>∃ k : Nat,k ≤ i ∧ kv = .int .i64 k ∧ Hid (OncePre R i k) ∧ Below wo.heap.size wo wr) (fun kv _=>i - (intOf kv).toNat)
      case atStart=>exact ⟨0,Nat.zero_le _,rfl,hO,Below.refl _ _⟩
      case round =>
        obtain ⟨k,hk,rfl,hOk,hbk⟩:=hrel;by_cases hlt2 : k < i
        · obtain ⟨q',o',e',hrow2,hid2,_⟩:=MarksIn.get (SlR.below (SlR.below hrows hb) hbk) (i:=k) (by omega) (by rw [Hlen.out];omega);injection e' with e';injection e' with e1' e2'
          subst e1';subst e2';have hkR : k < R.length:=by rw [Hlen.out];omega
          have hkn : k < n:=by omega
          obtain ⟨y,hy⟩ : ∃ y,R[k]'hkR = y:=⟨_,rfl⟩
          have hy' : R[k]'(by rw [Hlen.out];omega) = y:=hy;rw [hy'] at hrow2 hid2;have Hy:=Lib.hid hy;have hrow1:=(rowAt_of_block (hbk.block q (rowAt_lt hrow)) _ _).trans hrow;have hid1:=(rowAt_of_block (hbk.block q (rowAt_lt hid)) _ _).trans hid;have Hnx : Hid ((x.id = y.id → x = y) → OncePre R i (k + 1)):=fun hh=>oncePre_next hOk.out HiR.out hlt2 (by rw [Hx.out,Hy.out];exact hh);clear hy hy' hOk;obtain ⟨eb,heb⟩ : ∃ eb,(x.id == y.id) = eb:=⟨_,rfl⟩
          obtain ⟨mb,hmb⟩ : ∃ mb,markEqB x y = mb:=⟨_,rfl⟩
          have Hmb:=Lib.hid hmb;have Heb:=Lib.hid heb;clear hmb;go_upto_region 9 with fail
          go_cut [53] (fun v wx=>v = .bool (eb && !mb) ∧ Below wr.heap.size wr wx)
          case first =>
            have hmb:=Hmb.out;cases eb with
            | false =>
              refine wp_region_lex (Bel wr) false (by kernel_rfl) (by kernel_rfl) (by kernel_rfl) (bel_drew wr) ?_;have hne:=bel_some wr;have hS:=bel_drew wr;have b1:=sub_row hid1;have b2:=sub_row hid2;repeat (refine wpLx_loose ?_ ?_;(focus (simp only [chainOp];done));intro K hK;go_simp;refine hK _ ?_;clear hK K)
              refine wpLx_nil ?_;intro hS;go_wp2_with fail
              go_meet
              exact ⟨rfl,hS⟩
            | true =>
              refine wp_region_lex (Bel wr) false (by kernel_rfl) (by kernel_rfl) (by kernel_rfl) (bel_drew wr) ?_;have hne:=bel_some wr;have hS:=bel_drew wr;have b1:=sub_row hid1;have b2:=sub_row hid2;have b3:=sub_row hrow1;have b4:=sub_row hrow2;repeat (refine wpLx_loose ?_ ?_;(focus (simp only [chainOp];done));intro K hK;go_simp;refine hK _ ?_;clear hK K)
              refine wpLx_nil ?_;intro hS;go_wp2_with fail
              go_meet
              exact ⟨by simp,hS⟩
          case rest =>
          obtain ⟨rfl,hbz⟩:=hcut;obtain ⟨wz,rfl⟩ : ∃ wz,wz = wc:=⟨wc,rfl⟩
          have hbf : Below wo.heap.size wo wz:=bel2 hbk hbz;clear heb hrow1 hid1 hrow2 hid2 hbz hbk;obtain ⟨tb,htb⟩ : ∃ tb,(eb && !mb) = tb:=⟨_,rfl⟩
          have Htb:=Lib.hid htb;rw [htb];clear htb;cases tb with
          | true =>
            have hbq:=bel2 hb hbf;have cw:=awake27 wz (hp1.below hbq);(go_wp2_with fail);refine cw.mono ?_;rintro e w9 ⟨rfl,hb9⟩;have hbF:=bel2 hbq hb9;clear cw;(go_wp2_with fail);go_ret;exact ⟨rfl,bel2 hbw hbF⟩
          | false =>
            have hnx:=Hnx.out (fun e=>by
              have h1:=Htb.out;rw [← Heb.out,← Hmb.out,show (x.id == y.id) = true by rw [e];exact beq_self_eq_true _] at h1;exact (markEqB_eq x y).1 (by simpa using h1))
            have HN:=Lib.hid hnx;clear hnx;(go_wp2_with fail);go_roundw
            case rel=>exact ⟨k + 1,by omega,by go_num,HN,hbf⟩
            case measure=>simp [intOf];omega
        · obtain rfl : k = i:=by omega
          have hn2:=oncePre_row hOk.out;have HN:=Lib.hid hn2;have hbf:=bel2 hb hbk;clear hn2 hOk;(go_wp2_with fail);go_roundw
          case rel=>exact ⟨k + 1,by omega,by go_num,HN,hbf⟩
          case measure=>simp [intOf];omega
    · have hin : i = n:=by omega
      have hall : ∀ x ∈ R,∀ y ∈ R,x.id = y.id → x = y:=fun x hx y hy e=>by
        obtain ⟨a,ha,rfl⟩:=List.getElem_of_mem hx;obtain ⟨c,hc,rfl⟩:=List.getElem_of_mem hy;have hl:=Hlen.out;rcases Nat.lt_trichotomy a c with h1 | h1 | h1
        · exact (hO.out c a hc ha h1 (.inl (by omega)) e.symm).symm
        · subst h1;rfl
        · exact hO.out a c ha hc h1 (.inl (by omega)) e
      have Hall:=Lib.hid hall;have hbq:=bel2 hbw hb;have hBq:=SlR.below hB hbq;have hrq:=SlR.below hrows hb;have hpq:=hp.below hbq;clear hall hin hO;obtain ⟨V,hV⟩ : ∃ V,V = wr:=⟨wr,rfl⟩
      rw [← hV] at hbq hBq hrq hpq ⊢;clear hV hb;have hbE : Below V.heap.size V (V.alloc (.cells #[] 41)):=(Below.refl _ _).alloc (Nat.le_refl _) _;have hown0:=Own.empty V V.heap.size 41 34 (Nat.le_refl _);have hrE : SlR (V.alloc (.cells #[] 41)) A n 34 (R.map markVC):=SlR.below hrq hbE;have hone : ∀ r ∈ R.map markVC,∀ u ∈ r.toList,u.oneCell' = true:=fun r hr=>(by obtain ⟨y,_,rfl⟩:=List.mem_map.1 hr;exact markVC_one _);have hbs0:=fun w=>run_bsS0 einfoMark w;go_upto_region 12 with (at_builtin;refine L_appends einfoMark rfl hown0 rfl hrE hA hone (by omega) (by omega) (by simp) ?_;intro Am capm w2 hown2 hk2 hsub2)
      simp only [Nat.zero_add,List.nil_append] at hown2 ⊢;have hb2 : Below V.heap.size V w2:=hbE.trans (hk2.below (by simp) (by simp [blk]));clear hbE hown0 hrE hone hbs0 hk2 hsub2;(go_wp2_with fail);go_loopw [9,10] (fun mv iv wq=>∃ (i nm : Nat) (Am : Option Addr) (capm : Nat) (M : List MarkV),i ≤ 20 ∧ iv = .int .i64 i ∧ mv = .slice Am nm capm ∧ Own wq V.heap.size 41 34 Am nm capm (M.map markVC) ∧ nm ≤ 30 + i ∧ Hid (∀ z,z ∈ M ↔ z ∈ R) ∧ Below V.heap.size V wq) (fun _ iv _=>20 - (intOf iv).toNat)
      case atStart=>exact ⟨0,n,Am,capm,R,by omega,rfl,rfl,hown2,by omega,(show ∀ z : MarkV,z ∈ R ↔ z ∈ R from fun _=>Iff.rfl),hb2⟩
      case round =>
        clear hown2 hb2;obtain ⟨i,nm,Am,capm,M,hi20,rfl,rfl,hown,hnm,hM,hb⟩:=hrel;have hMl : M.length = nm:=by simpa using hown.len
        by_cases hgo : (i < n2 ∧ i < 20) ∧ 0 < nm
        · obtain ⟨⟨hi2,hi3⟩,hnp⟩:=hgo;obtain ⟨q2,o2,rfl,hr2⟩:=SlR.at_ (SlR.below hBq hb) hi2;rw [List.getElem_map] at hr2;have hbx:=hBb _ (List.getElem_mem (l:=B) (n:=i) (by rw [HBl.out];exact hi2));obtain ⟨bx,hbxe⟩ : ∃ bx,B[i]'(by rw [HBl.out];exact hi2) = bx:=⟨_,rfl⟩
          rw [hbxe] at hr2 hbx;clear hbxe;have hcell : wr.cell? ⟨q2,o2 + i,none⟩ = some (.int .u8 bx):=by have:=rowAt_cell hr2 (j:=0) (by omega);simpa [byteI] using this
          obtain ⟨a,hae,hal⟩ : ∃ a : Nat,bx % (nm : Int) = (a : Int) ∧ a < nm:=⟨(bx % (nm : Int)).toNat,by have:=Int.emod_nonneg bx (show (nm : Int) ≠ 0 by omega);omega,by have:=Int.emod_lt_of_pos bx (show (0 : Int) < nm by omega);have:=Int.emod_nonneg bx (show (nm : Int) ≠ 0 by omega);omega⟩
          obtain ⟨b,hbe,hbl⟩ : ∃ b : Nat,(i : Int) % (nm : Int) = (b : Int) ∧ b < nm:=⟨i % nm,by simp,Nat.mod_lt _ hnp⟩
          rcases hown.addr with rfl | ⟨g,rfl⟩
          · have:=(hown.cap_le.2 rfl).1;omega
          have haM : a < M.length:=by omega
          have hbM : b < M.length:=by omega
          obtain ⟨qa,oa,ea,hra,_,_⟩:=MarksIn.get hown.slr (i:=a) hal haM;injection ea with ea;injection ea with ea1 ea2
          subst ea1;subst ea2;rw [Nat.zero_add] at hra;obtain ⟨x,hx⟩ : ∃ x,M[a]'haM = x:=⟨_,rfl⟩
          obtain ⟨y,hy⟩ : ∃ y,M[b]'hbM = y:=⟨_,rfl⟩
          rw [hx] at hra;have Hx:=Lib.hid hx;have Hy:=Lib.hid hy;have hba : Below wr.heap.size wr (wr.alloc (.cells (markVC x) 41)):=(Below.refl _ _).alloc (Nat.le_refl _) _;have hrx : rowAt (wr.alloc (.cells (markVC x) 41)) wr.heap.size 0 34 = some (markVC x):=by simp [go_sem]
          have ho1:=hown.below hba;have hb1 : Below V.heap.size V (wr.alloc (.cells (markVC x) 41)):=hb.trans (hba.mono hb.size);have hgV : V.heap.size ≤ g ∧ g < wr.heap.size:=hown.at_base (x:=g) (by simp [blk]);have HMl:=Lib.hid hMl;clear hx hy hba hown hb hMl;go_upto_region 17 with fail
          go_upto_region 18 with fail
          obtain ⟨gx,hgx⟩ : ∃ gx,wr.heap.size = gx:=⟨_,rfl⟩
          have hgz : gx < (wr.alloc (.cells (markVC x) 41)).heap.size:=by simp [hgx]
          obtain ⟨W0,hW0⟩ : ∃ W0,W0 = wr.alloc (.cells (markVC x) 41):=⟨_,rfl⟩
          rw [← hW0] at hrx ho1 hb1 hgz ⊢;rw [hgx] at hrx hgV ⊢;clear hW0 hgx hra hcell hr2;obtain ⟨qb,ob,eb,hrb,_,_⟩:=MarksIn.get ho1.slr (i:=b) hbl hbM;injection eb with eb;injection eb with eb1 eb2
          subst eb1;subst eb2;rw [Nat.zero_add,Hy.out] at hrb;obtain ⟨w3,hst1,ho3,hk3⟩:=own_store einfoMark ho1 (i:=a) hal (cs:=markVC y) (markVC_size _) (markVC_one _);obtain ⟨w4,hst2,ho4,hk4⟩:=own_store einfoMark ho3 (i:=b) hbl (cs:=markVC x) (markVC_size _) (markVC_one _);have hrx3 : rowAt w3 gx 0 34 = some (markVC x):=(hk3.row hgz (by simp;omega) _ _).trans hrx;rw [hae,hbe];go_upto_region 19 with fail
          go_upto_region 20 with fail
          have hrx4 : rowAt w4 gx 0 34 = some (markVC x):=(hk4.row (by have:=hk3.size;omega) (by simp;omega) _ _).trans hrx3;have hM4 : ((M.map markVC).set a (markVC y)).set b (markVC x) = ((M.set a y).set b x).map markVC:=by rw [List.map_set,List.map_set]
          rw [hM4] at ho4;have hmem : Hid (∀ z,z ∈ (M.set a y).set b x ++ [x] ↔ z ∈ R):=(show ∀ z,z ∈ (M.set a y).set b x ++ [x] ↔ z ∈ R from fun z=>by
            rw [List.mem_append,List.mem_singleton,← Hx.out,← Hy.out,mem_swap haM hbM,hM.out];exact ⟨fun h=>h.elim id fun h=>by rw [h];exact (hM.out _).1 (List.getElem_mem _),.inl⟩)
          have hb4 : Below V.heap.size V w4:=(hb1.trans (hk3.below hb1.size (by simp;omega))).trans (hk4.below (by have:=hk3.size;have:=hb1.size;omega) (by simp;omega));have hbx4 : Below w4.heap.size w4 (w4.alloc (.cells (markVC x) 41)):=(Below.refl _ _).alloc (Nat.le_refl _) _;have ho5:=ho4.below hbx4;have hr5 : rowAt (w4.alloc (.cells (markVC x) 41)) w4.heap.size 0 34 = some (markVC x):=by simp [go_sem]
          have hz4:=hb4.size;clear hst1 hst2 ho3 ho4 hk3 hk4 hrx hrx3 hb1 ho1 hrb hM4;go_upto_region 14 with (at_builtin;refine L_append einfoMark rfl ho5 rfl hr5 (markVC_one _) (by omega) (by omega) (by simp;omega) ?_;intro A6 cap6 w6 hown6 hk6 hsub6)
          have hb6 : Below V.heap.size V w6:=(hb4.trans (hbx4.mono hz4)).trans (hk6.below (by simp;omega) (by simp [blk];omega));have ho6 : Own w6 V.heap.size 41 34 A6 (nm + 1) cap6 (((M.set a y).set b x ++ [x]).map markVC):=by simpa using hown6
          clear hown6 hk6 hsub6 ho5 hr5 hbx4 hb4;(go_wp2_with fail);go_roundw
          case rel=>exact ⟨i + 1,nm + 1,A6,cap6,(M.set a y).set b x ++ [x],by omega,by go_num,rfl,ho6,by omega,hmem,hb6⟩
          case measure=>simp [intOf];omega
        · have hstop : ¬ (i < n2) ∨ (i < n2 ∧ ¬ i < 20) ∨ (i < n2 ∧ i < 20 ∧ ¬ 0 < nm):=by omega
          have Hstop:=Lib.hid hstop;have hownQ:=hown.slr;have hbqr : Below w.heap.size w wr:=bel2 hbq hb;have hrqr:=SlR.below hrq hb;have hpqr:=hp.below hbqr;clear hgo hstop hown;go_upto_region 13 with fail
          go_cut [70] (fun v wx=>v = .bool false ∧ wx = wr)
          case first =>
            rcases Hstop.out with h1 | ⟨h1,h2⟩ | ⟨h1,h2,h3⟩
            all_goals
              go_wp2_with fail
              go_meet
              exact ⟨rfl,rfl⟩
          case rest =>
          obtain ⟨rfl,rfl⟩:=hcut;have hsrt : srtM M = srtM R:=srt_same Hall.out hM.out;have hfs : ∀ z ∈ M,z.body.size ≤ 600:=fun z hz=>Hf.out.2 z ((hM.out z).1 hz);have hoR : (onceM R).length ≤ 30:=Nat.le_trans (onceM_len R) (by rw [Hlen.out];omega);have hoM : (onceM M).length ≤ 30:=by rw [← srtM_len,hsrt,srtM_len];exact hoR
          have hvN : valN t M = valN t R:=by unfold valN denS fitM;rw [hsrt]
          have hvP : valP t M = valP t R:=by unfold valP denS fitM;rw [hsrt]
          have cv1:=dvalue_all t A n cap R wc hrqr (by omega) hoR Hf.out.2 hpqr ht;have Hsrt:=Lib.hid hsrt;clear hsrt;have hrC:=hrqr;have hmn : nm ≤ 1000:=by omega
          have hn1k : n ≤ 1000:=by omega
          clear hrqr hpqr Hstop hbq hb hBq hrq hpq hMl hM Hall hnm hi20 hB hBb hn2 HBl;(go_wp2_with fail);refine cv1.mono ?_;rintro e wv ⟨A1,n1,k1,rfl,hP1,hbv⟩;clear cv1;go_upto_region 22 with fail
          obtain ⟨g1,hg1⟩ : ∃ g1,wv.heap.size = g1:=⟨_,rfl⟩
          have hba : Below wv.heap.size wv (wv.alloc (.cells (valVC ⟨valK t,valN t R,.slice A1 n1 k1⟩) 25)):=(Below.refl _ _).alloc (Nat.le_refl _) _;have hv1 : rowAt (wv.alloc (.cells (valVC ⟨valK t,valN t R,.slice A1 n1 k1⟩) 25)) wv.heap.size 0 3 = some (valVC ⟨valK t,valN t R,.slice A1 n1 k1⟩):=by simp [go_sem]
          have hz1 : wv.heap.size < (wv.alloc (.cells (valVC ⟨valK t,valN t R,.slice A1 n1 k1⟩) 25)).heap.size:=by simp
          have hb1 : Below w.heap.size w (wv.alloc (.cells (valVC ⟨valK t,valN t R,.slice A1 n1 k1⟩) 25)):=bel2 (bel2 hbqr hbv) hba;have hP1' : PairsIn (wv.alloc (.cells (valVC ⟨valK t,valN t R,.slice A1 n1 k1⟩) 25)) A1 n1 (valP t R):=SlR.below hP1.1 hba;have hq1 : SlR (wv.alloc (.cells (valVC ⟨valK t,valN t R,.slice A1 n1 k1⟩) 25)) Am nm 34 (M.map markVC):=SlR.below (SlR.below hownQ hbv) hba;have hr1 : SlR (wv.alloc (.cells (valVC ⟨valK t,valN t R,.slice A1 n1 k1⟩) 25)) A n 34 (R.map markVC):=SlR.below (SlR.below hrC hbv) hba;obtain ⟨W1,hW1⟩ : ∃ W1,W1 = wv.alloc (.cells (valVC ⟨valK t,valN t R,.slice A1 n1 k1⟩) 25):=⟨_,rfl⟩
          rw [← hW1] at hv1 hz1 hb1 hP1' hq1 hr1 ⊢;rw [hg1] at hv1 hz1 ⊢;have hn1:=hP1.2;clear hW1 hg1 hba hP1 hbv hbqr hownQ hrC;have cv2:=dvalue_all t Am nm capm M W1 hq1 hmn hoM hfs (hp.below hb1) ht;rw [hvN,hvP] at cv2;(go_wp2_with fail);refine cv2.mono ?_;rintro e wv ⟨A3,n3,k3,rfl,hP3,hbv⟩;clear cv2 hvN hvP;go_upto_region 23 with fail
          obtain ⟨g2,hg2⟩ : ∃ g2,wv.heap.size = g2:=⟨_,rfl⟩
          have hba : Below wv.heap.size wv (wv.alloc (.cells (valVC ⟨valK t,valN t R,.slice A3 n3 k3⟩) 25)):=(Below.refl _ _).alloc (Nat.le_refl _) _;have hv2 : rowAt (wv.alloc (.cells (valVC ⟨valK t,valN t R,.slice A3 n3 k3⟩) 25)) wv.heap.size 0 3 = some (valVC ⟨valK t,valN t R,.slice A3 n3 k3⟩):=by simp [go_sem]
          have hB2 : Below W1.heap.size W1 (wv.alloc (.cells (valVC ⟨valK t,valN t R,.slice A3 n3 k3⟩) 25)):=bel2 hbv hba;have hP3' : PairsIn (wv.alloc (.cells (valVC ⟨valK t,valN t R,.slice A3 n3 k3⟩) 25)) A3 n3 (valP t R):=SlR.below hP3.1 hba;obtain ⟨W2,hW2⟩ : ∃ W2,W2 = wv.alloc (.cells (valVC ⟨valK t,valN t R,.slice A3 n3 k3⟩) 25):=⟨_,rfl⟩
          rw [← hW2] at hv2 hB2 hP3' ⊢;rw [hg2] at hv2 ⊢;have hn3:=hP3.2;have hv12:=(rowAt_of_block (hB2.block g1 hz1) _ _).trans hv1;have hP12 : PairsIn W2 A1 n1 (valP t R):=SlR.below hP1' hB2;have hq2 : SlR W2 Am nm 34 (M.map markVC):=SlR.below hq1 hB2;have hr2 : SlR W2 A n 34 (R.map markVC):=SlR.below hr1 hB2;have hb2:=bel2 hb1 hB2;clear hW2 hg2 hba hP3 hbv hq1 hr1 hP1' hv1 hz1 hB2 hb1;have cs:=same_t W2 (valK t) (valN t R) A1 A3 n1 n3 k1 k3 (valP t R) ⟨hP12,hn1⟩ ⟨hP3',hn3⟩;(go_wp2_with fail);refine cs.mono ?_;rintro e w3 ⟨rfl,hb3⟩;clear cs hv12 hv2 hP12 hP3';have hr3:=SlR.below hr2 hb3;have hq3:=SlR.below hq2 hb3;have hbF:=bel2 hb2 hb3;clear hr2 hq2 hb2 hb3;have c4:=sorted_any A n cap R w3 hr3 hn1k hoR;(go_wp2_with fail);refine c4.mono ?_;rintro e w4 ⟨A4,k4,rfl,ho4,hb4⟩;clear c4;have hq4:=SlR.below hq3 hb4;have hs4:=ho4.slr;have hbF4:=bel2 hbF hb4;clear hq3 hr3 hbF hb4 ho4;have c5:=sorted_any Am nm capm M w4 hq4 hmn hoM;rw [Hsrt.out] at c5;(go_wp2_with fail);refine c5.mono ?_;rintro e w5 ⟨A5,k5,rfl,ho5,hb5⟩;clear c5;have hs45:=SlR.below hs4 hb5;have hs5:=ho5.slr;have hbF5:=bel2 hbF4 hb5;have hsl : (srtM R).length ≤ 1000000:=by rw [srtM_len];omega
          clear hq4 hs4 hbF4 hb5 ho5;have c6:=rmarks w5 A4 A5 _ _ k4 k5 (srtM R) (srtM R) hs45 hs5 hsl hsl;rw [decide_eq_true rfl] at c6;(go_wp2_with fail);refine c6.mono ?_;rintro e w6 ⟨rfl,hb6⟩;have hbF6:=bel2 hbF5 hb6;clear c6 hs45 hs5 hb6 hbF5;have cw:=awake27 w6 (hp.below hbF6);(go_wp2_with fail);refine cw.mono ?_;rintro e w9 ⟨rfl,hb9⟩;have hbF:=bel2 hbF6 hb9;clear cw;(go_wp2_with fail);go_ret;exact ⟨rfl,hbF⟩
end
section
open Go.ChangeShapes Go.WideShapes Go.RowKit
theorem parts_of_laid {W : World} (h : laidMetH Tryz.prog [("petrel/op.parts",Rows.laid_petrel_op_parts)] W) : PartsVar W:=by
  have h' : laidMet Tryz.prog [("petrel/op.parts",Lib.tabData .i64 [0,1,4,20,7,22,12,8])] W:=h;have hT:=Lib.tabIs_of_head (P:=Tryz.prog) (g:=0) (t:=285) (e:=3) (n:=8) (by kernel_rfl) (by kernel_rfl) Tryz.underlying285 Tryz.underlying3 (by kernel_rfl) (by kernel_rfl) h';intro k hk;have hc:=hT.cell (g:=0) (by kernel_rfl) k (by simpa using hk);rw [hc];have h8 : k = 0 ∨ k = 1 ∨ k = 2 ∨ k = 3 ∨ k = 4 ∨ k = 5 ∨ k = 6 ∨ k = 7:=by omega
  rcases h8 with rfl | rfl | rfl | rfl | rfl | rfl | rfl | rfl <;> rfl
def laidWorld (P : Program) (os : Os) : World:=(World.holding P os ⟨#[],#[],[]⟩).setRow 0 #[.int .i64 0,.int .i64 1,.int .i64 4,.int .i64 20,.int .i64 7,.int .i64 22,.int .i64 12,.int .i64 8]
theorem laidWorld_met (os : Os) (args : Array Value) : laidMetH Tryz.prog [("petrel/op.parts",Rows.laid_petrel_op_parts)] ((laidWorld Tryz.prog os).forCall (fun _ _=>0) ⟨#[],args,[]⟩).memory:=by
  show laidMet Tryz.prog [("petrel/op.parts",Rows.laid_petrel_op_parts)] _;exact laidMet_of_run' 8 (by kernel_rfl) (by kernel_rfl)
theorem trodVars_nil {H : Type} {enc : TypeId × Value → H} {P : Program} {w : World} {g : Nat → Bool} {gs : List (DataW H)} {q : List MemPlace} (hV : DataW.TrodVars enc P w g [] gs q) : gs = [] ∧ q = []:=by
  cases gs with
  | nil=>exact ⟨rfl,hV⟩
  | cons g r=>exact absurd hV (by intro h;cases h)
end
end Go.Proofs.YtgfpjjppeldhbaaGreatDoor
