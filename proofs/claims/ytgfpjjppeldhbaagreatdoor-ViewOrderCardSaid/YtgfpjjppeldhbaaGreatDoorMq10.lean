/- Part 10 of the texts that lead to this claim: the walks of the functions and the plain law, in order. -/
import Derived.Test.YtgfpjjppeldhbaaGreatDoorMq9
import Derived.IntWalk
import Derived.Lib.BufferWrite
namespace Go.Proofs.YtgfpjjppeldhbaaGreatDoor
section
open Go.RowKit
def mP : RowP MRow :=
  ⟨fun l e=>⟨idOf (rawV 32 l e),txV (rawL 32 l e) (rawE 32 l e),txV (txL (rawL 32 l e) (rawE 32 l e)) (txE (rawL 32 l e) (rawE 32 l e))⟩,
   fun l e=>txL (txL (rawL 32 l e) (rawE 32 l e)) (txE (rawL 32 l e) (rawE 32 l e)),
   fun l e=>txE (txL (rawL 32 l e) (rawE 32 l e)) (txE (rawL 32 l e) (rawE 32 l e)),rowMB,fun x=>x.key.size ≤ 255 ∧ x.val.size ≤ 255⟩
theorem mLaw : RowLaw mP where
  split l e h:=by
    obtain ⟨h1,h2⟩:=tx_split (show txE (txL (rawL 32 l e) (rawE 32 l e)) (txE (rawL 32 l e) (rawE 32 l e)) = 0 from h);obtain ⟨h3,h4⟩:=tx_split h1;obtain ⟨h5,h6⟩:=id_split h3;refine ⟨h5,?_⟩;show rowMB _ ++ _ = l;unfold rowMB;simp only [List.append_assoc];show (idOf (rawV 32 l e)).l ++ (beL 1 (txV (rawL 32 l e) (rawE 32 l e)).size ++ ((txV (rawL 32 l e) (rawE 32 l e)).data.toList ++ (beL 1 (txV (txL (rawL 32 l e) (rawE 32 l e)) (txE (rawL 32 l e) (rawE 32 l e))).size ++ ((txV (txL (rawL 32 l e) (rawE 32 l e)) (txE (rawL 32 l e) (rawE 32 l e))).data.toList ++ txL (txL (rawL 32 l e) (rawE 32 l e)) (txE (rawL 32 l e) (rawE 32 l e)))))) = l;rw [h2,h4,h6]
  back x t hx:=by
    obtain ⟨d,k,v⟩:=x;obtain ⟨hk,hv⟩:=hx;have e0 : rowMB ⟨d,k,v⟩ ++ t = d.l ++ (beL 1 k.size ++ (k.data.toList ++ (beL 1 v.size ++ (v.data.toList ++ t)))):=by simp [rowMB]
    show (⟨idOf (rawV 32 (rowMB ⟨d,k,v⟩ ++ t) 0),txV (rawL 32 (rowMB ⟨d,k,v⟩ ++ t) 0) (rawE 32 (rowMB ⟨d,k,v⟩ ++ t) 0),txV (txL (rawL 32 (rowMB ⟨d,k,v⟩ ++ t) 0) (rawE 32 (rowMB ⟨d,k,v⟩ ++ t) 0)) (txE (rawL 32 (rowMB ⟨d,k,v⟩ ++ t) 0) (rawE 32 (rowMB ⟨d,k,v⟩ ++ t) 0))⟩ : MRow) = _ ∧ txL (txL (rawL 32 (rowMB ⟨d,k,v⟩ ++ t) 0) (rawE 32 (rowMB ⟨d,k,v⟩ ++ t) 0)) (txE (rawL 32 (rowMB ⟨d,k,v⟩ ++ t) 0) (rawE 32 (rowMB ⟨d,k,v⟩ ++ t) 0)) = _ ∧ txE (txL (rawL 32 (rowMB ⟨d,k,v⟩ ++ t) 0) (rawE 32 (rowMB ⟨d,k,v⟩ ++ t) 0)) (txE (rawL 32 (rowMB ⟨d,k,v⟩ ++ t) 0) (rawE 32 (rowMB ⟨d,k,v⟩ ++ t) 0)) = 0;rw [e0];obtain ⟨a1,a2,a3⟩:=id_back (d:=d) (beL 1 k.size ++ (k.data.toList ++ (beL 1 v.size ++ (v.data.toList ++ t))));obtain ⟨b1,b2,b3⟩:=tx_put (s:=k) (by simp at hk;omega) (beL 1 v.size ++ (v.data.toList ++ t));obtain ⟨c1,c2,c3⟩:=tx_put (s:=v) (by simp at hv;omega) t;rw [a1,a2,a3,b1,b2,b3,c1,c2,c3];exact ⟨rfl,rfl,rfl⟩
  some_ x:=by show 1 ≤ (rowMB x).length;rw [rowMB_len];omega
def partMA (l : List UInt8) : RdsG MRow:=readG mP l 0
def partMG (l : List UInt8) : RdsG Id32:=readG idP (partMA l).l (partMA l).e
def FitsM (R : List MRow) : Prop:=∀ x ∈ R,x.key.size ≤ 255 ∧ x.val.size ≤ 255
theorem fitsM_step {R : List MRow} (h : FitsM R) (l : List UInt8) (e : Int) : FitsM (R ++ [mP.one l e]):=fun x hx=>by
  rcases List.mem_append.1 hx with h' | h'
  · exact h x h'
  · simp at h';subst h';exact ⟨txV_size _ _,txV_size _ _⟩
set_option maxHeartbeats 1000000 in
theorem ml_id (w : World) (g : Nat) (l : List UInt8) (e : Int) (h : RdAt w g l e) :
    Calls Tryz.prog 276 #[.pointer (some ⟨g,0,none⟩)] w fun en w'=>en = .returned (.agg (idC (idOf (rawV 32 l e)))) ∧ RdStep w g (rawL 32 l e) (rawE 32 l e) w':=by
  have hb0 : Below w.heap.size w ((w.alloc (.cells (idC id0) 39)).alloc (.cells (idC id0) 39)):=((Below.refl _ _).alloc (Nat.le_refl _) _).alloc (by simp) _;have hg2 : ((w.alloc (.cells (idC id0) 39)).alloc (.cells (idC id0) 39)).heap[w.heap.size]? = some (.cells (idC id0) 39 (0,0)):=by
    rw [Below.heap_alloc _ _ _ (by simp)];exact heap_alloc_new w _
  have hg3 : ((w.alloc (.cells (idC id0) 39)).alloc (.cells (idC id0) 39)).heap[w.heap.size + 1]? = some (.cells (idC id0) 39 (0,0)):=by
    have:=heap_alloc_new (w.alloc (.cells (idC id0) 39)) (.cells (idC id0) 39);simpa using this
  have hgl:=h.lt;have hr0:=h.below hb0;have hsz0 : ((w.alloc (.cells (idC id0) 39)).alloc (.cells (idC id0) 39)).heap.size = w.heap.size + 2:=by simp
  have Hsz0:=Lib.hid hsz0;clear hsz0 h;go_enter Tryz.func276,Tryz.ntmps276
  go_upto_region 2 with fail
  obtain ⟨ga,hga⟩ : ∃ ga,w.heap.size = ga:=⟨_,rfl⟩
  have Hga:=Lib.hid hga;obtain ⟨W,hW⟩ : ∃ W,W = ((w.alloc (.cells (idC id0) 39)).alloc (.cells (idC id0) 39)):=⟨_,rfl⟩
  rw [← hW] at hb0 hg2 hg3 hr0 Hsz0 ⊢;rw [hga] at hg2 hg3 hgl ⊢;clear hW;have hgal : ga + 1 < W.heap.size:=(Array.getElem?_eq_some_iff.1 hg3).1;have c1:=rd_raw32 W.drew g l e (hr0.kept (Keep.drew W) (by simp));refine wp_region_lex (Kp [g,ga + 1] W) false (by kernel_rfl) (by kernel_rfl) (by kernel_rfl) (kp_drew [g,ga + 1] W) ?_;have hne:=kp_some [g,ga + 1] W;have hS:=kp_drew [g,ga + 1] W;repeat (refine wpLx_loose ?_ ?_;(focus (simp only [chainOp];done));intro K hK;go_simp;refine hK _ ?_;clear hK K)
  refine wpLx_chain ?_ ?_ ?_;(focus (exact hS));(focus (simp only [chainOp];done));intro K hK;go_simp;refine c1.mono ?_;rintro en w1 ⟨rfl,hr1,hk1⟩;replace hS:=kp_next hS hk1 (by simp);have hg31 : w1.heap[ga + 1]? = _:=(hk1.block (ga + 1) (by show _ < W.drew.heap.size;exact hgal) (by simp;omega)).trans hg3;refine ⟨_,rfl,hS,hK _ _ ?_⟩;clear hK K c1;obtain ⟨w2,m2,hcp,hg32,hk2⟩:=copy_idb (rawV 32 l e) (rawV_32 _ _) 3 32 hg31;refine wpLx_chain ?_ ?_ ?_;(focus (exact hS));(focus (simp only [chainOp];done));intro K hK;go_simp;refine step_keep (kp_next hS hk2 (by simp)) (fun hS2=>?_);refine hK _ _ ?_;clear hK K;refine wpLx_nil ?_;intro hS;have hkk : Keep [g,ga + 1] W w2:=hS2;have hr2:=hr1.kept hk2 (by simp;omega);have hg22:=(hkk.block ga (by omega) (by simp;omega)).trans hg2;clear hcp hS hS2 hne hk1 hk2 hr1 hr0 hg31;obtain ⟨d,hd⟩ : ∃ d,idOf (rawV 32 l e) = d:=⟨_,rfl⟩
  rw [hd] at hg32;have Hd:=Lib.hid hd;clear hd;have hrow : rowAt w2 (ga + 1) 0 32 = some (idC d):=by unfold rowAt;rw [hg32];simp [go_sem]
  have hsto:=run_stS_at (P:=Tryz.prog) infoId w2 ga (idC id0) (idC d) _ hg22 (by simp) (by simp) (idC_one _);have hkf : Keep [ga] w2 (w2.setRow ga (idC d)):=⟨rfl,rfl,rfl,by simp [World.setRow],fun x _ hx=>setRow_other w2 ga x _ (by simpa using hx)⟩
  have Hfin:=Lib.hid (setRow_heap w2 ga _ (idC d) _ _ hg22);have hr3:=hr2.kept hkf (by simp;omega);have hkw : Keep [g,ga,ga + 1] w (w2.setRow ga (idC d)):=Keep.trans (Keep.trans ((Keep.of_below hb0).mono (S':=[g,ga,ga + 1]) (by simp)) (hkk.mono (S':=[g,ga,ga + 1]) (by simp)) (fun x hx=>.inl hx)) (hkf.mono (S':=[g,ga,ga + 1]) (by simp)) (fun x hx=>.inl hx);have hkz : Keep [g] w (w2.setRow ga (idC d)):=hkw.narrow (fun x hx=>by have:=Hga.out;simp at hx ⊢;omega);have Hr3:=Lib.hid hr3;have Hkz:=Lib.hid hkz;clear hr3 hr2 hkw hkz hkf hg22 hg32 hb0 hkk;(go_wp2_with fail);exact bodyPost_ret (results_cell_row Tryz.results276 _ _ ga 39 (idC d) (0,0) _ rfl Hfin.out Tryz.underlying39 rfl (by rw [idC_size];exact infoId)) rfl ⟨by rw [Hd.out],Hr3.out,Hkz.out⟩
theorem mRowC_set32 (d : Id32) (k k' v : ByteArray) : (mRowC ⟨d,k,v⟩).setIfInBounds 32 (.string k') = mRowC ⟨d,k',v⟩:=by
  apply Array.ext';simp [mRowC]
theorem mRowC_set33 (d : Id32) (k v v' : ByteArray) : (mRowC ⟨d,k,v⟩).setIfInBounds 33 (.string v') = mRowC ⟨d,k,v'⟩:=by
  apply Array.ext';simp [mRowC]
set_option maxRecDepth 100000 in
set_option maxHeartbeats 4000000 in
theorem mlread (w : World) (g : Nat) (l : List UInt8) (hr0 : RdAt w g l 0) :
    Calls Tryz.prog 230 #[.pointer (some ⟨g,0,none⟩)] w fun e w'=>∃ A cap B cap',e = .returned (.tuple #[.slice A (partMA l).rows.length cap,.slice B (partMG l).rows.length cap']) ∧ Own w' w.heap.size 184 34 A (partMA l).rows.length cap ((partMA l).rows.map mRowC) ∧ Own w' w.heap.size 39 32 B (partMG l).rows.length cap' ((partMG l).rows.map idC) ∧ RdAt w' g (partMG l).l (partMG l).e ∧ Keep [g] w w' ∧ FitsM (partMA l).rows:=by
  have c0:=rd_num4 _ _ l 0 hr0;have hN:=numV_lt 4 l 0;obtain ⟨N,hNe⟩ : ∃ N,numV 4 l 0 = N:=⟨_,rfl⟩
  have hrd : Hid (partMA l = loopG mP N ⟨[],rawL 4 l 0,rawE 4 l 0⟩):=by show _ = _;rw [← hNe];rfl
  rw [hNe] at c0 hN;clear hNe;have hgl:=hr0.lt;go_enter Tryz.func230,Tryz.ntmps230
  (go_wp2_with fail);refine c0.mono ?_;rintro e w1 ⟨rfl,hr1,hk1⟩;have Hk1:=Lib.hid hk1;have hs01:=hk1.size;clear c0 hr0 hk1;(go_wp2_with fail);go_loopw [2,5,6] (fun out i _ wr=>∃ (k : Nat) (R : List MRow) (l1 : List UInt8) (e1 : Int) (A1 : Option Addr) (cap1 : Nat),k ≤ N ∧ i = .int .i64 k ∧ out = .slice A1 R.length cap1 ∧ R.length = k ∧ Own wr w1.heap.size 184 34 A1 R.length cap1 (R.map mRowC) ∧ RdAt wr g l1 e1 ∧ Hid (loopG mP N ⟨[],rawL 4 l 0,rawE 4 l 0⟩ = loopG mP (N - k) ⟨R,l1,e1⟩) ∧ Hid (FitsM R) ∧ Keep [g] w1 wr) (fun _ i _ _=>N - (intOf i).toNat)
  case atStart=>exact ⟨0,[],_,_,none,0,Nat.zero_le _,rfl,rfl,rfl,Own.nil _ _ _ _,hr1,(show _ = _ from rfl),(show FitsM [] by intro x hx;cases hx),Keep.refl _ _⟩
  case round =>
    clear hr1;obtain ⟨k,R,l1,e1,A1,cap1,hkN,rfl,rfl,hRk,hown,hr,hlp,hft,hk⟩:=hrel;have HRk:=Lib.hid hRk;have hRN : R.length ≤ N:=by omega
    clear hRk;have hsz:=hk.size;by_cases hgo : k < N ∧ e1 = 0
    · obtain ⟨hlt,rfl⟩:=hgo;have hlp2:=hlp.out;rw [show N - k = (N - (k + 1)) + 1 by omega,loopG_step _ _ rfl] at hlp2;have Hlp:=Lib.hid hlp2;have hft2:=fitsM_step hft.out l1 0;have Hft:=Lib.hid hft2;clear hlp hlp2 hft hft2;have hgw:=hr.lt;have hgS : g ∉ blk A1:=fun hx=>(by have:=(hown.at_base hx).1;omega);(go_wp2_with fail);refine (rd_err _ g l1 0 hr).mono ?_;rintro e w5 ⟨rfl,rfl⟩;(go_wp2_with fail);refine (ml_id _ g l1 0 hr).mono ?_;rintro e w6 ⟨rfl,hE6,hk6⟩;obtain ⟨d,hd⟩ : ∃ d,idOf (rawV 32 l1 0) = d:=⟨_,rfl⟩
      rw [hd];have Hd:=Lib.hid hd;have h8:=heap_alloc_new w6 (.cells (mRowC ⟨d,⟨#[]⟩,⟨#[]⟩⟩) 184);have hE7:=RdAt.kept hE6 (Keep.alloc w6 (.cells (mRowC ⟨d,⟨#[]⟩,⟨#[]⟩⟩) 184)) (by simp);have hk7 : Keep [g] wr (w6.alloc (.cells (mRowC ⟨d,⟨#[]⟩,⟨#[]⟩⟩) 184)):=Keep.trans hk6 (Keep.alloc w6 _) (by simp);have hs6:=hk6.size;clear hd hE6 hk6 hr;go_upto_region 6 with fail
      obtain ⟨g8,hg8⟩ : ∃ g8,w6.heap.size = g8:=⟨_,rfl⟩
      obtain ⟨W,hW⟩ : ∃ W,w6.alloc (.cells (mRowC ⟨d,⟨#[]⟩,⟨#[]⟩⟩) 184) = W:=⟨_,rfl⟩
      rw [hW] at h8 hE7 hk7;rw [hW];rw [hg8] at h8 hs6 ⊢;have hne8 : g8 ∉ [g]:=by simp;omega
      have hng : g ∉ [g8]:=by simp;omega
      clear hW hg8;have hn2:=numV_lt 1 (rawL 32 l1 0) (rawE 32 l1 0);(go_wp2_with fail);refine (rd_num1 _ g _ _ hE7).mono ?_;rintro e w2 ⟨rfl,hr2,hk2⟩;(go_wp2_with fail);refine (rd_raw _ g _ _ _ hr2 (by omega)).mono ?_;rintro e w3 ⟨rfl,hr3,hk3⟩;have hE2 : RdAt w3 g (txL (rawL 32 l1 0) (rawE 32 l1 0)) (txE (rawL 32 l1 0) (rawE 32 l1 0)):=hr3;have hk23 : Keep [g] W w3:=Keep.trans hk2 hk3 (fun x hx=>.inl hx);have h83:=(hk23.block g8 (Array.getElem?_eq_some_iff.1 h8).1 hne8).trans h8;obtain ⟨kv,hkv⟩ : ∃ kv,mkB (rawV (numV 1 (rawL 32 l1 0) (rawE 32 l1 0)) (rawL 1 (rawL 32 l1 0) (rawE 32 l1 0)) (rawE 1 (rawL 32 l1 0) (rawE 32 l1 0))) = kv:=⟨_,rfl⟩
      have Hkv:=Lib.hid (show txV (rawL 32 l1 0) (rawE 32 l1 0) = kv from hkv);rw [hkv];have x0 : w3.cell? ⟨g8,32,none⟩ = some (.string ⟨#[]⟩):=by rw [cell_of_row w3 g8 _ _ _ _ h83];first | exact nnode_g65 _ _ _ _ | (simp [go_sem];done)
      have f0 : w3.frozen? ⟨g8,32,none⟩ = false:=by simp [World.frozen?,h83]
      have h84:=heap_setCell_same h83 32 (.string kv);rw [mRowC_set32] at h84;have hks:=Keep.setCell w3 ⟨g8,32,none⟩ (.string kv);have hE4:=hE2.kept hks hng;have hk14 : Keep [g,g8] W (w3.setCell ⟨g8,32,none⟩ (.string kv)):=Keep.trans (hk23.mono (S':=[g,g8]) (by simp)) (hks.mono (S':=[g,g8]) (by simp)) (fun x hx=>.inl hx);clear hr2 hr3 hk2 hk3 hkv hE2 hn2 h83 hks hk23 hE7 h8;go_upto_region 7 with fail
      obtain ⟨V,hV⟩ : ∃ V,w3.setCell ⟨g8,32,none⟩ (.string kv) = V:=⟨_,rfl⟩
      rw [hV] at h84 hE4 hk14;rw [hV];have hkV : Keep [g,g8] wr V:=Keep.trans (hk7.mono (S':=[g,g8]) (by simp)) hk14 (fun x hx=>.inl hx);have hEV:=hE4;have h8V:=h84;clear hV x0 f0 h84 hE4 hk14 hk7;have hn2:=numV_lt 1 (txL (rawL 32 l1 0) (rawE 32 l1 0)) (txE (rawL 32 l1 0) (rawE 32 l1 0));(go_wp2_with fail);refine (rd_num1 _ g _ _ hEV).mono ?_;rintro e w2 ⟨rfl,hr2,hk2⟩;(go_wp2_with fail);refine (rd_raw _ g _ _ _ hr2 (by omega)).mono ?_;rintro e w3 ⟨rfl,hr3,hk3⟩;have hE2 : RdAt w3 g (txL (txL (rawL 32 l1 0) (rawE 32 l1 0)) (txE (rawL 32 l1 0) (rawE 32 l1 0))) (txE (txL (rawL 32 l1 0) (rawE 32 l1 0)) (txE (rawL 32 l1 0) (rawE 32 l1 0))):=hr3;have hk23 : Keep [g] V w3:=Keep.trans hk2 hk3 (fun x hx=>.inl hx);have h83:=(hk23.block g8 (Array.getElem?_eq_some_iff.1 h8V).1 hne8).trans h8V;obtain ⟨vv,hkv⟩ : ∃ kv,mkB (rawV (numV 1 (txL (rawL 32 l1 0) (rawE 32 l1 0)) (txE (rawL 32 l1 0) (rawE 32 l1 0))) (rawL 1 (txL (rawL 32 l1 0) (rawE 32 l1 0)) (txE (rawL 32 l1 0) (rawE 32 l1 0))) (rawE 1 (txL (rawL 32 l1 0) (rawE 32 l1 0)) (txE (rawL 32 l1 0) (rawE 32 l1 0)))) = kv:=⟨_,rfl⟩
      have Hvv:=Lib.hid (show txV (txL (rawL 32 l1 0) (rawE 32 l1 0)) (txE (rawL 32 l1 0) (rawE 32 l1 0)) = vv from hkv);rw [hkv];have x0 : w3.cell? ⟨g8,33,none⟩ = some (.string ⟨#[]⟩):=by rw [cell_of_row w3 g8 _ _ _ _ h83];first | exact nnode_g65 _ _ _ _ | (simp [go_sem];done)
      have f0 : w3.frozen? ⟨g8,33,none⟩ = false:=by simp [World.frozen?,h83]
      have h84:=heap_setCell_same h83 33 (.string vv);rw [mRowC_set33] at h84;have hks:=Keep.setCell w3 ⟨g8,33,none⟩ (.string vv);have hE4:=hE2.kept hks hng;have hk14 : Keep [g,g8] V (w3.setCell ⟨g8,33,none⟩ (.string vv)):=Keep.trans (hk23.mono (S':=[g,g8]) (by simp)) (hks.mono (S':=[g,g8]) (by simp)) (fun x hx=>.inl hx);clear hr2 hr3 hk2 hk3 hkv hE2 hn2 h83 hks hk23 hEV h8V;go_upto_region 8 with fail
      obtain ⟨Z,hZ⟩ : ∃ Z,w3.setCell ⟨g8,33,none⟩ (.string vv) = Z:=⟨_,rfl⟩
      rw [hZ] at h84 hE4 hk14;rw [hZ];have hkZ : Keep [g,g8] wr Z:=Keep.trans hkV hk14 (fun x hx=>.inl hx);clear hZ x0 f0 hk14 hkV;have hA1 : ∀ x ∈ blk A1,x ∉ [g,g8]:=fun x hx=>(by have:=hown.at_base hx;simp;omega);have hownZ:=hown.kept hkZ hA1;have hk1Z : Keep [g] wr Z:=hkZ.mono (by intro x hx;simp at hx;rcases hx with rfl | rfl <;> simp;omega);have hx : mP.one l1 0 = ⟨d,kv,vv⟩:=by
        show (⟨idOf (rawV 32 l1 0),txV (rawL 32 l1 0) (rawE 32 l1 0),txV (txL (rawL 32 l1 0) (rawE 32 l1 0)) (txE (rawL 32 l1 0) (rawE 32 l1 0))⟩ : MRow) = _;rw [Hd.out,Hkv.out,Hvv.out]
      have hst : stepG mP ⟨R,l1,0⟩ = ⟨R ++ [⟨d,kv,vv⟩],txL (txL (rawL 32 l1 0) (rawE 32 l1 0)) (txE (rawL 32 l1 0) (rawE 32 l1 0)),txE (txL (rawL 32 l1 0) (rawE 32 l1 0)) (txE (rawL 32 l1 0) (rawE 32 l1 0))⟩:=by unfold stepG;rw [hx];rfl
      rw [hst] at Hlp;rw [hx] at Hft;obtain ⟨xx,hxx⟩ : ∃ xx : MRow,⟨d,kv,vv⟩ = xx:=⟨_,rfl⟩
      rw [hxx] at h84 Hft Hlp;clear hxx hx hown hA1 hst Hd Hkv Hvv;have hrowZ : rowAt Z g8 0 34 = some (mRowC xx):=by unfold rowAt;rw [h84];simp [go_sem]
      have hbx : Below Z.heap.size Z (Z.alloc (.cells (mRowC xx) 184)):=(Below.refl _ _).alloc (Nat.le_refl _) _;have hown12:=hownZ.below hbx;have hrow12 : rowAt (Z.alloc (.cells (mRowC xx) 184)) Z.heap.size 0 34 = some (mRowC xx):=by simp [go_sem]
      have hszZ : w1.heap.size ≤ Z.heap.size:=by have:=hkZ.size;omega
      clear hownZ h84 hkZ;go_wp2_with (at_builtin;refine L_append einfoMRow rfl hown12 rfl hrow12 (mRowC_one _) (by omega) (by omega) (by simp;omega) ?_;intro A13 cap13 w13 hown13 hk13' hsub13)
      have hk0 : Keep (blk A1) Z w13:=Keep.trans ((Keep.of_below hbx).mono (S':=blk A1) (by simp)) hk13' (fun x hx=>.inl hx);have hE13:=hE4.kept hk0 hgS;have hkf : Keep [g] w1 w13:=Keep.trans (Keep.trans hk hk1Z (fun x hx=>.inl hx)) hk0 (fun x hx=>.inr (by have:=(hown12.at_base hx).1;omega));rw [show R.map mRowC ++ [mRowC xx] = (R ++ [xx]).map mRowC by simp] at hown13;have hlen13 : (R ++ [xx]).length = R.length + 1:=by simp
      have Hlen13:=Lib.hid hlen13;clear hlen13 hk0 hk13' hsub13 hown12 hrow12 hbx hrowZ hE4;(go_wp2_with fail);go_roundw
      case rel=>exact ⟨k + 1,R ++ [xx],_,_,A13,cap13,by omega,by go_num,(by rw [Hlen13.out]),(by rw [Hlen13.out,HRk.out]),(by rw [Hlen13.out];exact hown13),hE13,Hlp,Hft,hkf⟩
      case measure=>simp [intOf];omega
    · have hfin : partMA l = ⟨R,l1,e1⟩:=by
        rw [hrd.out,hlp.out];by_cases he : e1 = 0
        · rw [show N - k = 0 by omega];rfl
        · exact loopG_stop _ _ he
      have Hfin:=Lib.hid hfin;have hfA:=hft.out;have HfA:=Lib.hid hfA;clear hfin hlp hrd hft hfA;have hkA : Keep [g] w wr:=Keep.trans Hk1.out hk (fun x hx=>.inl hx);have HkA:=Lib.hid hkA;have hszA:=hkA.size;clear hkA;obtain ⟨wA,rfl⟩ : ∃ wA,wA = wr:=⟨wr,rfl⟩
      by_cases hlt : k < N
      · have he : e1 ≠ 0:=by omega
        have heb : (e1 == 0) = false:=by simpa using he
        clear hgo;(go_wp2_with fail);refine (rd_err _ g l1 e1 hr).mono ?_;rintro e w5 ⟨rfl,rfl⟩;(go_wp2_with fail);refine (rd_num4 _ g l1 e1 hr).mono ?_;rintro e w9 ⟨rfl,hr9,hk9⟩;have hN2:=numV_lt 4 l1 e1;obtain ⟨N2,hN2e⟩ : ∃ N2,numV 4 l1 e1 = N2:=⟨_,rfl⟩
        have hrd2 : Hid (partMG l = loopG idP N2 ⟨[],rawL 4 l1 e1,rawE 4 l1 e1⟩):=by show _ = _;rw [← hN2e];unfold partMG;rw [Hfin.out];rfl
        rw [hN2e] at hN2 ⊢;have hown9:=hown.kept hk9 (fun x hx=>by have:=(hown.at_base hx).1;simp;omega);have HkA9:=Lib.hid (Keep.trans HkA.out hk9 (fun x hx=>.inl hx));have hs9 : w.heap.size ≤ w9.heap.size:=HkA9.out.size;have Hown9:=Lib.hid (hown9.mono (B':=w.heap.size) (by omega));have HA9:=Lib.hid (fun x (hx : x ∈ blk A1)=>hown9.at_base hx);have hg9:=hr9.lt;clear hN2e hown hown9 hk9 hr hk hsz hszA;(go_wp2_with fail);go_loopw [3,7] (fun out i wq=>∃ (k : Nat) (G : List Id32) (l2 : List UInt8) (e2 : Int) (B1 : Option Addr) (capB : Nat),k ≤ N2 ∧ i = .int .i64 k ∧ out = .slice B1 G.length capB ∧ G.length = k ∧ Own wq w9.heap.size 39 32 B1 G.length capB (G.map idC) ∧ RdAt wq g l2 e2 ∧ Hid (loopG idP N2 ⟨[],rawL 4 l1 e1,rawE 4 l1 e1⟩ = loopG idP (N2 - k) ⟨G,l2,e2⟩) ∧ Keep [g] w9 wq) (fun _ i _=>N2 - (intOf i).toNat)
        case atStart=>exact ⟨0,[],_,_,none,0,Nat.zero_le _,rfl,rfl,rfl,Own.nil _ _ _ _,hr9,(show _ = _ from rfl),Keep.refl _ _⟩
        case round =>
          clear hr9;obtain ⟨k2,G,l2,e2,B1,capB,hkN2,rfl,rfl,hGk,hownB,hr2,hlp2,hkB⟩:=hrel;have HGk:=Lib.hid hGk;have hGN : G.length ≤ N2:=by omega
          clear hGk;have hszB:=hkB.size;by_cases hgo2 : k2 < N2 ∧ e2 = 0
          · obtain ⟨hlt2,rfl⟩:=hgo2;have hlp3:=hlp2.out;rw [show N2 - k2 = (N2 - (k2 + 1)) + 1 by omega,loopG_step _ _ rfl] at hlp3;have Hlp:=Lib.hid hlp3;clear hlp3 hlp2;have hgB : g ∉ blk B1:=fun hx=>(by have:=(hownB.at_base hx).1;omega);(go_wp2_with fail);refine (rd_err _ g l2 0 hr2).mono ?_;rintro e w5 ⟨rfl,rfl⟩;(go_wp2_with fail);refine (ml_id _ g l2 0 hr2).mono ?_;rintro e w6 ⟨rfl,hE6,hk6⟩;have hst : stepG idP ⟨G,l2,0⟩ = ⟨G ++ [idOf (rawV 32 l2 0)],rawL 32 l2 0,rawE 32 l2 0⟩:=rfl;rw [hst] at Hlp;obtain ⟨d,hd⟩ : ∃ d,idOf (rawV 32 l2 0) = d:=⟨_,rfl⟩
            rw [hd] at Hlp ⊢;have hownB6:=hownB.kept hk6 (fun x hx=>by have:=(hownB.at_base hx).1;simp;omega);have hbx : Below w6.heap.size w6 (w6.alloc (.cells (idC d) 39)):=(Below.refl _ _).alloc (Nat.le_refl _) _;have hown12:=hownB6.below hbx;have hrow12 : rowAt (w6.alloc (.cells (idC d) 39)) w6.heap.size 0 32 = some (idC d):=by simp [go_sem]
            have hszZ : w9.heap.size ≤ w6.heap.size:=by have:=hk6.size;omega
            clear hd hst hownB hownB6 hr2;go_wp2_with (at_builtin;refine L_append einfoId rfl hown12 rfl hrow12 (idC_one _) (by omega) (by omega) (by simp;omega) ?_;intro A13 cap13 w13 hown13 hk13' hsub13)
            have hk0 : Keep (blk B1) w6 w13:=Keep.trans ((Keep.of_below hbx).mono (S':=blk B1) (by simp)) hk13' (fun x hx=>.inl hx);have hE13:=RdAt.kept hE6 hk0 hgB;have hkf : Keep [g] w9 w13:=Keep.trans (Keep.trans hkB hk6 (fun x hx=>.inl hx)) hk0 (fun x hx=>.inr (by have:=(hown12.at_base hx).1;omega));rw [show G.map idC ++ [idC d] = (G ++ [d]).map idC by simp] at hown13;have hlen13 : (G ++ [d]).length = G.length + 1:=by simp
            have Hlen13:=Lib.hid hlen13;clear hlen13 hk0 hk13' hsub13 hown12 hrow12 hbx hE6;(go_wp2_with fail);go_roundw
            case rel=>exact ⟨k2 + 1,G ++ [d],_,_,A13,cap13,by omega,by go_num,(by rw [Hlen13.out]),(by rw [Hlen13.out,HGk.out]),(by rw [Hlen13.out];exact hown13),hE13,Hlp,hkf⟩
            case measure=>simp [intOf];omega
          · have hfin2 : partMG l = ⟨G,l2,e2⟩:=by
              rw [hrd2.out,hlp2.out];by_cases he : e2 = 0
              · rw [show N2 - k2 = 0 by omega];rfl
              · exact loopG_stop _ _ he
            have Hfin2:=Lib.hid hfin2;clear hfin2 hlp2 hrd2;have HkZ:=Lib.hid (Keep.trans HkA9.out hkB (fun x hx=>.inl hx));have HownA:=Lib.hid (Hown9.out.kept hkB (fun x hx=>by have:=(HA9.out x hx).1;simp;omega));have HownB:=Lib.hid (hownB.mono (B':=w.heap.size) hs9);clear hownB hkB;by_cases hlt2 : k2 < N2
            · have he2 : e2 ≠ 0:=by omega
              have heb2 : (e2 == 0) = false:=by simpa using he2
              clear hgo2;(go_wp2_with fail);refine (rd_err _ g l2 e2 hr2).mono ?_;rintro e w5 ⟨rfl,rfl⟩;(go_wp2_with fail);go_ret2;exact ⟨_,_,_,_,(by rw [Hfin.out,Hfin2.out];rfl),by rw [Hfin.out];exact HownA.out,by rw [Hfin2.out];exact HownB.out,by rw [Hfin2.out];exact hr2,HkZ.out,by rw [Hfin.out];exact HfA.out⟩
            · (go_wp2_with fail);go_ret2;exact ⟨_,_,_,_,(by rw [Hfin.out,Hfin2.out];rfl),by rw [Hfin.out];exact HownA.out,by rw [Hfin2.out];exact HownB.out,by rw [Hfin2.out];exact hr2,HkZ.out,by rw [Hfin.out];exact HfA.out⟩
      · (go_wp2_with fail);refine (rd_num4 _ g l1 e1 hr).mono ?_;rintro e w9 ⟨rfl,hr9,hk9⟩;have hN2:=numV_lt 4 l1 e1;obtain ⟨N2,hN2e⟩ : ∃ N2,numV 4 l1 e1 = N2:=⟨_,rfl⟩
        have hrd2 : Hid (partMG l = loopG idP N2 ⟨[],rawL 4 l1 e1,rawE 4 l1 e1⟩):=by show _ = _;rw [← hN2e];unfold partMG;rw [Hfin.out];rfl
        rw [hN2e] at hN2 ⊢;have hown9:=hown.kept hk9 (fun x hx=>by have:=(hown.at_base hx).1;simp;omega);have HkA9:=Lib.hid (Keep.trans HkA.out hk9 (fun x hx=>.inl hx));have hs9 : w.heap.size ≤ w9.heap.size:=HkA9.out.size;have Hown9:=Lib.hid (hown9.mono (B':=w.heap.size) (by omega));have HA9:=Lib.hid (fun x (hx : x ∈ blk A1)=>hown9.at_base hx);have hg9:=hr9.lt;clear hN2e hown hown9 hk9 hr hk hsz hszA;(go_wp2_with fail);go_loopw [3,7] (fun out i wq=>∃ (k : Nat) (G : List Id32) (l2 : List UInt8) (e2 : Int) (B1 : Option Addr) (capB : Nat),k ≤ N2 ∧ i = .int .i64 k ∧ out = .slice B1 G.length capB ∧ G.length = k ∧ Own wq w9.heap.size 39 32 B1 G.length capB (G.map idC) ∧ RdAt wq g l2 e2 ∧ Hid (loopG idP N2 ⟨[],rawL 4 l1 e1,rawE 4 l1 e1⟩ = loopG idP (N2 - k) ⟨G,l2,e2⟩) ∧ Keep [g] w9 wq) (fun _ i _=>N2 - (intOf i).toNat)
        case atStart=>exact ⟨0,[],_,_,none,0,Nat.zero_le _,rfl,rfl,rfl,Own.nil _ _ _ _,hr9,(show _ = _ from rfl),Keep.refl _ _⟩
        case round =>
          clear hr9;obtain ⟨k2,G,l2,e2,B1,capB,hkN2,rfl,rfl,hGk,hownB,hr2,hlp2,hkB⟩:=hrel;have HGk:=Lib.hid hGk;have hGN : G.length ≤ N2:=by omega
          clear hGk;have hszB:=hkB.size;by_cases hgo2 : k2 < N2 ∧ e2 = 0
          · obtain ⟨hlt2,rfl⟩:=hgo2;have hlp3:=hlp2.out;rw [show N2 - k2 = (N2 - (k2 + 1)) + 1 by omega,loopG_step _ _ rfl] at hlp3;have Hlp:=Lib.hid hlp3;clear hlp3 hlp2;have hgB : g ∉ blk B1:=fun hx=>(by have:=(hownB.at_base hx).1;omega);(go_wp2_with fail);refine (rd_err _ g l2 0 hr2).mono ?_;rintro e w5 ⟨rfl,rfl⟩;(go_wp2_with fail);refine (ml_id _ g l2 0 hr2).mono ?_;rintro e w6 ⟨rfl,hE6,hk6⟩;have hst : stepG idP ⟨G,l2,0⟩ = ⟨G ++ [idOf (rawV 32 l2 0)],rawL 32 l2 0,rawE 32 l2 0⟩:=rfl;rw [hst] at Hlp;obtain ⟨d,hd⟩ : ∃ d,idOf (rawV 32 l2 0) = d:=⟨_,rfl⟩
            rw [hd] at Hlp ⊢;have hownB6:=hownB.kept hk6 (fun x hx=>by have:=(hownB.at_base hx).1;simp;omega);have hbx : Below w6.heap.size w6 (w6.alloc (.cells (idC d) 39)):=(Below.refl _ _).alloc (Nat.le_refl _) _;have hown12:=hownB6.below hbx;have hrow12 : rowAt (w6.alloc (.cells (idC d) 39)) w6.heap.size 0 32 = some (idC d):=by simp [go_sem]
            have hszZ : w9.heap.size ≤ w6.heap.size:=by have:=hk6.size;omega
            clear hd hst hownB hownB6 hr2;go_wp2_with (at_builtin;refine L_append einfoId rfl hown12 rfl hrow12 (idC_one _) (by omega) (by omega) (by simp;omega) ?_;intro A13 cap13 w13 hown13 hk13' hsub13)
            have hk0 : Keep (blk B1) w6 w13:=Keep.trans ((Keep.of_below hbx).mono (S':=blk B1) (by simp)) hk13' (fun x hx=>.inl hx);have hE13:=RdAt.kept hE6 hk0 hgB;have hkf : Keep [g] w9 w13:=Keep.trans (Keep.trans hkB hk6 (fun x hx=>.inl hx)) hk0 (fun x hx=>.inr (by have:=(hown12.at_base hx).1;omega));rw [show G.map idC ++ [idC d] = (G ++ [d]).map idC by simp] at hown13;have hlen13 : (G ++ [d]).length = G.length + 1:=by simp
            have Hlen13:=Lib.hid hlen13;clear hlen13 hk0 hk13' hsub13 hown12 hrow12 hbx hE6;(go_wp2_with fail);go_roundw
            case rel=>exact ⟨k2 + 1,G ++ [d],_,_,A13,cap13,by omega,by go_num,(by rw [Hlen13.out]),(by rw [Hlen13.out,HGk.out]),(by rw [Hlen13.out];exact hown13),hE13,Hlp,hkf⟩
            case measure=>simp [intOf];omega
          · have hfin2 : partMG l = ⟨G,l2,e2⟩:=by
              rw [hrd2.out,hlp2.out];by_cases he : e2 = 0
              · rw [show N2 - k2 = 0 by omega];rfl
              · exact loopG_stop _ _ he
            have Hfin2:=Lib.hid hfin2;clear hfin2 hlp2 hrd2;have HkZ:=Lib.hid (Keep.trans HkA9.out hkB (fun x hx=>.inl hx));have HownA:=Lib.hid (Hown9.out.kept hkB (fun x hx=>by have:=(HA9.out x hx).1;simp;omega));have HownB:=Lib.hid (hownB.mono (B':=w.heap.size) hs9);clear hownB hkB;by_cases hlt2 : k2 < N2
            · have he2 : e2 ≠ 0:=by omega
              have heb2 : (e2 == 0) = false:=by simpa using he2
              clear hgo2;(go_wp2_with fail);refine (rd_err _ g l2 e2 hr2).mono ?_;rintro e w5 ⟨rfl,rfl⟩;(go_wp2_with fail);go_ret2;exact ⟨_,_,_,_,(by rw [Hfin.out,Hfin2.out];rfl),by rw [Hfin.out];exact HownA.out,by rw [Hfin2.out];exact HownB.out,by rw [Hfin2.out];exact hr2,HkZ.out,by rw [Hfin.out];exact HfA.out⟩
            · (go_wp2_with fail);go_ret2;exact ⟨_,_,_,_,(by rw [Hfin.out,Hfin2.out];rfl),by rw [Hfin.out];exact HownA.out,by rw [Hfin2.out];exact HownB.out,by rw [Hfin2.out];exact hr2,HkZ.out,by rw [Hfin.out];exact HfA.out⟩
end
section
open Go.RowKit
theorem ris_snoc {α : Type} {c : α → α → Int} (T : TotC c) {L : List α} {x : α} : Ris c (L ++ [x]) ↔ Ris c L ∧ ∀ y ∈ L,c y x < 0:=by
  unfold Ris;rw [List.pairwise_append];constructor
  · rintro ⟨h1,_,h3⟩;exact ⟨h1,fun y hy=>h3 y hy x (by simp)⟩
  · rintro ⟨h1,h2⟩;exact ⟨h1,List.pairwise_singleton _ _,fun y hy z hz=>by rw [List.mem_singleton] at hz;rw [hz];exact h2 y hy⟩
theorem ris_next {α : Type} {c : α → α → Int} (T : TotC c) (R : List α) (k : Nat) (hk : k + 1 < R.length) : Ris c (R.take (k + 2)) ↔ Ris c (R.take (k + 1)) ∧ c (R[k]'(by omega)) (R[k + 1]'hk) < 0:=by
  have e1 : R.take (k + 2) = R.take (k + 1) ++ [R[k + 1]'hk]:=by rw [List.take_add_one,List.getElem?_eq_getElem hk];rfl
  have e2 : R.take (k + 1) = R.take k ++ [R[k]'(by omega)]:=by rw [List.take_add_one,List.getElem?_eq_getElem (by omega)];rfl
  rw [e1,ris_snoc T];constructor
  · rintro ⟨h1,h2⟩;exact ⟨h1,h2 _ (by rw [e2];exact List.mem_append_right _ (List.mem_singleton.2 rfl))⟩
  · rintro ⟨h1,h2⟩;refine ⟨h1,fun y hy=>?_⟩;rw [e2] at hy h1;rcases List.mem_append.1 hy with hy | hy
    · exact T.trans _ _ _ ((ris_snoc T).1 h1 |>.2 y hy) h2
    · rw [List.mem_singleton] at hy;rw [hy];exact h2
theorem ris_one {α : Type} {c : α → α → Int} (R : List α) (hk : 0 < R.length) : Ris c (R.take 1):=by
  have e1 : R.take 1 = [R[0]'hk]:=by
    cases R with
    | nil=>simp at hk
    | cons a R=>rfl
  rw [e1];exact List.pairwise_singleton _ _
def LongM (R : List MRow) : Prop:=∃ x ∈ R,¬ msmall x
def GoodM (l : List UInt8) : Prop:=endE (partMG l).l (partMG l).e = 0 ∧ risI (partMG l).rows = true ∧ Ris cmpMR (partMA l).rows ∧ ∀ x ∈ (partMA l).rows,x.id ∉ (partMG l).rows
def LoadM (l : List UInt8) (e : Int) : Prop :=
  ((partMG l).e ≠ 0 ∧ e = (partMG l).e) ∨ ((partMG l).e = 0 ∧ LongM (partMA l).rows ∧ e = 3) ∨ ((partMG l).e = 0 ∧ ¬ LongM (partMA l).rows ∧ ((GoodM l ∧ e = 0) ∨ (¬ GoodM l ∧ e = 4)))
theorem loadM_uniq {l : List UInt8} {e e' : Int} (h : LoadM l e) (h' : LoadM l e') : e = e':=by
  rcases h with ⟨a1,a2⟩ | ⟨a1,a2,a3⟩ | ⟨a1,a2,a3⟩ <;> rcases h' with ⟨b1,b2⟩ | ⟨b1,b2,b3⟩ | ⟨b1,b2,b3⟩
  · rw [a2,b2]
  · exact absurd b1 a1
  · exact absurd b1 a1
  · exact absurd a1 b1
  · rw [a3,b3]
  · exact absurd a2 b2
  · exact absurd a1 b1
  · exact absurd b2 a2
  · rcases a3 with ⟨c1,c2⟩ | ⟨c1,c2⟩ <;> rcases b3 with ⟨d1,d2⟩ | ⟨d1,d2⟩
    · rw [c2,d2]
    · exact absurd c1 d1
    · exact absurd d1 c1
    · rw [c2,d2]
theorem putM_load {X : List MRow} {O : List Id32} (hX : ∀ x ∈ X,msmall x) (rX : Ris cmpMR X) (rO : Ris cmpId O) (ap : ∀ x ∈ X,x.id ∉ O) (nX : X.length < 4294967296) (nO : O.length < 4294967296) :
    LoadM (putMB X O) 0 ∧ (partMA (putMB X O)).rows = X ∧ (partMG (putMB X O)).rows = O:=by
  have h1 : partMA (putMB X O) = ⟨X,idsB O,0⟩:=readG_put mLaw (idsB O) (fun x hx=>by have:=hX x hx;unfold msmall at this;show x.key.size ≤ 255 ∧ x.val.size ≤ 255;omega) nX;have h2 : partMG (putMB X O) = ⟨O,[],0⟩:=by
    unfold partMG;rw [h1];have h3:=readG_put idLaw (X:=O) [] (fun _ _=>trivial) nO;rw [List.append_nil] at h3;exact h3
  refine ⟨.inr (.inr ⟨by rw [h2],?_,.inl ⟨⟨by rw [h2];rfl,by rw [h2];exact (risI_ok O).2 rO,by rw [h1];exact rX,by rw [h1,h2];exact ap⟩,rfl⟩⟩),by rw [h1],by rw [h2]⟩;rw [h1];rintro ⟨x,hx,hn⟩;exact hn (hX x hx)
set_option maxRecDepth 100000 in
set_option maxHeartbeats 4000000 in
theorem mload (w : World) (s : ByteArray) (hs : s.size ≤ 1000000) :
    Calls Tryz.prog 173 #[.string s] w fun e w'=>∃ P E,e = .returned (.tuple #[.pointer P,.int .i64 E]) ∧ LoadM s.data.toList E ∧ (E = 0 → ∃ g bl bo,P = some ⟨g,0,none⟩ ∧ MultiAt w' g bl bo (partMA s.data.toList).rows (partMG s.data.toList).rows ∧ w.heap.size ≤ g ∧ w.heap.size ≤ bl ∧ w.heap.size ≤ bo) ∧ (E ≠ 0 → P = none) ∧ Below w.heap.size w w':=by
  obtain ⟨l,hl⟩ : ∃ l,s.data.toList = l:=⟨_,rfl⟩
  have hll : l.length ≤ 1000000:=by rw [← hl];exact hs
  have c0:=rd_open s w (by omega);rw [hl] at c0 ⊢;clear hl;go_enter Tryz.func173,Tryz.ntmps173
  (go_wp2_with fail);refine c0.mono ?_;rintro e w1 ⟨rfl,hr1,hb1⟩;obtain ⟨gr,hgr⟩ : ∃ gr,w.heap.size = gr:=⟨_,rfl⟩
  have Hgr:=Lib.hid hgr;rw [hgr] at hr1 hb1 ⊢;clear hgr c0;(go_wp2_with fail);refine (mlread w1 gr l hr1).mono ?_;rintro e w2 ⟨A,cap,B,capB,rfl,hA,hB,hr2,hk2,hft⟩;have hb2 : Below gr w w2:=hb1.trans (hk2.below (by have:=hr1.lt;omega) (by simp));have hgl:=hr1.lt;have hsz1:=hb1.size;have hlA:=readG_len (p:=mP) l 0;have hlB:=readG_len (p:=idP) (partMA l).l (partMA l).e;obtain ⟨R,hR⟩ : ∃ R,(partMA l).rows = R:=⟨_,rfl⟩
  obtain ⟨G,hG⟩ : ∃ G,(partMG l).rows = G:=⟨_,rfl⟩
  obtain ⟨l2,hl2⟩ : ∃ l2,(partMG l).l = l2:=⟨_,rfl⟩
  obtain ⟨e2,he2⟩ : ∃ e2,(partMG l).e = e2:=⟨_,rfl⟩
  have hbnd : e2 = 0 → R.length ≤ 1000000 ∧ G.length ≤ 1000000:=fun h0=>by
    obtain ⟨h4,_⟩:=readG_split idLaw (show (readG idP (partMA l).l (partMA l).e).e = 0 from he2.trans h0);have h5:=readG_bound idLaw (show (readG idP (partMA l).l (partMA l).e).e = 0 from he2.trans h0);have h6:=readG_bound mLaw (show (readG mP l 0).e = 0 from h4);have h7 : (partMG l).rows.length + (partMG l).l.length ≤ (partMA l).l.length:=h5;have h8 : (partMA l).rows.length + (partMA l).l.length ≤ l.length:=h6;rw [hR] at h8;rw [hG] at h7;omega
  have hLM : ∀ E,LoadM l E ↔ (e2 ≠ 0 ∧ E = e2) ∨ (e2 = 0 ∧ LongM R ∧ E = 3) ∨ (e2 = 0 ∧ ¬ LongM R ∧ (((endE l2 e2 = 0 ∧ risI G = true ∧ Ris cmpMR R ∧ ∀ x ∈ R,x.id ∉ G) ∧ E = 0) ∨ (¬ (endE l2 e2 = 0 ∧ risI G = true ∧ Ris cmpMR R ∧ ∀ x ∈ R,x.id ∉ G) ∧ E = 4))):=fun E=>by
    unfold LoadM GoodM;rw [hR,hG,hl2,he2]
  have HLM:=Lib.hid hLM;have Hbnd:=Lib.hid hbnd;have HR:=Lib.hid hR;have HG:=Lib.hid hG;rw [hR] at hA hft;rw [hG] at hB;rw [hl2,he2] at hr2;have hRG : (Value.tuple #[.slice A (partMA l).rows.length cap,.slice B (partMG l).rows.length capB]) = .tuple #[.slice A R.length cap,.slice B G.length capB]:=by rw [hR,hG]
  rw [hRG];clear hR hG hl2 he2 hLM hbnd hRG hlA hlB hr1 hb1 hk2;(go_wp2_with fail);refine (rd_err _ gr l2 e2 hr2).mono ?_;rintro e w3 ⟨rfl,rfl⟩;by_cases h0 : e2 = 0
  · subst h0;obtain ⟨hnR,hnG⟩:=Hbnd.out rfl;have Hft:=Lib.hid hft;clear hft;(go_wp2_with fail);refine (mnew w2).mono ?_;rintro e w4 ⟨g,bl,bo,rfl,hM,hg,hbl,hbo,hb4⟩;have hA4:=hA.below hb4;have hB4:=hB.below hb4;have hA2 : ∀ x ∈ blk A,x < w2.heap.size:=fun x hx=>(hA.at_base hx).2;have hB2 : ∀ x ∈ blk B,x < w2.heap.size:=fun x hx=>(hB.at_base hx).2;have hr4:=hr2.below hb4;have hg2:=hr2.lt;have hb04 : Below gr w w4:=hb2.trans (hb4.mono (by omega));have hnel:=hM.nel;have hneo:=hM.neo;have hlo:=hM.ne;have hgl4:=hM.lt.1;clear hA hB hr2 hb2 hb4;(go_wp2_with fail);go_loopw [28] (fun i wr=>∃ k : Nat,k ≤ G.length ∧ i = .int .i64 k ∧ IdSet wr bo (G.take k) ∧ Keep [bo] w4 wr) (fun i _=>G.length - (intOf i).toNat)
    case atStart=>exact ⟨0,Nat.zero_le _,rfl,hM.over,Keep.refl _ _⟩
    case round =>
      obtain ⟨k,hk,rfl,ho,hkr⟩:=hrel;have hcr1 : wr.cell? ⟨g,1,none⟩ = some (.map (some bo)):=(hkr.cell (p:=⟨g,1,none⟩) hgl4 (by simpa using hneo)).trans hM.cell1;have hBr:=hB4.kept hkr (fun x hx=>by have:=hB2 x hx;simp;omega);by_cases hlt : k < G.length
      · obtain ⟨q,o,rfl,hrow⟩:=TagsIn.get hBr.slr hlt hlt;have htk : G.take (k + 1) = G.take k ++ [G[k]'hlt]:=by rw [List.take_add_one,List.getElem?_eq_getElem hlt];rfl
        obtain ⟨x,hx⟩ : ∃ x,G[k]'hlt = x:=⟨_,rfl⟩
        rw [hx] at hrow htk;have Htk:=Lib.hid htk;have hbx : Below wr.heap.size wr (wr.alloc (.cells (idC x) 39)):=(Below.refl _ _).alloc (Nat.le_refl _) _;have ho1:=SetAt.below ho hbx;have hcx:=(hbx.cell (p:=⟨g,1,none⟩) (World.block_lt_of_cell? wr _ hcr1)).trans hcr1;have hrx : rowAt (wr.alloc (.cells (idC x) 39)) wr.heap.size 0 32 = some (idC x):=by simp [go_sem]
        have hkx : Keep [bo] w4 (wr.alloc (.cells (idC x) 39)):=Keep.trans hkr (Keep.of_below hbx) (by simp);have hbol : bo < wr.heap.size:=ho.lt;clear hx htk;go_upto_region 9 with fail
        obtain ⟨gb,hgb⟩ : ∃ gb,wr.heap.size = gb:=⟨_,rfl⟩
        obtain ⟨W1,hW1⟩ : ∃ W1,W1 = wr.alloc (.cells (idC x) 39):=⟨_,rfl⟩
        rw [← hW1] at ho1 hcx hrx hkx ⊢;rw [hgb] at hrx hbol ⊢;clear hW1 hgb hrow hBr hcr1 hbx ho;obtain ⟨w5,hrun,ho5,hk5⟩:=iput (x:=x) (ho1.kept (Keep.drew W1) (by simp));have hgbo : g ∉ [bo]:=by simpa using hneo
        refine wp_region_lex (Kp [bo] W1) false (by kernel_rfl) (by kernel_rfl) (by kernel_rfl) (kp_drew [bo] W1) ?_;have hne:=kp_some [bo] W1;have hS:=kp_drew [bo] W1;have b1:=ksub_cell hcx hgbo;have b2:=ksub_row hrx (S:=[bo]) (by simp;omega);repeat (refine wpLx_loose ?_ ?_;(focus (simp only [chainOp];done));intro K hK;go_simp;refine hK _ ?_;clear hK K)
        refine wpLx_chain ?_ ?_ ?_;(focus (exact hS));(focus (simp only [chainOp];done));intro K hK;go_simp;refine step_keep (kp_next hS hk5 (by simp)) (fun hS=>?_);refine hK _ _ ?_;clear hK K;refine wpLx_nil ?_;intro hS;have hS' : Keep [bo] W1 w5:=hS;have hkn : Keep [bo] w4 w5:=Keep.trans hkx hS' (fun x hx=>.inl hx);have ho6 : IdSet w5 bo (G.take (k + 1)):=SetAt.congr ho5 (fun y=>by rw [Htk.out,List.mem_append,List.mem_singleton,List.mem_cons];exact Or.comm);clear b1 b2 hne hS hk5 hrun hcx hrx ho5 hS' ho1;(go_wp2_with fail);go_roundw
        case rel=>exact ⟨k + 1,by omega,by go_num,ho6,hkn⟩
        case measure=>simp [intOf];omega
      · have e2 : G.take k = G:=List.take_of_length_le (by omega);rw [e2] at ho;have hAr:=hA4.kept hkr (fun x hx=>by have:=hA2 x hx;simp;omega);have hl1:=hM.live.kept hkr (by simpa using hlo);have hblk:=(hkr.block g hgl4 (by simpa using hneo)).trans hM.blk;have hrr:=hr4.kept hkr (by simp;omega);have hbr : Below gr w wr:=hb04.trans (hkr.below (B:=gr) (by have:=hb04.size;have:=Hgr.out;omega) (by simp;omega));clear e2 hcr1 hA4 hM hr4 hb04;(go_wp2_with fail);refine (rd_end _ gr l2 0 hrr).mono ?_;rintro e w6 ⟨rfl,hb6⟩;have hB6:=hBr.below hb6;have hA6:=hAr.below hb6;have ho6:=SetAt.below ho hb6;have hl6:=SetAt.below hl1 hb6;have hblk6:=(hb6.block g (Array.getElem?_eq_some_iff.1 hblk).1).trans hblk;have hb06 : Below gr w w6:=hbr.trans (hb6.mono (by have:=hbr.size;have:=Hgr.out;omega));clear hBr hAr ho hl1 hblk hrr hbr hb6;(go_wp2_with fail);refine (is_ids _ B _ capB G hB6.slr (by omega)).mono ?_;rintro e w7 ⟨rfl,hb7⟩;have hA7:=hA6.below hb7;have ho7:=SetAt.below ho6 hb7;have hl7:=SetAt.below hl6 hb7;have hblk7:=(hb7.block g (Array.getElem?_eq_some_iff.1 hblk6).1).trans hblk6;have hb07 : Below gr w w7:=hb06.trans (hb7.mono (by have:=hb06.size;have:=Hgr.out;omega));clear hB6 hA6 ho6 hl6 hblk6 hb06 hb7 hB4;obtain ⟨rb,hrb⟩ : ∃ rb,risI G = rb:=⟨_,rfl⟩
        obtain ⟨E0,hE0⟩ : ∃ E0,endE l2 0 = E0:=⟨_,rfl⟩
        rw [hrb,hE0];have Hrb:=Lib.hid hrb;have HE0:=Lib.hid hE0;have hEE : E0 = 0 ∨ E0 = 4:=by rw [← hE0];unfold endE;rw [if_pos rfl];split <;> simp
        have HEE:=Lib.hid hEE;clear hrb hE0 hEE
        go_upto_if 42 with (fail)
        go_cut [10] (fun v wx=>wx = w7 ∧ ∃ e0 : Int,v = .int .i64 e0 ∧ Hid (e0 = 0 ∨ e0 = 4) ∧ Hid (e0 = 0 ↔ (endE l2 0 = 0 ∧ risI G = true)))
        case first =>
          cases rb with
          | true =>
            go_wp2_with fail
            go_meet
            exact ⟨rfl,E0,rfl,HEE,(show _ ↔ _ by rw [HE0.out,Hrb.out];simp)⟩
          | false =>
            go_wp2_with fail
            go_meet
            exact ⟨rfl,4,rfl,(show _ ∨ _ from .inr rfl),(show _ ↔ _ by rw [Hrb.out];simp)⟩
        case rest =>
        obtain ⟨hwx,e0,rfl,He4,Hgood⟩:=hcut;have hwx':=hwx.symm;subst hwx';have hgl7:=(Array.getElem?_eq_some_iff.1 hblk7).1;have hA7b : ∀ x ∈ blk A,x < w2.heap.size:=hA2;have HA7:=Lib.hid hA7;have Ho7:=Lib.hid ho7;have HA2:=Lib.hid hA2;clear hB2 hA2 hA7b HEE Hrb HE0 hA7 ho7 hkr;(go_wp2_with fail);go_loopw [10,11,12,45] (fun ev _ _ iv wr=>∃ (k : Nat) (e1 : Int),k ≤ R.length ∧ iv = .int .i64 k ∧ ev = .int .i64 e1 ∧ MSet wr bl (R.take k) ∧ Hid (e1 = 0 ∨ e1 = 4) ∧ Hid (e1 = 0 ↔ ((endE l2 0 = 0 ∧ risI G = true) ∧ Ris cmpMR (R.take k) ∧ ∀ x ∈ R.take k,x.id ∉ G)) ∧ Hid (∀ x ∈ R.take k,msmall x) ∧ Keep [bl] w7 wr) (fun _ _ _ iv _=>R.length - (intOf iv).toNat)
        case atStart=>exact ⟨0,e0,Nat.zero_le _,rfl,rfl,by simpa using hl7,He4,(show _ ↔ _ by rw [Hgood.out];simp [Ris]),(show ∀ x ∈ R.take 0,_ by simp),Keep.refl _ _⟩
        case round =>
          clear hl7;obtain ⟨k2,e1,hk2,rfl,rfl,hl,He1,Hg1,Hs1,hkr⟩:=hrel;have hbr : Below gr w wr:=hb07.trans (hkr.below (B:=gr) (by have:=hb07.size;have:=Hgr.out;omega) (by simp;omega));have hblkr:=(hkr.block g hgl7 (by simpa using hnel)).trans hblk7;have hor:=Ho7.out.kept hkr (by simpa using fun e=>hlo e.symm);by_cases hlt2 : k2 < R.length
          · have hAr:=(HA7.out.kept hkr (fun x hx=>by have:=HA2.out x hx;simp;omega)).slr;obtain ⟨q,o,rfl,hrow⟩:=SlR.at_ hAr hlt2;rw [List.getElem_map] at hrow;have htk : R.take (k2 + 1) = R.take k2 ++ [R[k2]'hlt2]:=by rw [List.take_add_one,List.getElem?_eq_getElem hlt2];rfl
            have Htk:=Lib.hid htk;have Hprev : Hid (∀ (h1 : 0 < k2),rowAt wr q (o + (k2 - 1) * 34) 34 = some (mRowC (R[k2 - 1]'(by omega)))):=by
              intro h1;obtain ⟨q',o',e',hrow'⟩:=SlR.at_ hAr (show k2 - 1 < R.length by omega);injection e' with e';injection e' with e1' e2'
              subst e1';subst e2'
              rwa [List.getElem_map] at hrow'
            obtain ⟨x,hx⟩ : ∃ x,R[k2]'hlt2 = x:=⟨_,rfl⟩
            rw [hx] at hrow;have Hx:=Lib.hid hx;have hbx : Below wr.heap.size wr (wr.alloc (.cells (mRowC x) 184)):=(Below.refl _ _).alloc (Nat.le_refl _) _;have hrx : rowAt (wr.alloc (.cells (mRowC x) 184)) wr.heap.size 0 34 = some (mRowC x):=by simp [go_sem]
            clear hx htk hAr;by_cases hsm : msmall x
            · obtain ⟨hs1,hs2⟩:=id hsm;have Hsm:=Lib.hid hsm;clear hsm;go_upto_region 17 with fail
              obtain ⟨gb,hgb⟩ : ∃ gb,wr.heap.size = gb:=⟨_,rfl⟩
              obtain ⟨W1,hW1⟩ : ∃ W1,W1 = wr.alloc (.cells (mRowC x) 184):=⟨_,rfl⟩
              have hl1:=SetAt.below hl hbx;have ho1:=SetAt.below hor hbx;have hblk1:=(hbx.block g (Array.getElem?_eq_some_iff.1 hblkr).1).trans hblkr;have hkx : Keep [bl] w7 (wr.alloc (.cells (mRowC x) 184)):=Keep.trans hkr (Keep.of_below hbx) (by simp);have hbll : bl < wr.heap.size:=hl.lt;have Hprev1 : Hid (∀ (h1 : 0 < k2),rowAt (wr.alloc (.cells (mRowC x) 184)) q (o + (k2 - 1) * 34) 34 = some (mRowC (R[k2 - 1]'(by omega)))):=fun h1=>(rowAt_of_block (hbx.block q (rowAt_lt (Hprev.out h1))) _ _).trans (Hprev.out h1);rw [← hW1] at hl1 ho1 hblk1 hkx hrx Hprev1 ⊢;rw [hgb] at hrx hbll ⊢;clear hW1 hgb hbx hl hor hblkr hkr Hprev hrow hbr;have x1:=rowAt_cell hrx (j:=32) (by omega);have x2:=rowAt_cell hrx (j:=33) (by omega);rw [mRowC_g32,Nat.zero_add] at x1;rw [mRowC_g33,Nat.zero_add] at x2;go_upto_region 19 with fail
              go_cut [80] (fun v wx=>∃ bb : Bool,v = .bool bb ∧ Hid (bb = true ↔ ((∃ h1 : 0 < k2,0 ≤ cmpMR (R[k2 - 1]'(by omega)) x) ∨ x.id ∈ G)) ∧ Below W1.heap.size W1 wx)
              case first =>
                have hc1 : W1.cell? ⟨g,1,none⟩ = some (.map (some bo)):=by rw [cell_of_row W1 g 1 _ _ _ hblk1];rfl
                have hlk : ∀ z : Subtype (Bel W1),(Instr.lookup 75 (.map (some bo)) (.agg (idC x.id)) false).run Tryz.prog z.1 = .ok (.bool (decide (x.id ∈ G))) z.1:=fun z=>ilook (SetAt.below ho1 z.2);have hr2x : rowAt W1 gb 0 32 = some (idC x.id):=by have:=rowAt_sub hrx (j:=0) (m:=32) (by omega);rwa [mRowC_e0] at this
                obtain ⟨hb,hhb⟩ : ∃ hb,decide (x.id ∈ G) = hb:=⟨_,rfl⟩
                rw [hhb] at hlk;have Hhb:=Lib.hid hhb;clear hhb;by_cases hk0 : 0 < k2
                · have hkp : k2 - 1 < R.length:=by omega
                  obtain ⟨y,hy⟩ : ∃ y,R[k2 - 1]'hkp = y:=⟨_,rfl⟩
                  have Hy:=Lib.hid hy;have hrp:=Hprev1.out hk0;rw [hy] at hrp;obtain ⟨k1,hk1⟩ : ∃ k1,k2 - 1 = k1:=⟨_,rfl⟩
                  have hkk : ((k2 : Int) - 1) = (k1 : Int):=by omega
                  have hwr : IntKind.i64.wrap (k1 : Int) = (k1 : Int):=IntWalk.i64_in _ (by omega);have hgt : decide (0 < k2) = true:=by simp;omega
                  rw [hk1] at hrp;have hk1R : k1 < R.length:=by omega
                  have co:=(morder y x W1.drew).mono (R':=fun e w'=>e = .returned (.int .i64 (cmpMR y x)) ∧ Below W1.drew.heap.size W1.drew w') (fun e w' h=>⟨h.1,h.2.below⟩);obtain ⟨c,hc⟩ : ∃ c,cmpMR y x = c:=⟨_,rfl⟩
                  rw [hc] at co;have Hc:=Lib.hid hc;have Hk0:=Lib.hid hk0;clear hy hc hk0 hk1;by_cases hc0 : c < 0
                  · have hge : decide (0 ≤ c) = false:=by simp;omega
                    have Hc0:=Lib.hid hc0;clear hc0;refine wp_region_lex (Bel W1) false (by kernel_rfl) (by kernel_rfl) (by kernel_rfl) (bel_drew W1) ?_;have hne:=bel_some W1;have hS:=bel_drew W1;have b1:=sub_row hrp;have b2:=sub_row hrx;have b3:=sub_cell hc1;have b4:=sub_row hr2x;repeat (refine wpLx_loose ?_ ?_;(focus (simp only [chainOp];done));intro K hK;go_simp;refine hK _ ?_;clear hK K)
                    refine wpLx_chain ?_ ?_ ?_;(focus (exact hS));(focus (simp only [chainOp];done));intro K hK;go_simp;refine (co).mono ?_;rintro e w' ⟨rfl,hb⟩;replace hS:=bel_next hS hb;refine ⟨_,rfl,hS,hK _ _ ?_⟩;clear hK K hb;repeat (refine wpLx_loose ?_ ?_;(focus (simp only [chainOp];done));intro K hK;go_simp;refine hK _ ?_;clear hK K)
                    refine wpLx_nil ?_;intro hS;go_wp2_with fail
                    go_meet
                    exact ⟨hb,rfl,(show _ ↔ _ by rw [← Hhb.out,decide_eq_true_iff];exact ⟨.inr,fun h=>h.elim (fun ⟨_,h2⟩=>by have h3:=Hc0.out;rw [← Hc.out,← Hy.out] at h3;omega) id⟩),hS⟩
                  · have hge : decide (0 ≤ c) = true:=by simp;omega
                    have Hc0:=Lib.hid hc0;have Hkp:=Lib.hid Hk0.out;clear hc0 hlk;refine wp_region_lex (Bel W1) false (by kernel_rfl) (by kernel_rfl) (by kernel_rfl) (bel_drew W1) ?_;have hne:=bel_some W1;have hS:=bel_drew W1;have b1:=sub_row hrp;have b2:=sub_row hrx;have b3:=sub_cell hc1;have b4:=sub_row hr2x;repeat (refine wpLx_loose ?_ ?_;(focus (simp only [chainOp];done));intro K hK;go_simp;refine hK _ ?_;clear hK K)
                    refine wpLx_chain ?_ ?_ ?_;(focus (exact hS));(focus (simp only [chainOp];done));intro K hK;go_simp;refine (co).mono ?_;rintro e w' ⟨rfl,hb⟩;replace hS:=bel_next hS hb;refine ⟨_,rfl,hS,hK _ _ ?_⟩;clear hK K hb;repeat (refine wpLx_loose ?_ ?_;(focus (simp only [chainOp];done));intro K hK;go_simp;refine hK _ ?_;clear hK K)
                    refine wpLx_nil ?_;intro hS;go_wp2_with fail
                    go_meet
                    exact ⟨true,rfl,(show _ ↔ _ from ⟨fun _=>.inl ⟨Hkp.out,by rw [Hy.out,Hc.out];have:=Hc0.out;omega⟩,fun _=>rfl⟩),hS⟩
                · have hgt : decide (0 < k2) = false:=by simp;omega
                  have Hk0:=Lib.hid hk0;clear hk0;refine wp_region_lex (Bel W1) false (by kernel_rfl) (by kernel_rfl) (by kernel_rfl) (bel_drew W1) ?_;have hne:=bel_some W1;have hS:=bel_drew W1;have b2:=sub_row hrx;have b3:=sub_cell hc1;have b4:=sub_row hr2x;repeat (refine wpLx_loose ?_ ?_;(focus (simp only [chainOp];done));intro K hK;go_simp;refine hK _ ?_;clear hK K)
                  refine wpLx_chain ?_ ?_ ?_;(focus (exact hS));(focus (simp only [chainOp];done));intro K hK;go_simp;refine hK _ _ ?_;clear hK K;repeat (refine wpLx_loose ?_ ?_;(focus (simp only [chainOp];done));intro K hK;go_simp;refine hK _ ?_;clear hK K)
                  refine wpLx_nil ?_;intro hS;go_wp2_with fail
                  go_meet
                  exact ⟨hb,rfl,(show _ ↔ _ by rw [← Hhb.out,decide_eq_true_iff];exact ⟨.inr,fun h=>h.elim (fun ⟨h1,_⟩=>absurd h1 Hk0.out) id⟩),hS⟩
              case rest =>
              obtain ⟨bb,rfl,Hbb,hbz⟩:=hcut;obtain ⟨wz,rfl⟩ : ∃ wz,wz = wc:=⟨wc,rfl⟩
              have hl2:=SetAt.below hl1 hbz;have ho2:=SetAt.below ho1 hbz;have hblk2:=(hbz.block g (Array.getElem?_eq_some_iff.1 hblk1).1).trans hblk1;have hrx2 : rowAt wz gb 0 34 = some (mRowC x):=(rowAt_of_block (hbz.block gb (rowAt_lt hrx)) _ _).trans hrx;have hkz : Keep [bl] w7 wz:=Keep.trans hkx (Keep.of_below hbz) (by simp);have Hnew : Hid ((if bb = true then (4 : Int) else e1) = 0 ↔ ((endE l2 0 = 0 ∧ risI G = true) ∧ Ris cmpMR (R.take (k2 + 1)) ∧ ∀ y ∈ R.take (k2 + 1),y.id ∉ G)):=by
                show _ ↔ _;have hris : Ris cmpMR (R.take (k2 + 1)) ↔ Ris cmpMR (R.take k2) ∧ ∀ h1 : 0 < k2,cmpMR (R[k2 - 1]'(by omega)) x < 0:=by
                  rcases Nat.eq_zero_or_pos k2 with h1 | h1
                  · subst h1;exact ⟨fun _=>⟨by simp [Ris],fun h=>absurd h (by omega)⟩,fun _=>ris_one R (by omega)⟩
                  · obtain ⟨j,rfl⟩ : ∃ j,k2 = j + 1:=⟨k2 - 1,by omega⟩
                    have h2:=ris_next totMR R j hlt2;rw [Hx.out] at h2;exact h2.trans ⟨fun h=>⟨h.1,fun _=>h.2⟩,fun h=>⟨h.1,h.2 h1⟩⟩
                rw [hris,Htk.out,Hx.out];cases bb with
                | true =>
                  have hbad:=Hbb.out.1 rfl;simp only [if_true];refine ⟨fun h=>by omega,fun h=>?_⟩;rcases hbad with ⟨h1,h2⟩ | h1
                  · have:=h.2.1.2 h1;omega
                  · exact absurd h1 (h.2.2 x (by simp))
                | false =>
                  have hgood : ¬ ((∃ h1 : 0 < k2,0 ≤ cmpMR (R[k2 - 1]'(by omega)) x) ∨ x.id ∈ G):=fun h=>(by have:=Hbb.out.2 h;cases this);rw [if_neg (by simp),Hg1.out];constructor
                  · rintro ⟨a1,a2,a3⟩;refine ⟨a1,⟨a2,fun h1=>Classical.byContradiction fun hn=>hgood (.inl ⟨h1,by omega⟩)⟩,fun y hy=>?_⟩;rcases List.mem_append.1 hy with hy | hy
                    · exact a3 y hy
                    · rw [List.mem_singleton] at hy;rw [hy];exact fun h=>hgood (.inr h)
                  · rintro ⟨a1,a2,a3⟩;exact ⟨a1,a2.1,fun y hy=>a3 y (List.mem_append_left _ hy)⟩
              have Hnew4 : Hid ((if bb = true then (4 : Int) else e1) = 0 ∨ (if bb = true then (4 : Int) else e1) = 4):=by
                show _ ∨ _;cases bb with
                | true=>exact .inr rfl
                | false=>exact He1.out
              have Hs2 : Hid (∀ y ∈ R.take (k2 + 1),msmall y):=by
                show ∀ y ∈ R.take (k2 + 1),msmall y;intro y hy;rw [Htk.out] at hy;rcases List.mem_append.1 hy with hy | hy
                · exact Hs1.out y hy
                · rw [List.mem_singleton] at hy;rw [hy,Hx.out];exact Hsm.out
              obtain ⟨e3,he3⟩ : ∃ e3,(if bb = true then (4 : Int) else e1) = e3:=⟨_,rfl⟩
              rw [he3] at Hnew Hnew4;have He3:=Lib.hid he3;clear he3 Hbb hbz hl1 ho1 hblk1 hkx hrx Hprev1 He1 Hg1 Hs1 x1 x2 ho2
              go_upto_if 80 with (fail)
              go_cut [10] (fun v wy=>wy = wz ∧ v = .int .i64 e3)
              case first =>
                cases bb with
                | true =>
                  go_wp2_with fail
                  go_meet
                  exact ⟨rfl,by rw [← He3.out];rfl⟩
                | false =>
                  go_wp2_with fail
                  go_meet
                  exact ⟨rfl,by rw [← He3.out];rfl⟩
              case rest =>
              obtain ⟨hwy,rfl⟩:=hcut;have hwy':=hwy.symm;subst hwy';have hc0 : wz.cell? ⟨g,0,none⟩ = some (.map (some bl)):=by rw [cell_of_row wz g 0 _ _ _ hblk2];rfl
              obtain ⟨w5,hrun,hl5,hk5⟩:=mput (x:=x) (hl2.kept (Keep.drew wz) (by simp)) Hsm.out;go_upto_region 21 with fail
              have hgbl : g ∉ [bl]:=by simpa using hnel
              refine wp_region_lex (Kp [bl] wz) false (by kernel_rfl) (by kernel_rfl) (by kernel_rfl) (kp_drew [bl] wz) ?_;have hne:=kp_some [bl] wz;have hS:=kp_drew [bl] wz;have b1:=ksub_cell hc0 hgbl;have b2:=ksub_row hrx2 (S:=[bl]) (by simp;omega);repeat (refine wpLx_loose ?_ ?_;(focus (simp only [chainOp];done));intro K hK;go_simp;refine hK _ ?_;clear hK K)
              refine wpLx_chain ?_ ?_ ?_;(focus (exact hS));(focus (simp only [chainOp];done));intro K hK;go_simp;refine step_keep (kp_next hS hk5 (by simp)) (fun hS=>?_);refine hK _ _ ?_;clear hK K;refine wpLx_nil ?_;intro hS;have hS' : Keep [bl] wz w5:=hS;have hl6 : MSet w5 bl (R.take (k2 + 1)):=SetAt.congr hl5 (fun y=>by rw [Htk.out,Hx.out,List.mem_append,List.mem_singleton,List.mem_cons];exact Or.comm);have hkn : Keep [bl] w7 w5:=Keep.trans hkz hS' (fun x hx=>.inl hx);clear b1 b2 hne hS hk5 hrun hc0 hl5 hS' hl2 hblk2 hrx2 hkz;(go_wp2_with fail);go_roundw
              case rel=>exact ⟨k2 + 1,e3,by omega,by go_num,rfl,hl6,Hnew4,Hnew,Hs2,hkn⟩
              case measure=>simp [intOf];omega
            · have Hsm:=Lib.hid hsm;have HLong : Hid (LongM R):=(show ∃ x ∈ R,¬ msmall x from ⟨x,by rw [← Hx.out];exact List.getElem_mem _,hsm⟩)
              have hL3:=(HLM.out 3).2 (.inr (.inl ⟨by simp,HLong.out,rfl⟩));have HL3:=Lib.hid hL3;have hbx' : Below gr w (wr.alloc (.cells (mRowC x) 184)):=hbr.trans (hbx.mono (by have:=hbr.size;have:=Hgr.out;omega));have Hbx:=Lib.hid hbx';clear hL3 hbx' hl hor hblkr hkr hbr Hprev;by_cases h16 : 16 < x.key.size
              · clear hsm;(go_wp2_with fail);go_ret2;exact ⟨none,3,rfl,HL3.out,fun h=>by omega,fun _=>rfl,by rw [Hgr.out];exact Hbx.out⟩
              · have h17 : 16 < x.val.size:=by unfold msmall at hsm;omega
                clear hsm;(go_wp2_with fail);go_ret2;exact ⟨none,3,rfl,HL3.out,fun h=>by omega,fun _=>rfl,by rw [Hgr.out];exact Hbx.out⟩
          · have e2 : R.take k2 = R:=List.take_of_length_le (by omega);rw [e2] at hl;have hg1:=Hg1.out;have hs1:=Hs1.out;rw [e2] at hg1 hs1;have hnl : ¬ LongM R:=fun ⟨x,hx,hn⟩=>hn (hs1 x hx);have Hnl:=Lib.hid hnl;have Hg2:=Lib.hid hg1;have Hs2:=Lib.hid hs1;have HBr:=Lib.hid hbr;clear hg1 hs1 hnl e2 hbr;rcases He1.out with h4 | h4
            · subst h4;have hok:=Hg2.out.1 rfl;have hL:=(HLM.out 0).2 (.inr (.inr ⟨by simp,Hnl.out,.inl ⟨⟨hok.1.1,hok.1.2,hok.2.1,hok.2.2⟩,rfl⟩⟩));have hfin : MultiAt wr g bl bo R G:=⟨hblkr,hl,hor,hlo,hok.2.1,(risI_ok G).1 hok.1.2,Hs2.out,hok.2.2⟩
              have HL:=Lib.hid hL;have Hfin:=Lib.hid hfin;clear hL hfin hok hl hor hblkr hkr;(go_wp2_with fail);go_ret2;exact ⟨_,0,rfl,HL.out,fun _=>⟨g,rfl,bl,bo,by rw [HR.out,HG.out];exact Hfin.out,by have:=Hgr.out;omega,by have:=Hgr.out;omega,by have:=Hgr.out;omega⟩,fun h=>absurd rfl h,by rw [Hgr.out];exact HBr.out⟩
            · subst h4;have hL:=(HLM.out 4).2 (.inr (.inr ⟨by simp,Hnl.out,.inr ⟨fun h=>by have:=Hg2.out.2 ⟨⟨h.1,h.2.1⟩,h.2.2.1,h.2.2.2⟩;omega,rfl⟩⟩));have HL:=Lib.hid hL;clear hL hl hor hblkr hkr;(go_wp2_with fail);go_ret2;exact ⟨none,4,rfl,HL.out,fun h=>by omega,fun _=>rfl,by rw [Hgr.out];exact HBr.out⟩
  · have hb : (e2 != 0) = true:=by simpa using h0
    have hL:=(HLM.out e2).2 (.inl ⟨h0,rfl⟩);have HL:=Lib.hid hL;have H0:=Lib.hid h0;clear hA hB hft hL h0;(go_wp2_with fail);refine (rd_err _ gr l2 e2 hr2).mono ?_;rintro e w4 ⟨rfl,rfl⟩;(go_wp2_with fail);go_ret2;exact ⟨none,e2,rfl,HL.out,fun h=>absurd h H0.out,fun _=>rfl,by rw [Hgr.out];exact hb2⟩
end
section
open Go.RowKit
def GoodS (l : List UInt8) : Prop:=(partSG l).e = 0 ∧ (partSG l).l = [] ∧ risI (partSG l).rows = true ∧ Ris cmpM (partSA l).rows ∧ (∀ x ∈ (partSA l).rows,nodeE x = 0) ∧ OneId (partSA l).rows
theorem nodeE_fit {x : NodeV} (h : nodeE x = 0) : 0 ≤ x.h ∧ x.h < 4294967296 ∧ x.val.size ≤ 255:=by
  unfold nodeE at h;split at h
  · cases h
  · split at h
    · cases h
    · omega
theorem putS_load {N : List NodeV} {G : List Id32} (hN : ∀ x ∈ N,nodeE x = 0) (h1 : OneId N) (rG : Ris cmpId G) (nN : N.length < 4294967296) (nG : G.length < 4294967296) :
    GoodS (putSB N G) ∧ (partSA (putSB N G)).rows = sortN N ∧ (partSG (putSB N G)).rows = G:=by
  have hs : (sortN N).length ≤ N.length:=sortN_length N;have a1 : partSA (putSB N G) = ⟨sortN N,idsB G,0⟩:=readG_put nLaw (idsB G) (fun x hx=>nodeE_fit (hN x (mem_sortN.1 hx))) (by omega);have a2 : partSG (putSB N G) = ⟨G,[],0⟩:=by
    unfold partSG;rw [a1];have h3:=readG_put idLaw (X:=G) [] (fun _ _=>trivial) nG;rw [List.append_nil] at h3;exact h3
  refine ⟨⟨by rw [a2],by rw [a2],by rw [a2];exact (risI_ok G).2 rG,by rw [a1];exact ris_sortC totM _,by rw [a1];exact fun x hx=>hN x (mem_sortN.1 hx),by rw [a1];exact fun a ha b hb=>h1 a (mem_sortN.1 ha) b (mem_sortN.1 hb)⟩,by rw [a1],by rw [a2]⟩
theorem SeqAt.gone_new {w w' : World} {M : List Nat} {g bn bb bg : Nat} {N : List NodeV} {G G' : List Id32} (h : SeqAt w M g bn bb bg N G) (hk : Keep [bg] w w') (hG : IdSet w' bg G') : SeqAt w' M g bn bb bg N G':=by
  obtain ⟨es,clk,hn⟩:=h.nodes;obtain ⟨BM,es',clk',hb,hsl,hno⟩:=h.behind;refine ⟨(hk.block g h.ltg (by simpa using h.neg.2.2)).trans h.blk,⟨es,clk,hn.kept hk (by simpa using h.ne.2.1)⟩,⟨BM,es',clk',hb.kept hk (by simpa using h.ne.2.2),fun p hp=>?_,hno⟩,hG,h.inM,h.ne,h.one,h.ok⟩;obtain ⟨s1,s2⟩:=hsl p hp;exact ⟨s1.kept hk (fun x hx hm=>by rw [List.mem_singleton] at hm;subst hm;exact (s2 x hx).1 h.inM.2.2),fun x hx=>⟨(s2 x hx).1,Nat.lt_of_lt_of_le (s2 x hx).2 hk.size⟩⟩
theorem ris_ids {N : List NodeV} (h : Ris cmpM N) (h1 : OneId N) {i j : Nat} (hj : j < N.length) (hi : i < j) : cmpId (N[i]'(by omega)).id (N[j]'hj).id < 0:=by
  have h2 : cmpM (N[i]'(by omega)) (N[j]'hj) < 0:=List.pairwise_iff_getElem.1 h i j (by omega) hj hi;have hne : (N[i]'(by omega)).id ≠ (N[j]'hj).id:=fun e=>by
    have:=h1 _ (List.getElem_mem (by omega)) _ (List.getElem_mem hj) e;rw [this,(totM.zero _ _).2 rfl] at h2;omega
  have h3 : cmpId (N[i]'(by omega)).id (N[j]'hj).id ≠ 0:=fun e=>hne ((cmpId_zero _ _).1 e);unfold cmpM orC at h2
  rwa [if_neg h3] at h2
set_option maxRecDepth 100000 in
set_option maxHeartbeats 4000000 in
theorem sqload_ok (w : World) (s : ByteArray) (hs : s.size ≤ 90000) (hgood : GoodS s.data.toList) (M0 : List Nat) (hM0 : ∀ x ∈ M0,x < w.heap.size) :
    Calls Tryz.prog 174 #[.string s] w fun e w'=>∃ g bn bb bg,e = .returned (.tuple #[.pointer (some ⟨g,0,none⟩),.int .i64 0]) ∧ SeqAt w' (M0 ++ [g,bn,bb,bg]) g bn bb bg (partSA s.data.toList).rows (partSG s.data.toList).rows ∧ w.heap.size ≤ g ∧ w.heap.size ≤ bn ∧ w.heap.size ≤ bb ∧ w.heap.size ≤ bg ∧ Below w.heap.size w w':=by
  obtain ⟨l,hl⟩ : ∃ l,s.data.toList = l:=⟨_,rfl⟩
  have hll : l.length ≤ 90000:=by rw [← hl];exact hs
  have c0:=rd_open s w (by omega);rw [hl] at c0 hgood ⊢;clear hl;go_enter Tryz.func174,Tryz.ntmps174
  (go_wp2_with fail);refine c0.mono ?_;rintro e w1 ⟨rfl,hr1,hb1⟩;obtain ⟨gr,hgr⟩ : ∃ gr,w.heap.size = gr:=⟨_,rfl⟩
  have Hgr:=Lib.hid hgr;rw [hgr] at hr1 hb1 hM0 ⊢;clear hgr c0;(go_wp2_with fail);refine (sqread w1 gr l hr1).mono ?_;rintro e w2 ⟨A,cap,B,capB,rfl,hA,hB,hr2,hk2,hft⟩;have hb2 : Below gr w w2:=hb1.trans (hk2.below (by have:=hr1.lt;omega) (by simp));have hgl:=hr1.lt;have hsz1:=hb1.size;obtain ⟨R,hR⟩ : ∃ R,(partSA l).rows = R:=⟨_,rfl⟩
  obtain ⟨G,hG⟩ : ∃ G,(partSG l).rows = G:=⟨_,rfl⟩
  obtain ⟨g1,g2,g3,g4,g5,g6⟩:=hgood;have hbnd : R.length ≤ 90000 ∧ G.length ≤ 90000:=by
    obtain ⟨h4,_⟩:=readG_split idLaw (show (readG idP (partSA l).l (partSA l).e).e = 0 from g1);have h5:=readG_bound idLaw (show (readG idP (partSA l).l (partSA l).e).e = 0 from g1);have h6:=readG_bound nLaw (show (readG nP l 0).e = 0 from h4);have h7 : (partSG l).rows.length + (partSG l).l.length ≤ (partSA l).l.length:=h5;have h8 : (partSA l).rows.length + (partSA l).l.length ≤ l.length:=h6;rw [hR] at h8;rw [hG] at h7;omega
  obtain ⟨hnR,hnG⟩:=hbnd;have hRG : (Value.tuple #[.slice A (partSA l).rows.length cap,.slice B (partSG l).rows.length capB]) = .tuple #[.slice A R.length cap,.slice B G.length capB]:=by rw [hR,hG]
  rw [hRG];rw [hR] at hA hft g4 g5 g6;rw [hG] at hB g3;rw [g1,g2] at hr2;have HR:=Lib.hid hR;have HG:=Lib.hid hG;have Hris:=Lib.hid g4;have Hok:=Lib.hid g5;have Hone:=Lib.hid g6;have HrG:=Lib.hid g3;clear hR hG hRG hr1 hb1 hk2 g1 g2 g3 g4 g5 g6 hft;(go_wp2_with fail);refine (rd_err _ gr [] 0 hr2).mono ?_;rintro e w3 ⟨rfl,rfl⟩;(go_wp2_with fail);refine (sqnew w2).mono ?_;rintro e w4 ⟨g,bn,bb,bg,rfl,hSq,hg,hbn,hbb,hbg,hb4⟩;have hS0 : SeqAt w4 (M0 ++ [g,bn,bb,bg]) g bn bb bg [] []:=hSq _ (by simp) (by simp) (by simp);have hA4:=hA.below hb4;have hB4:=hB.below hb4;have hA2 : ∀ x ∈ blk A,x < w2.heap.size:=fun x hx=>(hA.at_base hx).2;have hB2 : ∀ x ∈ blk B,x < w2.heap.size:=fun x hx=>(hB.at_base hx).2;have hr4:=hr2.below hb4;have hg2:=hr2.lt;have hb04 : Below gr w w4:=hb2.trans (hb4.mono (by omega));have hM4 : ∀ x ∈ M0 ++ [g,bn,bb,bg],x < w4.heap.size:=fun x hx=>by
    obtain ⟨es,clk,hn⟩:=hS0.nodes;obtain ⟨BM,es',clk',hbh,_⟩:=hS0.behind;rcases List.mem_append.1 hx with hx | hx
    · have:=hM0 x hx;have:=hb04.size;have:=Hgr.out;omega
    · have k1:=hS0.ltg;have k2:=hn.lt;have k3:=hbh.lt;have k4:=hS0.gone.lt;simp at hx;rcases hx with rfl | rfl | rfl | rfl <;> omega
  have hMw : ∀ x ∈ [bn,bb],gr ≤ x:=by intro x hx;simp at hx;omega
  clear hA hB hr2 hb2 hSq;(go_wp2_with fail);refine (rd_end _ gr [] 0 hr4).mono ?_;rintro e w5 ⟨rfl,hb5⟩;have hS5:=hS0.below hb5;have hA5:=hA4.below hb5;have hB5:=hB4.below hb5;have hb05 : Below gr w w5:=hb04.trans (hb5.mono (by have:=hb04.size;have:=Hgr.out;omega));have hM5 : ∀ x ∈ M0 ++ [g,bn,bb,bg],x < w5.heap.size:=fun x hx=>Nat.lt_of_lt_of_le (hM4 x hx) hb5.size;have HM5:=Lib.hid hM5;have HA5:=Lib.hid hA5;have HB5:=Lib.hid hB5;have HA2:=Lib.hid hA2;have HB2:=Lib.hid hB2;have he0 : endE [] 0 = 0:=rfl;rw [he0];clear hS0 hA4 hB4 hr4 hb04 hb4 hb5 he0 hM4 hM5 hA5 hB5 hA2 hB2 hM0;(go_wp2_with fail);go_loopw [8,9,10,11,31] (fun ev _ _ _ iv wr=>∃ k : Nat,k ≤ R.length ∧ iv = .int .i64 k ∧ ev = .int .i64 0 ∧ SeqAt wr (M0 ++ [g,bn,bb,bg]) g bn bb bg (R.take k) [] ∧ Keep [bn,bb] w5 wr) (fun _ _ _ _ iv _=>R.length - (intOf iv).toNat)
  case atStart=>exact ⟨0,Nat.zero_le _,rfl,rfl,by simpa using hS5,Keep.refl _ _⟩
  case round =>
    clear hS5;obtain ⟨k,hk,rfl,rfl,hSr,hkr⟩:=hrel;by_cases hlt : k < R.length
    · have hAr:=(HA5.out.kept hkr (fun x hx=>by have:=HA2.out x hx;simp;omega)).slr;obtain ⟨q,o,rfl,hrow⟩:=SlR.at_ hAr hlt;rw [List.getElem_map] at hrow;have htk : R.take (k + 1) = R.take k ++ [R[k]'hlt]:=by rw [List.take_add_one,List.getElem?_eq_getElem hlt];rfl
      have Htk:=Lib.hid htk;have Hprev : Hid (∀ (h1 : 0 < k),rowAt wr q (o + (k - 1) * 66) 66 = some (nnC (R[k - 1]'(by omega)))):=by
        intro h1;obtain ⟨q',o',e',hrow'⟩:=SlR.at_ hAr (show k - 1 < R.length by omega);injection e' with e';injection e' with e1' e2'
        subst e1';subst e2'
        rwa [List.getElem_map] at hrow'
      have Hlt : Hid (∀ (h1 : 0 < k),cmpId (R[k - 1]'(by omega)).id (R[k]'hlt).id < 0):=fun h1=>ris_ids Hris.out Hone.out hlt (by omega);have hnew : (R[k]'hlt).id ∉ (R.take k).map NodeV.id:=fun hm=>by
        obtain ⟨a,ha,e⟩:=List.mem_map.1 hm;obtain ⟨j,hj,rfl⟩:=List.getElem_of_mem ha;have hj' : j < k:=by simp at hj;omega
        rw [List.getElem_take] at e;have:=ris_ids Hris.out Hone.out hlt hj';rw [e,(cmpId_zero _ _).2 rfl] at this;omega
      have hE:=Hok.out _ (List.getElem_mem hlt);obtain ⟨x,hx⟩ : ∃ x,R[k]'hlt = x:=⟨_,rfl⟩
      rw [hx] at hrow hnew hE;have Hx:=Lib.hid hx;have hbx : Below wr.heap.size wr (wr.alloc (.cells (nnC x) 319)):=(Below.refl _ _).alloc (Nat.le_refl _) _;have hrx : rowAt (wr.alloc (.cells (nnC x) 319)) wr.heap.size 0 66 = some (nnC x):=by simp [go_sem]
      have hS1:=hSr.below hbx;have hkx : Keep [bn,bb] w5 (wr.alloc (.cells (nnC x) 319)):=Keep.trans hkr (Keep.of_below hbx) (by simp);have hsx : wr.heap.size < (wr.alloc (.cells (nnC x) 319)).heap.size:=by simp
      clear hx htk hAr;go_upto_region 10 with fail
      obtain ⟨gb,hgb⟩ : ∃ gb,wr.heap.size = gb:=⟨_,rfl⟩
      obtain ⟨W1,hW1⟩ : ∃ W1,W1 = wr.alloc (.cells (nnC x) 319):=⟨_,rfl⟩
      have Hprev1 : Hid (∀ (h1 : 0 < k),rowAt (wr.alloc (.cells (nnC x) 319)) q (o + (k - 1) * 66) 66 = some (nnC (R[k - 1]'(by omega)))):=fun h1=>(rowAt_of_block (hbx.block q (rowAt_lt (Hprev.out h1))) _ _).trans (Hprev.out h1);rw [← hW1] at hS1 hkx hrx hsx Hprev1 ⊢;have hbn0 : bn < wr.heap.size ∧ bb < wr.heap.size:=by
        obtain ⟨es,clk,hn⟩:=hSr.nodes;obtain ⟨BM,es',clk',hbh,_⟩:=hSr.behind;exact ⟨hn.lt,hbh.lt⟩
      rw [hgb] at hrx hsx hbn0 ⊢;clear hW1 hgb hbx hSr hkr Hprev hrow;have hri : rowAt W1 gb 0 32 = some (idC x.id):=by have:=rowAt_sub hrx (j:=0) (m:=32) (by omega);rwa [nNodeC_e0] at this
      have hrn : rowAt W1 gb 32 34 = some (sNodeC (snode x)):=by have:=rowAt_sub hrx (j:=32) (m:=34) (by omega);rwa [nNodeC_e32] at this
      have cc:=sqcheck x.id x rfl W1 (by have:=(nodeE_id hE).2.1;omega);rw [hE] at cc;(go_wp2_with fail);refine cc.mono ?_;rintro e w6 ⟨rfl,hb6⟩;have hS6:=hS1.below hb6;have hri6:=(rowAt_of_block (hb6.block gb (rowAt_lt hri)) _ _).trans hri;have hrn6:=(rowAt_of_block (hb6.block gb (rowAt_lt hrn)) _ _).trans hrn;have hk6 : Keep [bn,bb] w5 w6:=Keep.trans hkx (Keep.of_below hb6) (by simp);have Hprev6 : Hid (∀ (h1 : 0 < k),rowAt w6 q (o + (k - 1) * 66) 32 = some (idC (R[k - 1]'(by omega)).id)):=fun h1=>by
        have h2:=(rowAt_of_block (hb6.block q (rowAt_lt (Hprev1.out h1))) (o + (k - 1) * 66) 66).trans (Hprev1.out h1);have h3:=rowAt_sub h2 (j:=0) (m:=32) (by omega)
        rwa [nNodeC_e0] at h3
      have hsz6:=hb6.size;clear cc hS1 hri hrn hkx Hprev1 hb6 hrx;go_upto_region 13 with fail
      go_cut [57] (fun v wx=>v = .bool false ∧ Below w6.heap.size w6 wx)
      case first =>
        by_cases hk0 : 0 < k
        · have hkp : k - 1 < R.length:=by omega
          obtain ⟨y,hy⟩ : ∃ y,R[k - 1]'hkp = y:=⟨_,rfl⟩
          have hrp:=Hprev6.out hk0;have hc0:=Hlt.out hk0;rw [hy] at hrp hc0;rw [Hx.out] at hc0;obtain ⟨k1,hk1⟩ : ∃ k1,k - 1 = k1:=⟨_,rfl⟩
          have hkk : ((k : Int) - 1) = (k1 : Int):=by omega
          have hwr : IntKind.i64.wrap (k1 : Int) = (k1 : Int):=IntWalk.i64_in _ (by omega);have hgt : decide (0 < k) = true:=by simp;omega
          rw [hk1] at hrp;have hk1R : k1 < R.length:=by omega
          have co:=cmp_id y.id x.id w6.drew;obtain ⟨c,hc⟩ : ∃ c,cmpId y.id x.id = c:=⟨_,rfl⟩
          rw [hc] at co hc0;have hge : decide (0 ≤ c) = false:=by simp;omega
          clear hy hc hk0 hk1 hc0;refine wp_region_lex (Bel w6) false (by kernel_rfl) (by kernel_rfl) (by kernel_rfl) (bel_drew w6) ?_;have hne:=bel_some w6;have hS:=bel_drew w6;have b1:=sub_row hrp;have b2:=sub_row hri6;repeat (refine wpLx_loose ?_ ?_;(focus (simp only [chainOp];done));intro K hK;go_simp;refine hK _ ?_;clear hK K)
          refine wpLx_chain ?_ ?_ ?_;(focus (exact hS));(focus (simp only [chainOp];done));intro K hK;go_simp;refine (co).mono ?_;rintro e w' ⟨rfl,hb⟩;replace hS:=bel_next hS hb;refine ⟨_,rfl,hS,hK _ _ ?_⟩;clear hK K hb;repeat (refine wpLx_loose ?_ ?_;(focus (simp only [chainOp];done));intro K hK;go_simp;refine hK _ ?_;clear hK K)
          refine wpLx_nil ?_;intro hS;go_wp2_with fail
          go_meet
          exact ⟨rfl,hS⟩
        · have hgt : decide (0 < k) = false:=by simp;omega
          clear hk0;refine wp_region_lex (Bel w6) false (by kernel_rfl) (by kernel_rfl) (by kernel_rfl) (bel_drew w6) ?_;have hne:=bel_some w6;have hS:=bel_drew w6;have b2:=sub_row hri6;repeat (refine wpLx_loose ?_ ?_;(focus (simp only [chainOp];done));intro K hK;go_simp;refine hK _ ?_;clear hK K)
          refine wpLx_chain ?_ ?_ ?_;(focus (exact hS));(focus (simp only [chainOp];done));intro K hK;go_simp;refine hK _ _ ?_;clear hK K;repeat (refine wpLx_loose ?_ ?_;(focus (simp only [chainOp];done));intro K hK;go_simp;refine hK _ ?_;clear hK K)
          refine wpLx_nil ?_;intro hS;go_wp2_with fail
          go_meet
          exact ⟨rfl,hS⟩
      case rest =>
      obtain ⟨rfl,hb7⟩:=hcut;obtain ⟨w7,rfl⟩ : ∃ w7,w7 = wc:=⟨wc,rfl⟩
      have hS7:=hS6.below hb7;have hri7:=(rowAt_of_block (hb7.block gb (rowAt_lt hri6)) _ _).trans hri6;have hrn7:=(rowAt_of_block (hb7.block gb (rowAt_lt hrn6)) _ _).trans hrn6;have hk7 : Keep [bn,bb] w5 w7:=Keep.trans hk6 (Keep.of_below hb7) (by simp);have ch:=sqhang x w7 _ g bn bb bg (R.take k) [] hS7 (fun y hy=>Nat.lt_of_lt_of_le (HM5.out y hy) hk7.size) hnew hE (by rw [List.length_take];omega);clear hS6 hri6 hrn6 hk6 hb7 Hprev6 hS7 hnew;(go_wp2_with fail);refine ch.mono ?_;rintro e w8 ⟨rfl,hS8,hk8⟩;have e1 : R.take k ++ [x] = R.take (k + 1):=by rw [Htk.out,Hx.out]
      rw [e1] at hS8;have hkn : Keep [bn,bb] w5 w8:=Keep.trans hk7 hk8 (fun y hy=>.inl hy);clear ch e1 hk7 hk8 hri7 hrn7;(go_wp2_with fail);go_roundw
      case rel=>exact ⟨k + 1,by omega,by go_num,rfl,hS8,hkn⟩
      case measure=>simp [intOf];omega
    · have e2 : R.take k = R:=List.take_of_length_le (by omega);rw [e2] at hSr;have hBr:=HB5.out.kept hkr (fun x hx=>by have:=HB2.out x hx;simp;omega);have hbr : Below gr w wr:=hb05.trans (hkr.below (B:=gr) (by have:=hb05.size;have:=Hgr.out;omega) hMw);have ci:=is_ids wr B G.length capB G hBr.slr (by omega);rw [HrG.out] at ci;clear e2;(go_wp2_with fail);refine ci.mono ?_;rintro e w6 ⟨rfl,hb6⟩;have hS6:=hSr.below hb6;have hB6:=hBr.below hb6;have hb06 : Below gr w w6:=hbr.trans (hb6.mono (by have:=hbr.size;have:=Hgr.out;omega));have hgl6:=hS6.ltg;have hgbg:=hS6.neg.2.2;clear ci hb6 hBr hbr hSr hkr;(go_wp2_with fail);go_loopw [74] (fun i wr=>∃ k : Nat,k ≤ G.length ∧ i = .int .i64 k ∧ IdSet wr bg (G.take k) ∧ Keep [bg] w6 wr) (fun i _=>G.length - (intOf i).toNat)
      case atStart=>exact ⟨0,Nat.zero_le _,rfl,hS6.gone,Keep.refl _ _⟩
      case round =>
        obtain ⟨k2,hk2,rfl,ho,hkr⟩:=hrel;have hblkr:=(hkr.block g hgl6 (by simpa using hgbg)).trans hS6.blk;have hcr2 : wr.cell? ⟨g,2,none⟩ = some (.map (some bg)):=by rw [cell_of_row wr g 2 _ _ _ hblkr];rfl
        by_cases hlt2 : k2 < G.length
        · have hBq:=hB6.kept hkr (fun x hx=>by have:=HB2.out x hx;simp;omega);obtain ⟨q,o,rfl,hrow⟩:=TagsIn.get hBq.slr hlt2 hlt2;have htk : G.take (k2 + 1) = G.take k2 ++ [G[k2]'hlt2]:=by rw [List.take_add_one,List.getElem?_eq_getElem hlt2];rfl
          obtain ⟨x,hx⟩ : ∃ x,G[k2]'hlt2 = x:=⟨_,rfl⟩
          rw [hx] at hrow htk;have Htk:=Lib.hid htk;have hbx : Below wr.heap.size wr (wr.alloc (.cells (idC x) 39)):=(Below.refl _ _).alloc (Nat.le_refl _) _;have ho1:=SetAt.below ho hbx;have hcx:=(hbx.cell (p:=⟨g,2,none⟩) (World.block_lt_of_cell? wr _ hcr2)).trans hcr2;have hrx : rowAt (wr.alloc (.cells (idC x) 39)) wr.heap.size 0 32 = some (idC x):=by simp [go_sem]
          have hkx : Keep [bg] w6 (wr.alloc (.cells (idC x) 39)):=Keep.trans hkr (Keep.of_below hbx) (by simp);have hbol : bg < wr.heap.size:=ho.lt;clear hx htk hBq;go_upto_region 22 with fail
          obtain ⟨gb,hgb⟩ : ∃ gb,wr.heap.size = gb:=⟨_,rfl⟩
          obtain ⟨W1,hW1⟩ : ∃ W1,W1 = wr.alloc (.cells (idC x) 39):=⟨_,rfl⟩
          rw [← hW1] at ho1 hcx hrx hkx ⊢;rw [hgb] at hrx hbol ⊢;clear hW1 hgb hrow hcr2 hbx ho hblkr;obtain ⟨w5',hrun,ho5,hk5⟩:=iput (x:=x) (ho1.kept (Keep.drew W1) (by simp));have hgbo : g ∉ [bg]:=by simpa using hgbg
          refine wp_region_lex (Kp [bg] W1) false (by kernel_rfl) (by kernel_rfl) (by kernel_rfl) (kp_drew [bg] W1) ?_;have hne:=kp_some [bg] W1;have hS:=kp_drew [bg] W1;have b1:=ksub_cell hcx hgbo;have b2:=ksub_row hrx (S:=[bg]) (by simp;omega);repeat (refine wpLx_loose ?_ ?_;(focus (simp only [chainOp];done));intro K hK;go_simp;refine hK _ ?_;clear hK K)
          refine wpLx_chain ?_ ?_ ?_;(focus (exact hS));(focus (simp only [chainOp];done));intro K hK;go_simp;refine step_keep (kp_next hS hk5 (by simp)) (fun hS=>?_);refine hK _ _ ?_;clear hK K;refine wpLx_nil ?_;intro hS;have hS' : Keep [bg] W1 w5':=hS;have hkn : Keep [bg] w6 w5':=Keep.trans hkx hS' (fun x hx=>.inl hx);have ho6 : IdSet w5' bg (G.take (k2 + 1)):=SetAt.congr ho5 (fun y=>by rw [Htk.out,List.mem_append,List.mem_singleton,List.mem_cons];exact Or.comm);clear b1 b2 hne hS hk5 hrun hcx hrx ho5 hS' ho1;(go_wp2_with fail);go_roundw
          case rel=>exact ⟨k2 + 1,by omega,by go_num,ho6,hkn⟩
          case measure=>simp [intOf];omega
        · have e2 : G.take k2 = G:=List.take_of_length_le (by omega);rw [e2] at ho;have hfin:=hS6.gone_new hkr ho;have hbf : Below gr w wr:=hb06.trans (hkr.below (B:=gr) (by have:=hb06.size;have:=Hgr.out;omega) (by intro x hx;simp at hx;omega));have Hfin:=Lib.hid hfin;have Hbf:=Lib.hid hbf;clear e2 ho hkr hblkr hcr2 hfin hbf;(go_wp2_with fail);go_ret2;exact ⟨g,bn,bb,bg,rfl,by rw [HR.out,HG.out];exact Hfin.out,by have:=Hgr.out;omega,by have:=Hgr.out;omega,by have:=Hgr.out;omega,by have:=Hgr.out;omega,by rw [Hgr.out];exact Hbf.out⟩
end
section
open Go.RowKit
theorem at_store (w : World) (g : Nat) (n m : Int) (h : TallyAt w g n) : (callFunc 273 #[.pointer (some ⟨g,0,none⟩),.int .i64 m]).run Tryz.prog w = .ok (.value (.tuple #[])) (w.setCell ⟨g,0,none⟩ (.int .i64 m)):=by
  have h0:=h.cell0;have hf : w.frozen? ⟨g,0,none⟩ = false:=by simp [World.frozen?,show w.heap[g]? = _ from h]
  rw [run_callFunc_extern Tryz.func273 (by kernel_rfl) (by kernel_rfl) (by kernel_rfl) (e:=Extern.Atomic.storeT) (by kernel_rfl)];have e : Extern.Atomic.storeT #[.pointer (some ⟨g,0,none⟩),.int .i64 m] = (do
    store (← asAddr (.pointer (some ⟨g,0,none⟩))) (.int .i64 m) .atomic
    pure (.tuple #[])):=rfl
  rw [e];simp [asAddr,go_sem,h0,hf]
theorem at_Store (w : World) (g : Nat) (n m : Int) (h : TallyAt w g n) : Calls Tryz.prog 224 #[.pointer (some ⟨g,0,none⟩),.int .i64 m] w fun e w'=>e = .returned (.tuple #[]) ∧ w' = w.setCell ⟨g,0,none⟩ (.int .i64 m):=by
  have hr:=at_store w g n m h;clear h;go_enter Tryz.func224,Tryz.ntmps224
  (go_wp2_with fail);go_end0;exact ⟨rfl,rfl⟩
def numT (l : List UInt8) : Int:=wrap64 ((numV 4 l 0 : Int) * 4294967296 + numV 4 (rawL 4 l 0) (rawE 4 l 0))
def loadT (l : List UInt8) : Int:=endE (rawL 4 (rawL 4 l 0) (rawE 4 l 0)) (rawE 4 (rawL 4 l 0) (rawE 4 l 0))
theorem putT_load (n : Int) (h1 : -9223372036854775808 ≤ n) (h2 : n < 9223372036854775808) : loadT (putTB n) = 0 ∧ numT (putTB n) = n:=by
  have hlt:=u64N_lt n;obtain ⟨a1,a2,a3⟩:=num_put (M:=4) (n:=u64N n / 4294967296) (by omega) (beL 4 (u64N n % 4294967296));obtain ⟨b1,b2,b3⟩:=num_put (M:=4) (n:=u64N n % 4294967296) (by omega) [];rw [List.append_nil] at b1 b2 b3;have e : putTB n = beL 4 (u64N n / 4294967296) ++ beL 4 (u64N n % 4294967296):=rfl;unfold loadT numT;rw [e,a1,a2,a3,b1,b2,b3];refine ⟨rfl,?_⟩;have h3 : ((u64N n / 4294967296 : Nat) : Int) * 4294967296 + ((u64N n % 4294967296 : Nat) : Int) = ((u64N n : Nat) : Int):=by omega
  rw [h3,u64N_cast];unfold wrap64;omega
theorem or_low (a b : Nat) (ha : a < 4294967296) (hb : b < 4294967296) : bits .or .u64 ((a * 4294967296 : Nat) : Int) (b : Int) = ((a * 4294967296 + b : Nat) : Int):=by
  rw [bits_or_u64_nat _ _ (by omega) (by omega)];have h:=Nat.two_pow_add_eq_or_of_lt (i:=32) (b:=b) (by omega) a;rw [show (2 : Nat) ^ 32 = 4294967296 from rfl,Nat.mul_comm] at h;rw [← h]
set_option maxRecDepth 100000 in
set_option maxHeartbeats 2000000 in
theorem tload (w : World) (s : ByteArray) (hs : s.size ≤ 1000000) :
    Calls Tryz.prog 170 #[.string s] w fun e w'=>∃ P,e = .returned (.tuple #[.pointer P,.int .i64 (loadT s.data.toList)]) ∧ (loadT s.data.toList = 0 → ∃ g,P = some ⟨g,0,none⟩ ∧ TallyAt w' g (numT s.data.toList) ∧ w.heap.size ≤ g) ∧ (loadT s.data.toList ≠ 0 → P = none) ∧ Below w.heap.size w w':=by
  obtain ⟨l,hl⟩ : ∃ l,s.data.toList = l:=⟨_,rfl⟩
  have c0:=rd_open s w (by omega);rw [hl] at c0 ⊢;have hT : loadT l = endE (rawL 4 (rawL 4 l 0) (rawE 4 l 0)) (rawE 4 (rawL 4 l 0) (rawE 4 l 0)):=rfl;have hNm : numT l = wrap64 ((numV 4 l 0 : Int) * 4294967296 + numV 4 (rawL 4 l 0) (rawE 4 l 0)):=rfl;obtain ⟨E,hE⟩ : ∃ E,loadT l = E:=⟨_,rfl⟩
  rw [hE] at hT ⊢;have HT:=Lib.hid hT;have HNm:=Lib.hid hNm;clear hl hE hT hNm;go_enter Tryz.func170,Tryz.ntmps170
  (go_wp2_with fail);refine c0.mono ?_;rintro e w1 ⟨rfl,hr1,hb1⟩;obtain ⟨gr,hgr⟩ : ∃ gr,w.heap.size = gr:=⟨_,rfl⟩
  have Hgr:=Lib.hid hgr;rw [hgr] at hr1 hb1 ⊢;clear hgr c0;(go_wp2_with fail);refine (rd_num4 w1 gr l 0 hr1).mono ?_;rintro e w2 ⟨rfl,hr2,hk2⟩;have ha:=numV_lt 4 l 0;obtain ⟨a,hna⟩ : ∃ a,numV 4 l 0 = a:=⟨_,rfl⟩
  have Hna:=Lib.hid hna;rw [hna] at ha ⊢;clear hna;(go_wp2_with fail);refine (rd_num4 w2 gr _ _ hr2).mono ?_;rintro e w3 ⟨rfl,hr3,hk3⟩;have hb:=numV_lt 4 (rawL 4 l 0) (rawE 4 l 0);obtain ⟨b,hnb⟩ : ∃ b,numV 4 (rawL 4 l 0) (rawE 4 l 0) = b:=⟨_,rfl⟩
  have Hnb:=Lib.hid hnb;rw [hnb] at hb ⊢;clear hnb;have hb3 : Below gr w w3:=(hb1.trans (hk2.below (by have:=hr1.lt;omega) (by simp))).trans (hk3.below (by have:=hr2.lt;omega) (by simp));have hsz3 : gr < w3.heap.size:=hr3.lt;(go_wp2_with fail);refine (rd_end w3 gr _ _ hr3).mono ?_;rintro e w4 ⟨rfl,hb4⟩;have hb04 : Below gr w w4:=hb3.trans (hb4.mono (by omega));rw [← HT.out];clear hr1 hb1 hr2 hk2 hr3 hk3 hb3 hb4;by_cases h0 : E = 0
  · subst h0;(go_wp2_with fail);refine (tnew w4).mono ?_;rintro e w5 ⟨rfl,ht5,hb5⟩;have hb05 : Below gr w w5:=hb04.trans (hb5.mono (by have:=hb04.size;have:=Hgr.out;omega));have hsz5 : gr ≤ w4.heap.size:=by have:=hb04.size;have:=Hgr.out;omega
    clear hb04 hb5;(go_wp2_with fail);have eo : bits BinOp.or IntKind.u64 ((a : Int) * 4294967296) (b : Int) = ((a * 4294967296 + b : Nat) : Int):=by
      have:=or_low a b (by omega) (by omega);rw [← this];simp
    rw [eo];have hw : wrap64 ((a * 4294967296 + b : Nat) : Int) = numT l:=by rw [HNm.out,Hna.out,Hnb.out];congr 1
    rw [hw];clear eo hw;refine (at_Store w5 w4.heap.size 0 (numT l) ht5).mono ?_;rintro e w6 ⟨rfl,rfl⟩;have hset : TallyAt (w5.setCell ⟨w4.heap.size,0,none⟩ (.int .i64 (numT l))) w4.heap.size (numT l):=by
      have h0 : w5.heap[w4.heap.size]? = _:=ht5;unfold TallyAt;rw [heap_setCell_same h0];rfl
    have hks:=Keep.setCell w5 ⟨w4.heap.size,0,none⟩ (.int .i64 (numT l));have hbf : Below gr w (w5.setCell ⟨w4.heap.size,0,none⟩ (.int .i64 (numT l))):=hb05.trans (hks.below (B:=gr) (by have:=hb05.size;have:=Hgr.out;omega) (by simp;omega));have Hset:=Lib.hid hset;have Hbf:=Lib.hid hbf;clear hset hks hbf ht5 hb05;(go_wp2_with fail);go_ret2;exact ⟨_,rfl,⟨w4.heap.size,rfl,Hset.out,by have:=Hgr.out;omega⟩,by rw [Hgr.out];exact Hbf.out⟩
  · have hb : (E != 0) = true:=by simpa using h0
    have H0:=Lib.hid h0;clear h0;(go_wp2_with fail);go_ret2;exact ⟨none,rfl,fun h=>absurd h H0.out,fun _=>rfl,by rw [Hgr.out];exact hb04⟩
end
section
open Go.RowKit
structure BRds where
  rows : List BRow
  l : List UInt8
  e : Int
def oneB (l : List UInt8) (e : Int) : BRow:=⟨idOf (rawV 32 l e),txV (rawL 32 l e) (rawE 32 l e)⟩
def oneL (l : List UInt8) (e : Int) : List UInt8:=txL (rawL 32 l e) (rawE 32 l e)
def oneE (l : List UInt8) (e : Int) : Int:=txE (rawL 32 l e) (rawE 32 l e)
def stepB (s : BRds) : BRds:=⟨s.rows ++ [oneB s.l s.e],oneL s.l s.e,oneE s.l s.e⟩
def loopB : Nat → BRds → BRds
  | 0,s=>s
  | k + 1,s=>if s.e = 0 then loopB k (stepB s) else s
def readB (l : List UInt8) (e : Int) : BRds:=loopB (numV 4 l e) ⟨[],rawL 4 l e,rawE 4 l e⟩
theorem loopB_stop (k : Nat) (s : BRds) (h : s.e ≠ 0) : loopB k s = s:=by
  cases k with
  | zero=>rfl
  | succ k=>unfold loopB;rw [if_neg h]
theorem loopB_step (k : Nat) (s : BRds) (h : s.e = 0) : loopB (k + 1) s = loopB k (stepB s):=by rw [loopB,if_pos h]
def Fits (R : List BRow) : Prop:=∀ x ∈ R,x.val.size ≤ 255
theorem fits_step {R : List BRow} (h : Fits R) (l : List UInt8) (e : Int) : Fits (R ++ [oneB l e]):=fun x hx=>by
  rcases List.mem_append.1 hx with h' | h'
  · exact h x h'
  · simp at h';subst h';exact txV_size _ _
def longB (R : List BRow) : Bool:=R.any fun x=>decide (16 < x.val.size)
def risB : List BRow → Bool
  | []=>true
  | [_]=>true
  | x :: y :: l=>decide (cmpRow x y < 0) && risB (y :: l)
def bothB (A G : List BRow) : Bool:=A.any fun x=>decide (x ∈ G)
def partA (l : List UInt8) : BRds:=readB l 0
def partG (l : List UInt8) : BRds:=readB (partA l).l (partA l).e
def loadB (l : List UInt8) : Int :=
  if (partG l).e ≠ 0 then (partG l).e
  else if longB (partA l).rows = true ∨ longB (partG l).rows = true then 3
  else if endE (partG l).l (partG l).e ≠ 0 ∨ risB (partA l).rows = false ∨ risB (partG l).rows = false then 4
  else if bothB (partA l).rows (partG l).rows = true then 4 else 0
theorem longB_false {R : List BRow} : longB R = false ↔ ∀ x ∈ R,small x:=by
  unfold longB small;rw [List.any_eq_false];constructor
  · intro h x hx;have:=h x hx;simp at this;exact this
  · intro h x hx;have:=h x hx;simpa using this
theorem risB_ok : ∀ (R : List BRow),risB R = true ↔ Ris cmpRow R
  | []=>by simp [risB,Ris]
  | [x]=>by simp [risB,Ris]
  | x :: y :: R=>by
    have ih:=risB_ok (y :: R);unfold risB;rw [Bool.and_eq_true,ih,decide_eq_true_eq,ris_cons (x:=x)];constructor
    · rintro ⟨h1,h2⟩;refine ⟨fun z hz=>?_,h2⟩;rcases List.mem_cons.1 hz with e | hz
      · rw [e];exact h1
      · exact totRow.trans _ _ _ h1 ((ris_cons.1 h2).1 z hz)
    · rintro ⟨h1,h2⟩;exact ⟨h1 y (by simp),h2⟩
theorem bothB_false {A G : List BRow} : bothB A G = false ↔ ∀ x ∈ A,x ∉ G:=by
  unfold bothB;rw [List.any_eq_false];constructor
  · intro h x hx;have:=h x hx;simpa using this
  · intro h x hx;have:=h x hx;simpa using this
theorem load_parts {l : List UInt8} (h : loadB l = 0) : (partG l).e = 0 ∧ (∀ x ∈ (partA l).rows,small x) ∧ (∀ x ∈ (partG l).rows,small x) ∧ (partG l).l = [] ∧ Ris cmpRow (partA l).rows ∧ Ris cmpRow (partG l).rows ∧ ∀ x ∈ (partA l).rows,x ∉ (partG l).rows:=by
  unfold loadB at h;split at h
  · exact absurd h (by assumption)
  · rename_i h1
    have h1' : (partG l).e = 0:=by omega
    split at h
    · cases h
    · rename_i h2
      simp only [not_or,Bool.not_eq_true] at h2;split at h
      · cases h
      · rename_i h3
        simp only [not_or,Bool.not_eq_false,ne_eq,Classical.not_not] at h3;split at h
        · cases h
        · rename_i h4
          refine ⟨h1',longB_false.1 h2.1,longB_false.1 h2.2,?_,(risB_ok _).1 h3.2.1,(risB_ok _).1 h3.2.2,bothB_false.1 (by simpa using h4)⟩;have h5:=h3.1;unfold endE at h5;rw [if_pos h1'] at h5;split at h5
          · assumption
          · cases h5
theorem one_put {x : BRow} (h : small x) (t : List UInt8) : oneB (rowB x ++ t) 0 = x ∧ oneL (rowB x ++ t) 0 = t ∧ oneE (rowB x ++ t) 0 = 0:=by
  obtain ⟨d,v⟩:=x;have hv : v.size ≤ 16:=h;have e0 : rowB ⟨d,v⟩ ++ t = d.l ++ (beL 1 v.size ++ (v.data.toList ++ t)):=by simp [rowB]
  rw [e0];obtain ⟨a1,a2,a3⟩:=tx_put (s:=v) (by omega) t;have hd:=raw_put d.l (beL 1 v.size ++ (v.data.toList ++ t));rw [d.h] at hd;obtain ⟨d1,d2,d3⟩:=hd;unfold oneB oneL oneE;rw [d1,d2,d3,a1,a2,a3];refine ⟨?_,rfl,rfl⟩;have e1 : idOf d.l = d:=by unfold idOf;rw [dif_pos d.h]
  rw [e1]
theorem loop_put : ∀ (X R : List BRow) (t : List UInt8),(∀ x ∈ X,small x) → loopB X.length ⟨R,X.flatMap rowB ++ t,0⟩ = ⟨R ++ X,t,0⟩
  | [],R,t,_=>by simp [loopB]
  | x :: X,R,t,h=>by
    rw [List.length_cons,loopB_step _ _ rfl];obtain ⟨h1,h2,h3⟩:=one_put (h x (by simp)) (X.flatMap rowB ++ t);have e : stepB ⟨R,(x :: X).flatMap rowB ++ t,0⟩ = ⟨R ++ [x],X.flatMap rowB ++ t,0⟩:=by
      unfold stepB;simp only [List.flatMap_cons,List.append_assoc];rw [h1,h2,h3]
    rw [e,loop_put X (R ++ [x]) t (fun p hp=>h p (by simp [hp]))]
    simp
theorem read_put {X : List BRow} (t : List UInt8) (h : ∀ x ∈ X,small x) (hn : X.length < 4294967296) : readB (rowsB X ++ t) 0 = ⟨X,t,0⟩:=by
  unfold readB rowsB;obtain ⟨h1,h2,h3⟩:=num_put (M:=4) (n:=X.length) (by omega) (X.flatMap rowB ++ t);rw [List.append_assoc,h1,h2,h3];have:=loop_put X [] t h;simpa using this
theorem put_load {L G : List BRow} (hL : ∀ x ∈ L,small x) (hG : ∀ x ∈ G,small x) (rL : Ris cmpRow L) (rG : Ris cmpRow G) (ap : ∀ x ∈ L,x ∉ G) (nL : L.length < 4294967296) (nG : G.length < 4294967296) :
    loadB (putB L G) = 0 ∧ (partA (putB L G)).rows = L ∧ (partG (putB L G)).rows = G:=by
  have h1 : partA (putB L G) = ⟨L,rowsB G,0⟩:=read_put (rowsB G) hL nL;have h2 : partG (putB L G) = ⟨G,[],0⟩:=by
    unfold partG;rw [h1];have:=read_put (X:=G) [] hG nG;simpa using this
  refine ⟨?_,by rw [h1],by rw [h2]⟩;unfold loadB;rw [h1,h2];have e1:=longB_false.2 hL;have e2:=longB_false.2 hG;have e3:=(risB_ok L).2 rL;have e4:=(risB_ok G).2 rG;have e5:=bothB_false.2 ap;simp [e1,e2,e3,e4,e5,endE]
end
section
open Go.RowKit
set_option maxRecDepth 100000 in
theorem bRowC_set32 (d : Id32) (v v' : ByteArray) : (bRowC ⟨d,v⟩).setIfInBounds 32 (.string v') = bRowC ⟨d,v'⟩:=by
  apply Array.ext';simp [bRowC]
theorem bRowC_set0 (d d' : Id32) (v : ByteArray) : ((bRowC ⟨d,v⟩).toList.take (0 + 0) ++ (idC d').toList ++ (bRowC ⟨d,v⟩).toList.drop (0 + 0 + (idC d').toList.length)).toArray = bRowC ⟨d',v⟩:=by
  apply Array.ext';have h1 : (idC d').toList.length = 32:=by simp
  have h2 : (idC d).toList.length = 32:=by simp
  rw [h1];have e : (bRowC ⟨d,v⟩).toList = (idC d).toList ++ [.string v]:=by simp [bRowC]
  have e' : (bRowC ⟨d',v⟩).toList = (idC d').toList ++ [.string v]:=by simp [bRowC]
  rw [e,e'];simp [List.drop_append,h2]
theorem copy_id {w : World} {g : Nat} {v : ByteArray} (b : List UInt8) (hb : b.length = 32 ∨ b = []) (ty : TypeId) (c : Nat) (h : w.heap[g]? = some (.cells (bRowC ⟨id0,v⟩) 171 (0,0))) :
    ∃ w' m,(Builtin.copy_ #[37,9] ty #[.slice (some ⟨g,0,none⟩) 32 c,.string (mkB b)]).run Tryz.prog w = .ok m w' ∧ w'.heap[g]? = some (.cells (bRowC ⟨idOf b,v⟩) 171 (0,0)) ∧ Keep [g] w w':=by
  rcases hb with hb | hb
  · have hs : (mkB b).size = 32:=by rw [mkB_size,hb]
    have h1:=Go.Lib.run_copy_row_string (P:=Tryz.prog) w 37 9 ty 5 g 0 32 c (mkB b) _ _ Tryz.underlying37 (by kernel_rfl) h (by omega) (by rw [hs];simp);refine ⟨_,_,h1,?_,⟨rfl,rfl,rfl,by simp [World.setRow],fun x _ hx=>setRow_other w g x _ (by simpa using hx)⟩⟩;rw [setRow_heap w g _ _ _ _ h];have e3:=bRowC_set0 id0 (idOf b) v;have e : (idOf b).l = b:=by unfold idOf;rw [dif_pos hb]
    have e2 : (idC (idOf b)).toList = Go.Lib.byteCells (mkB b).data.toList:=by unfold idC;rw [e];rfl
    rw [e2] at e3;have e4 : (Go.Lib.byteCells (mkB b).data.toList).length = 32:=by rw [← e2];simp
    rw [e4] at e3;rw [hs];simp only [Nat.add_zero] at e3;rw [← e3]
  · subst hb;have h1:=Go.Lib.run_copy_empty_string (P:=Tryz.prog) w 37 9 ty 5 (some ⟨g,0,none⟩) 32 c (mkB []) Tryz.underlying37 (by kernel_rfl) rfl;exact ⟨_,_,h1,h,Keep.refl _ _⟩
set_option maxRecDepth 100000 in
set_option maxHeartbeats 4000000 in
theorem bread (w : World) (g : Nat) (l : List UInt8) (e0 : Int) (hr0 : RdAt w g l e0) :
    Calls Tryz.prog 225 #[.pointer (some ⟨g,0,none⟩)] w fun e w'=>∃ A cap,e = .returned (.slice A (readB l e0).rows.length cap) ∧ Own w' w.heap.size 171 33 A (readB l e0).rows.length cap ((readB l e0).rows.map bRowC) ∧ RdAt w' g (readB l e0).l (readB l e0).e ∧ Keep [g] w w' ∧ Fits (readB l e0).rows ∧ (readB l e0).rows.length < 4294967296:=by
  have c0:=rd_num4 _ _ l e0 hr0;have hN:=numV_lt 4 l e0;obtain ⟨N,hNe⟩ : ∃ N,numV 4 l e0 = N:=⟨_,rfl⟩
  have hrd : Hid (readB l e0 = loopB N ⟨[],rawL 4 l e0,rawE 4 l e0⟩):=by show _ = _;rw [← hNe];rfl
  rw [hNe] at c0 hN;clear hNe;have hgl:=hr0.lt;go_enter Tryz.func225,Tryz.ntmps225
  (go_wp2_with fail);refine c0.mono ?_;rintro e w1 ⟨rfl,hr1,hk1⟩;have Hk1:=Lib.hid hk1;have hs01:=hk1.size;clear c0 hr0 hk1;(go_wp2_with fail);go_loopw [3,5] (fun out i wr=>∃ (k : Nat) (R : List BRow) (l1 : List UInt8) (e1 : Int) (A1 : Option Addr) (cap1 : Nat),k ≤ N ∧ i = .int .i64 k ∧ out = .slice A1 R.length cap1 ∧ R.length = k ∧ Own wr w1.heap.size 171 33 A1 R.length cap1 (R.map bRowC) ∧ RdAt wr g l1 e1 ∧ Hid (loopB N ⟨[],rawL 4 l e0,rawE 4 l e0⟩ = loopB (N - k) ⟨R,l1,e1⟩) ∧ Hid (Fits R) ∧ Keep [g] w1 wr) (fun _ i _=>N - (intOf i).toNat)
  case atStart=>exact ⟨0,[],_,_,none,0,Nat.zero_le _,rfl,rfl,rfl,Own.nil _ _ _ _,hr1,(show _ = _ from rfl),(show Fits [] by intro x hx;cases hx),Keep.refl _ _⟩
  case round =>
    clear hr1;obtain ⟨k,R,l1,e1,A1,cap1,hkN,rfl,rfl,hRk,hown,hr,hlp,hft,hk⟩:=hrel;have HRk:=Lib.hid hRk;have hRN : R.length ≤ N:=by omega
    clear hRk;have hsz:=hk.size;by_cases hgo : k < N ∧ e1 = 0
    · obtain ⟨hlt,rfl⟩:=hgo;have hlp2:=hlp.out;rw [show N - k = (N - (k + 1)) + 1 by omega,loopB_step _ _ rfl] at hlp2;have Hlp:=Lib.hid hlp2;have hft2:=fits_step hft.out l1 0;have Hft:=Lib.hid hft2;clear hlp hlp2 hft hft2;have hgw:=hr.lt;have hgS : g ∉ blk A1:=fun hx=>(by have:=(hown.at_base hx).1;omega);have h8:=heap_alloc_new wr (.cells (bRowC bRow0) 171);have hr3:=hr.kept (Keep.alloc wr (.cells (bRowC bRow0) 171)) (by simp);have hk3 : Keep [] wr (wr.alloc (.cells (bRowC bRow0) 171)):=Keep.alloc _ _;(go_wp2_with fail);refine (rd_err _ g l1 0 hr).mono ?_;rintro e w5 ⟨rfl,rfl⟩;go_upto_region 7 with fail
      obtain ⟨g8,hg8⟩ : ∃ g8,wr.heap.size = g8:=⟨_,rfl⟩
      rw [hg8] at h8 ⊢;have hgg : g < g8:=by omega
      have Hg8:=Lib.hid hg8;clear hg8 hr;generalize wr.alloc (.cells (bRowC bRow0) 171) = W at *;have hg8l : g8 < W.heap.size:=(Array.getElem?_eq_some_iff.1 h8).1;have hne8 : g8 ∉ [g]:=by simp;omega
      have hng : g ∉ [g8]:=by simp;omega
      have c10:=rd_raw32 W.drew g _ _ (hr3.kept (Keep.drew W) (by simp));refine wp_region_lex (Kp [g,g8] W) false (by kernel_rfl) (by kernel_rfl) (by kernel_rfl) (kp_drew [g,g8] W) ?_;have hne:=kp_some [g,g8] W;have hS:=kp_drew [g,g8] W;repeat (refine wpLx_loose ?_ ?_;(focus (simp only [chainOp];done));intro K hK;go_simp;refine hK _ ?_;clear hK K)
      refine wpLx_chain ?_ ?_ ?_;(focus (exact hS));(focus (simp only [chainOp];done));intro K hK;go_simp;refine c10.mono ?_;rintro e w10 ⟨rfl,hE10,hk10⟩;replace hS:=kp_next hS hk10 (by simp);have h810 : w10.heap[g8]? = _:=(hk10.block g8 hg8l hne8).trans h8;refine ⟨_,rfl,hS,hK _ _ ?_⟩;clear hK K c10;obtain ⟨w11,m11,hcp,h811,hk11⟩:=copy_id (v:=⟨#[]⟩) (rawV 32 l1 0) (rawV_32 _ _) 3 32 h810;refine wpLx_chain ?_ ?_ ?_;(focus (exact hS));(focus (simp only [chainOp];done));intro K hK;go_simp;refine step_keep (kp_next hS hk11 (by simp)) (fun hS2=>?_);refine hK _ _ ?_;clear hK K;refine wpLx_nil ?_;intro hS;have hk911 : Keep [g,g8] W w11:=hS2;have hE11:=hE10.kept hk11 hng;have hg811 : g8 < w11.heap.size:=(Array.getElem?_eq_some_iff.1 h811).1;clear hE10 hk10 hk11 hcp hS hS2 hne h8 h810 hr3;(go_wp2_with fail);refine (rd_num1 _ g _ _ hE11).mono ?_;rintro e w2 ⟨rfl,hr2,hk2⟩;have hn2:=numV_lt 1 (rawL 32 l1 0) (rawE 32 l1 0);(go_wp2_with fail);refine (rd_raw _ g _ _ _ hr2 (by omega)).mono ?_;rintro e w3 ⟨rfl,hr3',hk3'⟩;have hE2 : RdAt w3 g (oneL l1 0) (oneE l1 0):=hr3';have hk23 : Keep [g] w11 w3:=Keep.trans hk2 hk3' (fun x hx=>.inl hx);have h83:=(hk23.block g8 hg811 hne8).trans h811;obtain ⟨kv,hkv⟩ : ∃ kv,mkB (rawV (numV 1 (rawL 32 l1 0) (rawE 32 l1 0)) (rawL 1 (rawL 32 l1 0) (rawE 32 l1 0)) (rawE 1 (rawL 32 l1 0) (rawE 32 l1 0))) = kv:=⟨_,rfl⟩
      have Hkv:=Lib.hid (show txV (rawL 32 l1 0) (rawE 32 l1 0) = kv from hkv);rw [hkv];have x0 : w3.cell? ⟨g8,32,none⟩ = some (.string ⟨#[]⟩):=by rw [cell_of_row w3 g8 _ _ _ _ h83];simp [go_sem]
      have f0 : w3.frozen? ⟨g8,32,none⟩ = false:=by simp [World.frozen?,h83]
      have h84:=heap_setCell_same h83 32 (.string kv);rw [bRowC_set32] at h84;have hks:=Keep.setCell w3 ⟨g8,32,none⟩ (.string kv);have hE4:=hE2.kept hks hng;have hk14 : Keep [g,g8] W (w3.setCell ⟨g8,32,none⟩ (.string kv)):=Keep.trans (Keep.trans hk911 (hk23.mono (S':=[g,g8]) (by simp)) (fun x hx=>.inl hx)) (hks.mono (S':=[g,g8]) (by simp)) (fun x hx=>.inl hx);clear hr2 hr3' hk2 hk3' hkv hE2 hn2 h83 hks hk23 h811 hE11 hk911;go_upto_region 9 with fail
      generalize w3.setCell ⟨g8,32,none⟩ (.string kv) = w11' at *;clear x0 f0;have hg8w:=Hg8.out;have hk011 : Keep [g,g8] wr w11':=Keep.trans (hk3.mono (S':=[g,g8]) (by simp)) hk14 (fun x hx=>.inl hx);have hA1 : ∀ x ∈ blk A1,x ∉ [g,g8]:=fun x hx=>(by have:=hown.at_base hx;simp;omega);have hown11:=hown.kept hk011 hA1;have hk111 : Keep [g] wr w11':=hk011.mono (by intro x hx;simp at hx;rcases hx with rfl | rfl <;> simp;omega);have hx : oneB l1 0 = ⟨idOf (rawV 32 l1 0),kv⟩:=by unfold oneB;rw [Hkv.out]
      rw [← hx] at h84;obtain ⟨xx,hxx⟩ : ∃ xx,oneB l1 0 = xx:=⟨_,rfl⟩
      rw [hxx] at h84 Hft;have Hxx:=Lib.hid hxx;clear hxx hx hown hA1;have hrow11 : rowAt w11' g8 0 33 = some (bRowC xx):=by unfold rowAt;rw [h84];simp [go_sem]
      have hbx : Below w11'.heap.size w11' (w11'.alloc (.cells (bRowC xx) 171)):=(Below.refl _ _).alloc (Nat.le_refl _) _;have hown12:=hown11.below hbx;have hrow12 : rowAt (w11'.alloc (.cells (bRowC xx) 171)) w11'.heap.size 0 33 = some (bRowC xx):=by simp [go_sem]
      have hsz11 : w1.heap.size ≤ w11'.heap.size:=by have:=hk011.size;omega
      clear hown11 h84 hk011 hk14 hk3;go_wp2_with (at_builtin;refine L_append einfoBRow rfl hown12 rfl hrow12 (bRowC_one _) (by omega) (by omega) (by simp;omega) ?_;intro A13 cap13 w13 hown13 hk13' hsub13)
      have hk0 : Keep (blk A1) w11' w13:=Keep.trans ((Keep.of_below hbx).mono (S':=blk A1) (by simp)) hk13' (fun x hx=>.inl hx);have hE13:=hE4.kept hk0 hgS;have hkf : Keep [g] w1 w13:=Keep.trans (Keep.trans hk hk111 (fun x hx=>.inl hx)) hk0 (fun x hx=>.inr (by have:=(hown12.at_base hx).1;omega));rw [show R.map bRowC ++ [bRowC xx] = (R ++ [xx]).map bRowC by simp] at hown13;have hlen13 : (R ++ [xx]).length = R.length + 1:=by simp
      have Hlen13:=Lib.hid hlen13;clear hlen13 hk0 hk13' hsub13 hown12 hrow12 hbx hrow11 hE4;(go_wp2_with fail);go_roundw
      case rel=>exact ⟨k + 1,R ++ [xx],_,_,A13,cap13,by omega,by go_num,(by rw [Hlen13.out]),(by rw [Hlen13.out,HRk.out]),(by rw [Hlen13.out];exact hown13),hE13,(show _ = _ by rw [Hlp.out];unfold stepB;rw [Hxx.out]),Hft,hkf⟩
      case measure=>simp [intOf];omega
    · have hfin : readB l e0 = ⟨R,l1,e1⟩:=by
        rw [hrd.out,hlp.out];by_cases he : e1 = 0
        · rw [show N - k = 0 by omega];rfl
        · exact loopB_stop _ _ he
      have Hfin:=Lib.hid hfin;clear hfin hlp hrd;by_cases hlt : k < N
      · have he : e1 ≠ 0:=by omega
        have heb : (e1 == 0) = false:=by simpa using he
        clear hgo he;(go_wp2_with fail);refine (rd_err _ g l1 e1 hr).mono ?_;rintro e w5 ⟨rfl,rfl⟩;(go_wp2_with fail);go_ret;rw [Hfin.out];exact ⟨A1,cap1,rfl,hown.mono hs01,hr,Keep.trans Hk1.out hk (fun x hx=>.inl hx),hft.out,by dsimp only;omega⟩
      · clear hgo;(go_wp2_with fail);go_ret;rw [Hfin.out];exact ⟨A1,cap1,rfl,hown.mono hs01,hr,Keep.trans Hk1.out hk (fun x hx=>.inl hx),hft.out,by dsimp only;omega⟩
end
section
open Go.RowKit
end
section
open Go.RowKit
end
section
open Go.RowKit Go.Sort Go.Shelf
theorem border (x y : BRow) (w : World) : Calls Tryz.prog 275 #[.agg (bRowC x),.agg (bRowC y)] w fun e w'=>e = .returned (.int .i64 (cmpRow x y)) ∧ Below w.heap.size w w' :=
  (rorder x y w).mono fun _ _ h=>⟨h.1,h.2.below⟩
set_option maxRecDepth 100000 in
set_option maxHeartbeats 1000000 in
theorem brising (w : World) (A : Option Addr) (n cap : Nat) (R : List BRow) (h : RowsIn w A n R) (hn : n ≤ 4294967296) :
    Calls Tryz.prog 228 #[.slice A n cap] w fun e w'=>e = .returned (.bool (risB R)) ∧ Below w.heap.size w w':=by
  have Hlen:=Lib.hid h.len;go_enter Tryz.func228,Tryz.ntmps228
  (go_wp2_with fail);go_loopw [3] (fun i wr=>∃ j : Nat,(j < n ∨ j = 0) ∧ i = .int .i64 ((j : Int) + 1) ∧ Hid (risB R = risB (R.drop j)) ∧ Below w.heap.size w wr) (fun i _=>n + 1 - (intOf i).toNat)
  case atStart=>exact ⟨0,.inr rfl,rfl,(show _ = _ from rfl),Below.refl _ _⟩
  case round =>
    obtain ⟨j,hj,rfl,hri,hb⟩:=hrel;by_cases hlt : j + 1 < n
    · have hR1 : j + 1 < R.length:=by rw [Hlen.out];exact hlt
      obtain ⟨q,o,rfl,hrow2,-,-⟩:=RowsIn.get (SlR.below h hb) hlt hR1;obtain ⟨q',o',hqe,hrow1,-,-⟩:=RowsIn.get (SlR.below h hb) (show j < n by omega) (show j < R.length by omega);injection hqe with hqe
      injection hqe with hq1 hq2
      subst hq1;subst hq2;have hri3 : risB R = (decide (cmpRow (R[j]'(by omega)) (R[j + 1]'hR1) < 0) && risB (R.drop (j + 1))):=by
        rw [hri.out,List.drop_eq_getElem_cons (show j < R.length by omega),List.drop_eq_getElem_cons hR1];rfl
      obtain ⟨x,hx⟩ : ∃ x,R[j]'(by omega) = x:=⟨_,rfl⟩
      obtain ⟨y,hy⟩ : ∃ y,R[j + 1]'hR1 = y:=⟨_,rfl⟩
      rw [hx] at hrow1 hri3;rw [hy] at hrow2 hri3;clear hri hx hy hR1;have hlt2 : ((j : Int) + 1 < n):=by omega
      have w1' : IntKind.i64.wrap (j : Int) = j:=IntWalk.i64_in _ (by omega);have t1 : ((j : Int) + 1).toNat = j + 1:=by omega
      have t2 : (0 : Int) ≤ (j : Int) + 1:=by omega
      have t3 : (j : Int) < n:=by omega
      have t4 : j < n:=by omega
      have c2:=border x y wr.drew;by_cases hc : cmpRow x y < 0
      · rw [decide_eq_true hc,Bool.true_and] at hri3;have Hri:=Lib.hid hri3;have hcb : ¬ (0 ≤ cmpRow x y):=(by omega);obtain ⟨c,hcc⟩ : ∃ c,cmpRow x y = c:=⟨_,rfl⟩;rw [hcc] at c2 hcb;clear hcc;clear hri3 hc;go_upto_region 4 with fail
        refine wp_region_lex (Bel wr) false (by kernel_rfl) (by kernel_rfl) (by kernel_rfl) (bel_drew wr) ?_;have hne:=bel_some wr;have hS:=bel_drew wr;have b1:=sub_row hrow1;have b2:=sub_row hrow2;repeat (refine wpLx_loose ?_ ?_;(focus (simp only [chainOp];done));intro K hK;go_simp;refine hK _ ?_;clear hK K)
        refine wpLx_chain ?_ ?_ ?_;(focus (exact hS));(focus (simp only [chainOp];done));intro K hK;go_simp;refine (c2).mono ?_;rintro e w' ⟨rfl,hb⟩;replace hS:=bel_next hS hb;refine ⟨_,rfl,hS,hK _ _ ?_⟩;clear hK K hb;repeat (refine wpLx_loose ?_ ?_;(focus (simp only [chainOp];done));intro K hK;go_simp;refine hK _ ?_;clear hK K)
        refine wpLx_nil ?_;intro hS;have hS' : Below wr.heap.size wr w':=hS;have hbz:=bel2 hb hS';clear b1 b2 hne hS hS' c2 w1';(go_wp2_with fail);go_roundw
        case rel=>exact ⟨j + 1,.inl hlt,by go_num,Hri,hbz⟩
        case measure=>simp [intOf];omega
      · rw [decide_eq_false hc,Bool.false_and] at hri3;have Hri:=Lib.hid hri3;have hcb : 0 ≤ cmpRow x y:=(by omega);obtain ⟨c,hcc⟩ : ∃ c,cmpRow x y = c:=⟨_,rfl⟩;rw [hcc] at c2 hcb;clear hcc;clear hri3 hc;go_upto_region 4 with fail
        refine wp_region_lex (Bel wr) false (by kernel_rfl) (by kernel_rfl) (by kernel_rfl) (bel_drew wr) ?_;have hne:=bel_some wr;have hS:=bel_drew wr;have b1:=sub_row hrow1;have b2:=sub_row hrow2;repeat (refine wpLx_loose ?_ ?_;(focus (simp only [chainOp];done));intro K hK;go_simp;refine hK _ ?_;clear hK K)
        refine wpLx_chain ?_ ?_ ?_;(focus (exact hS));(focus (simp only [chainOp];done));intro K hK;go_simp;refine (c2).mono ?_;rintro e w' ⟨rfl,hb⟩;replace hS:=bel_next hS hb;refine ⟨_,rfl,hS,hK _ _ ?_⟩;clear hK K hb;repeat (refine wpLx_loose ?_ ?_;(focus (simp only [chainOp];done));intro K hK;go_simp;refine hK _ ?_;clear hK K)
        refine wpLx_nil ?_;intro hS;have hS' : Below wr.heap.size wr w':=hS;have hbz:=bel2 hb hS';clear b1 b2 hne hS hS' c2 w1';(go_wp2_with fail);go_ret;exact ⟨ret_bool (by rw [Hri.out]),hbz⟩
    · have hrt : risB R = true:=by
        rw [hri.out];have hl1 : (R.drop j).length ≤ 1:=by rw [List.length_drop,Hlen.out];omega
        generalize R.drop j = Z at hl1
        match Z,hl1 with
        | [],_=>rfl
        | [_],_=>rfl
      have Hrt:=Lib.hid hrt;have hlt2 : decide ((j : Int) + 1 < n) = false:=by simp;omega
      have hlt3 : decide (j + 1 < n) = false:=by simp;omega
      clear hrt hri hlt hj;(go_wp2_with fail);go_ret;exact ⟨ret_bool (by rw [Hrt.out]),hb⟩
theorem blong (x : BRow) (w : World) : Calls Tryz.prog 227 #[.agg (bRowC x)] w fun e w'=>e = .returned (.bool (decide (16 < x.val.size))) ∧ Below w.heap.size w w':=by
  have hB : Below w.heap.size w (w.alloc (.cells (bRowC x) 171)):=(Below.refl _ _).alloc (Nat.le_refl _) _;have a2 : (w.alloc (.cells (bRowC x) 171)).cell? ⟨w.heap.size,32,none⟩ = some (.string x.val):=by simp [go_sem]
  go_enter Tryz.func227,Tryz.ntmps227
  go_upto_region 1 with fail
  generalize w.alloc (.cells (bRowC x) 171) = W at *;(go_wp2_with fail);go_ret;exact ⟨ret_bool (decide_eq_decide.2 (by omega)),hB⟩
theorem any_none_index (w : World) (A : Option Addr) (cap : Nat) (f : Value) :
    Calls Tryz.prog 274 #[.slice A 0 cap,f] w fun e w'=>e = .returned (.int .i64 (-1)) ∧ w = w':=by
  go_enter Tryz.func274,Tryz.ntmps274
  (go_wp2_with fail);go_loopw [8] (fun i wr=>i = .int .i64 0 ∧ wr = w) (fun _ _=>0)
  case atStart=>exact ⟨rfl,rfl⟩
  case round =>
    obtain ⟨rfl,rfl⟩:=hrel;(go_wp2_with fail);go_ret;exact ⟨rfl,rfl⟩
theorem any_none (w : World) (A : Option Addr) (cap : Nat) (f : Value) :
    Calls Tryz.prog 226 #[.slice A 0 cap,f] w fun e w'=>e = .returned (.bool false) ∧ w = w':=by
  go_enter Tryz.func226,Tryz.ntmps226
  (go_wp2_with fail);refine (any_none_index _ A cap f).mono ?_;rintro e w1 ⟨rfl,rfl⟩;(go_wp2_with fail);go_ret;exact ⟨rfl,rfl⟩
theorem bcontains (w : World) (A : Option Addr) (n cap : Nat) (R : List BRow) (h : RowsIn w A n R) (hn : n ≤ 4294967296) :
    Calls Tryz.prog 226 #[.slice A n cap,.func (.func 227) #[] #[]] w fun e w'=>e = .returned (.bool (longB R)) ∧ Below w.heap.size w w':=by
  have hlen:=h.len;by_cases h0 : n = 0
  · subst h0;have hR : R = []:=List.eq_nil_of_length_eq_zero hlen;subst hR;refine (any_none w A cap _).mono ?_;rintro e w' ⟨rfl,rfl⟩;exact ⟨rfl,Below.refl _ _⟩
  · obtain ⟨g,o,rfl,hr0,-,-⟩:=RowsIn.get h (show 0 < n by omega) (by omega);have hcon:=AnyQ.slices_ContainsFunc Tryz.layContRow 33 isAggRow sizeRow (fun x : BRow=>(bRowC x).toList) (by simp) (fun x=>decide (16 < x.val.size)) 227 #[]
      (enters_of Tryz.func227 (by kernel_rfl) rfl) g o n cap R w (fun W x hb=>(blong x W).mono fun e w' hh=>⟨hh.1,hb.trans (hh.2.mono hb.size)⟩) (by omega) (by omega) (rowAt_lt hr0) (fun j hj i v hv=>by
        obtain ⟨g',o',he,hr,-,-⟩:=RowsIn.get h (show j < n by omega) hj;injection he with he
        injection he with he1 he2
        subst he1;subst he2;have hi : i < 33:=by
          have:=(List.getElem?_eq_some_iff.1 hv).1;simpa using this
        rw [rowAt_cell hr hi,← hv,getElem!_pos R j hj]
        simp)
    refine hcon.mono ?_;rintro e w' ⟨rfl,hb⟩;rw [List.take_of_length_le (by omega)];exact ⟨rfl,hb⟩
end
section
open Go.RowKit
theorem bothB_drop {A G : List BRow} {j : Nat} (h : j < A.length) : bothB (A.drop j) G = (decide (A[j] ∈ G) || bothB (A.drop (j + 1)) G):=by
  rw [List.drop_eq_getElem_cons h];rfl
end
end Go.Proofs.YtgfpjjppeldhbaaGreatDoor
