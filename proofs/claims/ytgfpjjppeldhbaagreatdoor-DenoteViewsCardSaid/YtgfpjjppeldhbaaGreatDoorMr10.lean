/- Part 10 of the texts that lead to this claim: the walks of the functions and the plain law, in order. -/
import Derived.Test.YtgfpjjppeldhbaaGreatDoorMr9
import Derived.IntWalk
namespace Go.Proofs.YtgfpjjppeldhbaaGreatDoor
section
open Go.RowKit Stb
abbrev nodeA (a : ActM) : NodeV:=nodeOf a.m
theorem nodeE_okA {a : ActM} (hv : (oOf a.m).val.size ≤ 16) : okA a = okN a.m:=by
  unfold okA okN nodeE nodeOf;dsimp only;rw [if_neg (by omega)];by_cases h1 : a.m.id = id0
  · simp [h1]
  · by_cases h2 : 1 ≤ a.m.h
    · by_cases h3 : a.m.h ≤ 1073741824
      · have hno : ¬ (a.m.h < 1 ∨ 1073741824 < a.m.h ∨ a.m.id = id0):=fun h=>h.elim (fun h=>by omega) fun h=>h.elim (fun h=>by omega) h1;rw [if_neg hno];simp [h1,h2,h3]
      · rw [if_pos (.inr (.inl (by omega)))];simp [h3]
    · rw [if_pos (.inl (by omega))];simp [h2]
theorem treeL_ins {L : List ActM} (hv : ∀ a ∈ L,(oOf a.m).val.size ≤ 16) : (treeL L).map ActM.m = (insD (L.map ActM.m)).reverse:=by
  unfold treeL insD;have e6:=ofK_map L 6;rw [e6];obtain ⟨L6,hL6⟩ : ∃ L6,(L.filter fun a=>decide ((kM a : Int) = (6 : Nat))) = L6:=⟨_,rfl⟩
  have hs : ∀ a ∈ L6,(oOf a.m).val.size ≤ 16:=fun a ha=>(by rw [← hL6] at ha;exact hv a (List.mem_filter.1 ha).1);show ((L.filter fun a=>decide ((kM a : Int) = (6 : Nat))).reverse.filter okA).map ActM.m = _;rw [hL6,List.filter_map,← List.map_reverse,← List.filter_reverse];congr 1
  refine List.filter_congr fun a ha=>?_;exact nodeE_okA (hs a (List.mem_reverse.1 ha))
theorem refF_kids {L : List ActM} (hv : ∀ a ∈ L,(oOf a.m).val.size ≤ 16) (hr : Ris cmpMk (L.map ActM.m)) (h1 : OneM (L.map ActM.m)) (r : Id32) : (refF (treeL L) r).map nodeA = kids (nodD (L.map ActM.m)) r:=by
  rw [← behD_kids hr h1 r];have e : (refF (treeL L) r).map ActM.m = behD (L.map ActM.m) r:=by
    unfold behD;rw [← treeL_ins hv,List.filter_map];rfl
  rw [← e,List.map_map];rfl
theorem actR_node {a b : ActM} (h : actR a = actR b) : nodeA a = nodeA b:=by
  have e1 : idC a.m.id = idC b.m.id:=by rw [← actR_e37,← actR_e37,h]
  have e2 : some (Value.int .i64 a.m.h) = some (.int .i64 b.m.h):=by rw [← actR_g69,← actR_g69,h]
  have e3 : idC (oOf a.m).ref = idC (oOf b.m).ref:=by rw [← actR_e4,← actR_e4,h]
  have e4 : some (Value.string (oOf a.m).val) = some (.string (oOf b.m).val):=by rw [← actR_g3,← actR_g3,h]
  injection e2 with e2;injection e2 with _ e2
  injection e4 with e4;injection e4 with e4
  exact NodeV.ext' (idC_inj e1) e2 (idC_inj e3) e4
theorem acts_uniq {w : World} {A : Option Addr} {n : Nat} {R S : List ActM} (h : ActsIn w A n R) (h' : ActsIn w A n S) : R.map nodeA = S.map nodeA:=by
  have l1:=h.len;have l2:=h'.len;apply List.ext_getElem
  · simp [l1,l2]
  · intro i h1 h2;simp at h1 h2;obtain ⟨q,o,e,hr⟩:=ActsIn.get h (i:=i) (by omega) h1;obtain ⟨q',o',e',hr'⟩:=ActsIn.get h' (i:=i) (by omega) h2;rw [e] at e';injection e' with e'
    injection e' with e1 e2
    subst e1;subst e2;rw [hr] at hr';injection hr' with hr'
    rw [List.getElem_map,List.getElem_map];exact actR_node hr'
open Classical in
noncomputable def leftA (N : List NodeV) (w : World) (v : Value) : Nat :=
  if h : ∃ R : List ActM,∃ A n c,v = .slice A n c ∧ ActsIn w A n R then (restL (kids N) NodeV.id (N.length + 1) ((Classical.choose h).map nodeA)).length else 0
theorem leftA_eq {N : List NodeV} {w : World} {A : Option Addr} {n c : Nat} {R : List ActM} (h : ActsIn w A n R) : leftA N w (.slice A n c) = (restL (kids N) NodeV.id (N.length + 1) (R.map nodeA)).length:=by
  have hex : ∃ R : List ActM,∃ A' n' c',Value.slice A n c = .slice A' n' c' ∧ ActsIn w A' n' R:=⟨R,A,n,c,rfl,h⟩
  unfold leftA;rw [dif_pos hex];obtain ⟨A',n',c',e,h'⟩:=Classical.choose_spec hex;injection e with e1 e2 e3
  subst e1;subst e2;rw [acts_uniq h' h]
theorem TreeW.look {w : World} {b B : Nat} {P : List ActM} (h : TreeW w b B P) (r : Id32) :
    ∃ s : Sl,SlW w s.A s.n s.c 70 ((refF P r).map actR) ∧ ∀ w',Below w.heap.size w w' → (Instr.lookup 148 (.map (some b)) (.agg (idC r)) false).run Tryz.prog w' = .ok (.slice s.A s.n s.c) w':=by
  obtain ⟨BM,es,clk,hm,hown,_,hno⟩:=h;by_cases hr : r ∈ BM.map (·.1)
  · obtain ⟨p,hp,rfl⟩:=List.mem_map.1 hr;exact ⟨p.2,(hown p hp).slw,fun w' hb=>(hm.kept (Keep.of_below hb) (by simp)).hit idKey Tryz.underlying148 trivial hp false⟩
  · refine ⟨⟨none,0,0⟩,?_,fun w' hb=>(hm.kept (Keep.of_below hb) (by simp)).miss idKey Tryz.underlying148 (zeroSlActs w') trivial hr false⟩;rw [hno r hr];exact SlW.none_
@[go_sem ↓] theorem slAct_rw (x : Value) (lo hi mx : Option Value) : Instr.sliceAt 89 x lo hi mx = slS 89 x lo hi mx:=rfl
@[go_sem] theorem bsActs2_run (w : World) (A B : Option Addr) (n m a b : Nat) : (Instr.buildSlice 266 2 #[(0,.slice A n a),(1,.slice B m b)]).run Tryz.prog w = .ok (.slice (some ⟨w.heap.size,0,none⟩) 2 2) (w.alloc (.cells #[.slice A n a,.slice B m b] 89)):=by kernel_rfl
set_option maxRecDepth 100000 in
set_option maxHeartbeats 4000000 in
theorem dlist (A : Option Addr) (n cap : Nat) (L : List ActM) (B : Nat) (w : World) (h : ActsAt w B A n cap L) (hn : n ≤ 30) (hv : ∀ a ∈ L,(oOf a.m).val.size ≤ 16) (hr : Ris cmpMk (L.map ActM.m)) (h1 : OneM (L.map ActM.m)) :
    Calls Tryz.prog 49 #[.slice A n cap] w fun e w'=>∃ A' n' cap',e = .returned (.slice A' n' cap') ∧ Own w' w.heap.size 98 2 A' n' cap' ((pS (orderN (nodD (L.map ActM.m))) (goneD (L.map ActM.m))).map pairC) ∧ Below w.heap.size w w':=by
  have hlen : L.length = n:=by simpa using h.own.len
  have hmm:=@run_makeMap Tryz.prog;have k1:=SetAt.new (kv:=idV) (ok:=okId) w w.heap.size rfl;have hb0 : Below w.heap.size w (w.alloc (.map #[] 0)):=(Below.refl _ _).alloc (Nat.le_refl _) _;have h0:=h.below hb0;have hkids:=fun r=>refF_kids hv hr h1 r;have hf:=nodD_forest h1;obtain ⟨N,hN⟩ : ∃ N,nodD (L.map ActM.m) = N:=⟨_,rfl⟩
  have hNl : N.length ≤ 30:=by rw [← hN];refine Nat.le_trans (nodD_len _) ?_;rw [List.length_map];omega
  obtain ⟨L7,hL7⟩ : ∃ L7,(L.filter fun a=>decide ((kM a : Int) = 7)) = L7:=⟨_,rfl⟩
  have hG : goneD (L.map ActM.m) = L7.map fun a=>(oOf a.m).ref:=by
    unfold goneD;have e7:=ofK_map L 7;rw [e7,List.map_map,← hL7];rfl
  have hl7 : L7.length ≤ 30:=by rw [← hL7];exact Nat.le_trans (List.length_filter_le _ _) (by omega)
  have c7:=fun w' (hb : Below w.heap.size w w')=>of_any 7 A n cap L B w' (h.below hb) hn;have ct:=fun w' (hb : Below w.heap.size w w')=>dtree A n cap L B w' (h.below hb) hn;simp only [hL7] at c7;obtain ⟨P,hP⟩ : ∃ P,treeL L = P:=⟨_,rfl⟩
  simp only [hP] at ct hkids;simp only [hN] at hkids;obtain ⟨G,hGG⟩ : ∃ G,goneD (L.map ActM.m) = G:=⟨_,rfl⟩
  rw [hGG] at hG ⊢;rw [hN] at hf ⊢;have hdeep:=hf.deep;have hord : orderN N = restL (kids N) NodeV.id (N.length + 1) (kids N id0):=pre_root hdeep;have hD0 : ∀ c ∈ kids N id0,Deep (kids N) NodeV.id (N.length + 1) c.id:=fun c hc=>deep_up (hdeep c hc);have Hf:=Lib.hid hf;have Hord:=Lib.hid hord;have HD0:=Lib.hid hD0;have Hkids:=Lib.hid hkids;have HG:=Lib.hid hG;clear hN hL7 hGG hP hdeep hord hD0 hf hkids hG hv hr h1 h hlen;go_enter Tryz.func49,Tryz.ntmps49
  go_upto_region 2 with fail
  obtain ⟨gm,hgm⟩ : ∃ gm,w.heap.size = gm:=⟨_,rfl⟩
  have hgs : (w.alloc (.map #[] 0)).heap.size = gm + 1:=by simp [hgm]
  have c7':=c7 _ hb0;obtain ⟨W,hW⟩ : ∃ W,w.alloc (.map #[] 0) = W:=⟨_,rfl⟩
  rw [hW] at k1 hb0 hgs h0 c7';rw [hW,hgm];rw [hgm] at k1 hb0;simp only [hgm] at ct;have Hgm:=Lib.hid hgm;clear hW hgm c7;(go_wp2_with fail);refine c7'.mono ?_;rintro e w1 ⟨A7,cap7,rfl,h7,hb1⟩;have k2:=SetAt.below k1 hb1;have hb01 : Below gm w w1:=hb0.trans (hb1.mono (by omega));have h7o:=h7.own;have hA7 : ∀ x ∈ blk A7,W.heap.size ≤ x:=fun x hx=>(h7o.at_base hx).1;have hz1:=hb1.size;clear c7' h7 k1 hb0 hb1 h0;(go_wp2_with fail);go_loopw [14] (fun iv wr=>∃ (i : Nat),i ≤ L7.length ∧ iv = .int .i64 i ∧ IdSet wr gm ((L7.take i).map fun a=>(oOf a.m).ref) ∧ Keep [gm] w1 wr) (fun iv _=>L7.length - (intOf iv).toNat)
  case atStart=>exact ⟨0,Nat.zero_le _,rfl,k2,Keep.refl _ _⟩
  case round =>
    clear k2;obtain ⟨i,hi,rfl,hset,hk⟩:=hrel;by_cases hlt : i < L7.length
    · obtain ⟨q,o,rfl,hrow⟩:=ActsIn.get (h7o.kept hk (fun x hx=>by have:=hA7 x hx;simp;omega)).slr hlt hlt;have htk : ((L7.take (i + 1)).map fun a=>(oOf a.m).ref) = ((L7.take i).map fun a=>(oOf a.m).ref) ++ [(oOf (L7[i]'hlt).m).ref]:=by rw [List.take_succ_eq_append_getElem hlt,List.map_append];rfl
      obtain ⟨x,hx⟩ : ∃ x,L7[i]'hlt = x:=⟨_,rfl⟩
      rw [hx] at hrow htk;have Htk:=Lib.hid htk;obtain ⟨X,hX⟩ : ∃ X,((L7.take i).map fun a=>(oOf a.m).ref) = X:=⟨_,rfl⟩
      rw [hX] at Htk hset;clear hx htk hX;have hba : Below wr.heap.size wr (wr.alloc (.cells (actR x) 139)):=(Below.refl _ _).alloc (Nat.le_refl _) _;have hra : rowAt (wr.alloc (.cells (actR x) 139)) wr.heap.size 0 70 = some (actR x):=by simp [go_sem]
      have hsa:=SetAt.below hset hba;have hka : Keep [gm] w1 (wr.alloc (.cells (actR x) 139)):=Keep.trans hk (Keep.of_below hba) (by simp);go_upto_region 5 with fail
      obtain ⟨gx,hgx⟩ : ∃ gx,wr.heap.size = gx:=⟨_,rfl⟩
      obtain ⟨W0,hW0⟩ : ∃ W0,W0 = wr.alloc (.cells (actR x) 139):=⟨_,rfl⟩
      rw [← hW0] at hra hsa hka ⊢;rw [hgx] at hra ⊢;clear hW0 hgx hba hset hk hrow;have f4 : rowAt W0 gx 4 32 = some (idC (oOf x.m).ref):=by have:=rowAt_sub hra (j:=4) (m:=32) (by omega);rwa [actR_e4,Nat.zero_add] at this
      obtain ⟨w5,hrun,hs5,hk5⟩:=iput (x:=(oOf x.m).ref) hsa;have hkd : Keep [gm] w1 w5:=Keep.trans hka hk5 (fun y hy=>.inl hy);have hs6 : IdSet w5 gm (((L7.take (i + 1)).map fun a=>(oOf a.m).ref)):=SetAt.congr hs5 (fun y=>by rw [Htk.out,List.mem_append,List.mem_singleton,List.mem_cons];exact Or.comm);clear hsa hka hs5 hk5 hra;(go_wp2_with fail);go_roundw
      case rel=>exact ⟨i + 1,by omega,by go_num,hs6,hkd⟩
      case measure=>simp [intOf];omega
    · have e2 : L7.take i = L7:=List.take_of_length_le (by omega);rw [e2,← HG.out] at hset;have hbw : Below gm w wr:=hb01.trans (hk.below (B:=gm) (by omega) (by simp));have ct':=ct wr hbw;have hsw:=hk.size;clear e2 hk h7o ct;(go_wp2_with fail);refine ct'.mono ?_;rintro e w2 ⟨gt,BT,rfl,ht,hgt,hgBT,hb2⟩;have hbw2 : Below gm w w2:=hbw.trans (hb2.mono (by omega));have hset2:=SetAt.below hset hb2;have hz2:=hb2.size;obtain ⟨s0,hs0,hl0⟩:=ht.look id0;have hl0':=hl0 w2 (Below.refl _ _);have hs0n : (refF P id0).length = s0.n:=by have:=hs0.len;simpa using this
      have hkl0 : (refF P id0).length ≤ 30:=by have e:=congrArg List.length (Hkids.out id0);rw [List.length_map] at e;have:=kids_length N id0;omega
      have cc:=clone_acts w2 s0.A s0.n s0.c (refF P id0) hs0.rd (by omega) hs0.nil;clear ct' hset hb2 hl0;(go_wp2_with fail);refine cc.mono ?_;rintro e V ⟨A0,cap0,rfl,ho0,hbV⟩;have htV:=ht.below hbV;have hsetV:=SetAt.below hset2 hbV;have hbwV : Below gm w V:=hbw2.trans (hbV.mono (by omega));have hzV:=hbV.size;have hA0 : ∀ x ∈ blk A0,x < V.heap.size:=fun x hx=>(ho0.at_base hx).2;have hsl0:=ho0.slw;have hR0 : (refF P id0).map nodeA = kids N id0:=Hkids.out id0;have HR0:=Lib.hid hR0;clear cc ht hset2 hbw2 hbV ho0 hl0' hs0 hR0;(go_wp2_with fail);go_loopw [7,8] (fun todo out wr=>∃ (X : List NodeV) (R : List ActM) (A1 : Option Addr) (n1 cap1 : Nat) (A2 : Option Addr) (n2 cap2 : Nat),out = .slice A1 n1 cap1 ∧ todo = .slice A2 n2 cap2 ∧ Own wr V.heap.size 98 2 A1 n1 cap1 ((pS X G).map pairC) ∧ SlW wr A2 n2 cap2 70 (R.map actR) ∧ (∀ x ∈ blk A2,x ∉ blk A1) ∧ Hid (X ++ restL (kids N) NodeV.id (N.length + 1) (R.map nodeA) = orderN N) ∧ Hid (∀ c ∈ R.map nodeA,Deep (kids N) NodeV.id (N.length + 1) c.id) ∧ Below V.heap.size V wr) (fun todo _ wr=>leftA N wr todo)
      case atStart=>exact ⟨[],refF P id0,none,0,0,A0,s0.n,cap0,rfl,rfl,Own.nil _ _ _ _,hsl0,by simp [blk],(show _ = _ by rw [HR0.out,Hord.out];rfl),(show ∀ c ∈ _,_ by rw [HR0.out];exact HD0.out),Below.refl _ _⟩
      case round =>
        clear hsl0;obtain ⟨X,R,A1,n1,cap1,A2,n2,cap2,rfl,rfl,hown,hsw2,hdis,hinv,hdp,hb⟩:=hrel;have hn1 : (pS X G).length = n1:=by simpa using hown.len
        have hn2 : R.length = n2:=by simpa using hsw2.len
        have hpx:=pS_len X G;have hrl:=orderN_length Hf.out;rw [← hinv.out,List.length_append] at hrl;have hn1b : n1 ≤ 30:=by omega
        have hrr : R.length ≤ (restL (kids N) NodeV.id (N.length + 1) (R.map nodeA)).length:=by
          have : ∀ row : List NodeV,row.length ≤ (restL (kids N) NodeV.id (N.length + 1) row).length:=by
            intro row;induction row with
            | nil=>exact Nat.zero_le _
            | cons d row ih =>
              unfold restL at ih ⊢;rw [List.flatMap_cons,List.length_append,List.length_cons,List.length_cons];omega
          simpa using this (R.map nodeA)
        have hn2b : n2 ≤ 30:=by omega
        have hms : leftA N wr (.slice A2 n2 cap2) = (restL (kids N) NodeV.id (N.length + 1) (R.map nodeA)).length:=leftA_eq hsw2.rd;have Hms:=Lib.hid hms;have hzr:=hb.size;cases R with
        | nil =>
          have hn0 : n2 = 0:=by simpa using hn2.symm
          subst hn0;have hX2 : X = orderN N:=by have:=hinv.out;simpa [restL] using this
          subst hX2;clear hinv hdp hrl hrr hn1 hn2 hpx hms;(go_wp2_with fail);go_ret;exact ⟨A1,n1,cap1,rfl,by rw [Hgm.out];exact hown.mono (by omega),by rw [Hgm.out];exact hbwV.trans (hb.mono (by omega))⟩
        | cons d R' =>
          have hn2p : n2 = R'.length + 1:=by simpa using hn2.symm
          subst hn2p;obtain ⟨q,o,rfl,hrow⟩:=ActsIn.get hsw2.rd (i:=0) (by omega) (by simp);rw [Nat.zero_mul,Nat.add_zero,List.getElem_cons_zero] at hrow;have hdd:=hdp.out (nodeA d) (by simp);have hinv2 : X ++ [nodeA d] ++ restL (kids N) NodeV.id (N.length + 1) (kids N (nodeA d).id ++ R'.map nodeA) = orderN N:=by
            have:=hinv.out;rw [List.map_cons,rest_step hdd] at this;simpa using this
          have hms2 : (restL (kids N) NodeV.id (N.length + 1) ((d :: R').map nodeA)).length = (restL (kids N) NodeV.id (N.length + 1) (kids N (nodeA d).id ++ R'.map nodeA)).length + 1:=by
            rw [List.map_cons,rest_step hdd,List.length_cons]
          have hdp2 : ∀ c ∈ kids N (nodeA d).id ++ R'.map nodeA,Deep (kids N) NodeV.id (N.length + 1) c.id:=fun c hc=>by
            rcases List.mem_append.1 hc with hc | hc
            · exact deep_kids hdd c hc
            · exact hdp.out c (by rw [List.map_cons];exact List.mem_cons_of_mem _ hc)
          have Hinv2:=Lib.hid hinv2;have Hdp2:=Lib.hid hdp2;have Hms2:=Lib.hid hms2;have hlen2 : X.length + 1 + (restL (kids N) NodeV.id (N.length + 1) (kids N (nodeA d).id ++ R'.map nodeA)).length ≤ N.length:=by omega
          have Hlen2:=Lib.hid hlen2;clear hinv hdp hdd hinv2 hdp2 hrl hrr hn1 hn2 hms hms2 hlen2 hpx;have hba : Below wr.heap.size wr (wr.alloc (.cells (actR d) 139)):=(Below.refl _ _).alloc (Nat.le_refl _) _;have hra : rowAt (wr.alloc (.cells (actR d) 139)) wr.heap.size 0 70 = some (actR d):=by simp [go_sem]
          have hoa:=hown.below hba;have hsa:=hsw2.below hba;have hVa : Below V.heap.size V (wr.alloc (.cells (actR d) 139)):=hb.trans (hba.mono hzr);have hdA : ∀ x ∈ blk A1,x < wr.heap.size:=fun x hx=>(hown.at_base hx).2;have HdA:=Lib.hid hdA;have Hdis:=Lib.hid hdis;go_upto_region 12 with fail
          obtain ⟨gx,hgx⟩ : ∃ gx,wr.heap.size = gx:=⟨_,rfl⟩
          have Hgx:=Lib.hid hgx;have hza : gx + 1 ≤ (wr.alloc (.cells (actR d) 139)).heap.size:=by simp [hgx]
          obtain ⟨W0,hW0⟩ : ∃ W0,W0 = wr.alloc (.cells (actR d) 139):=⟨_,rfl⟩
          rw [← hW0] at hra hoa hsa hVa hza ⊢;rw [hgx] at hra hzr ⊢;clear hW0 hgx hba hown hsw2 hb hrow hdA hdis;have f37 : rowAt W0 gx 37 32 = some (idC d.m.id):=by have:=rowAt_sub hra (j:=37) (m:=32) (by omega);rwa [actR_e37,Nat.zero_add] at this
          have f3 : W0.cell? ⟨gx,3,none⟩ = some (.string (oOf d.m).val):=by have:=rowAt_cell hra (j:=3) (by omega);rwa [actR_g3,Nat.zero_add] at this
          have hpS : pS (X ++ [nodeA d]) G = if d.m.id ∈ G then pS X G else pS X G ++ [⟨⟨#[]⟩,(oOf d.m).val⟩]:=pS_snoc X G (nodeA d);have HpS:=Lib.hid hpS;clear hpS;have hset0:=SetAt.below hsetV hVa;by_cases hin : d.m.id ∈ G
          · have hlk:=ihit hset0 hin;have hpS:=HpS.out;rw [if_pos hin] at hpS;have HpS2:=Lib.hid hpS;clear hpS hin;obtain ⟨Z,hZ⟩ : ∃ Z,Z = W0:=⟨_,rfl⟩
            have hoZ : Own Z V.heap.size 98 2 A1 n1 cap1 ((pS (X ++ [nodeA d]) G).map pairC):=by rw [HpS2.out,hZ];exact hoa
            have hAZ : ∀ x ∈ blk A1,x < Z.heap.size:=fun x hx=>(hoZ.at_base hx).2;rw [← hZ] at hra hsa hVa hza f37 f3 hlk ⊢;clear hZ hoa;have htZ:=htV.below hVa;obtain ⟨s1,hs1,hl1⟩:=htZ.look d.m.id;have hk : ∀ x : Subtype (Bel Z),(Instr.lookup 148 (.map (some gt)) (.agg (idC d.m.id)) false).run Tryz.prog x.1 = .ok (.slice s1.A s1.n s1.c) x.1:=fun x=>hl1 x.1 x.2;have hs1n : (refF P d.m.id).length = s1.n:=by have:=hs1.len;simpa using this
            have hkl1 : (refF P d.m.id).length ≤ 30:=by have e:=congrArg List.length (Hkids.out d.m.id);rw [List.length_map] at e;have:=kids_length N d.m.id;omega
            obtain ⟨Ah,ch,hhi,hhs,hhf⟩:=hsa.hi (P:=Tryz.prog) einfoAct (m:=1) (by omega);have hhi2 : ∀ w0 : World,(slS 89 (.slice (some ⟨q,o,none⟩) (R'.length + 1) cap2) (some (.int .i64 1)) none none).run Tryz.prog w0 = .ok (.slice Ah R'.length ch) w0:=hhi;have hRr : (refF P d.m.id ++ R').map nodeA = kids N (nodeA d).id ++ R'.map nodeA:=by rw [List.map_append];congr 1;exact Hkids.out _
            have HRr:=Lib.hid hRr;have hzV:=hVa.size;clear hRr htZ hl1 hhi;go_upto_region 14 with fail
            refine wp_region_lex (Bel Z) false (by kernel_rfl) (by kernel_rfl) (by kernel_rfl) (bel_drew Z) ?_;have hne:=bel_some Z;have hS:=bel_drew Z;have b1:=sub_row f37;repeat (refine wpLx_loose ?_ ?_;(focus (simp only [chainOp];done));intro K hK;go_simp;refine hK _ ?_;clear hK K)
            refine wpLx_chain ?_ ?_ ?_;(focus (exact hS));(focus (simp only [chainOp];done));intro K hK;go_simp;refine step_keep (bel_alloc hS _) (fun hS=>?_);refine hK _ _ ?_;clear hK K;have hbX : Below Z.heap.size Z (Z.alloc (.cells #[.slice s1.A s1.n s1.c,.slice Ah R'.length ch] 89)):=(Below.refl _ _).alloc (Nat.le_refl _) _;obtain ⟨Y,hY⟩ : ∃ Y,(Z.alloc (.cells #[.slice s1.A s1.n s1.c,.slice Ah R'.length ch] 89)).drew = Y:=⟨_,rfl⟩
            have hbY : Below Z.heap.size Z Y:=by rw [← hY];exact hbX.drew
            have q0 : Y.cell? ⟨Z.heap.size,0,none⟩ = some (.slice s1.A s1.n s1.c):=by rw [← hY];simp [go_sem]
            have q1 : Y.cell? ⟨Z.heap.size,1,none⟩ = some (.slice Ah R'.length ch):=by rw [← hY];simp [go_sem]
            rw [hY] at hS ⊢;clear hY hbX;have u1 : ActsIn Y s1.A s1.n (refF P d.m.id):=SlR.below hs1.rd hbY;have u2 : ActsIn Y Ah R'.length R':=hhs Y (hsa.rd.below hbY);have cc:=concatA Y Z.heap.size 2 s1.A Ah s1.n R'.length s1.c ch _ _ u1 u2 hs1.nil hhf q0 q1 (by omega);repeat (refine wpLx_loose ?_ ?_;(focus (simp only [chainOp];done));intro K hK;go_simp;refine hK _ ?_;clear hK K)
            refine wpLx_chain ?_ ?_ ?_;(focus (exact hS));(focus (simp only [chainOp];done));intro K hK;go_simp;refine cc.mono ?_;rintro e wC ⟨A5,cap5,rfl,ho5,hb5⟩;replace hS:=bel_next hS hb5;refine ⟨_,rfl,hS,hK _ _ ?_⟩;clear hK K cc;repeat (refine wpLx_loose ?_ ?_;(focus (simp only [chainOp];done));intro K hK;go_simp;refine hK _ ?_;clear hK K)
            refine wpLx_nil ?_;intro hS;have hbC : Below Z.heap.size Z wC:=hS;have ho6 : Own wC Y.heap.size 139 70 A5 (s1.n + R'.length) cap5 ((refF P d.m.id ++ R').map actR):=ho5;have hYs:=hbY.size;have hnd : ∀ x ∈ blk A5,x ∉ blk A1:=fun x hx hm=>(by have:=(ho6.at_base hx).1;have:=hAZ x hm;omega);have hoC:=hoZ.below hbC;have hslC:=ho6.slw;have hVC : Below V.heap.size V wC:=hVa.trans (hbC.mono hzV);have hmsC : leftA N wC (.slice A5 (s1.n + R'.length) cap5) = (restL (kids N) NodeV.id (N.length + 1) (kids N (nodeA d).id ++ R'.map nodeA)).length:=by rw [leftA_eq hslC.rd,HRr.out]
            have HmsC:=Lib.hid hmsC;have HVC:=Lib.hid hVC;have HoC:=Lib.hid hoC;have HslC:=Lib.hid hslC;have Hnd:=Lib.hid hnd;clear b1 hne hS hk hhi2 hhs hhf u1 u2 q0 q1 hbY hb5 ho5 ho6 hs1 hsa hra f37 hmsC hVC hoC hslC hnd hoZ hbC;(go_wp2_with fail);go_roundw
            case rel=>exact ⟨X ++ [nodeA d],refF P d.m.id ++ R',A1,n1,cap1,A5,s1.n + R'.length,cap5,rfl,(by first | rfl | go_num),HoC.out,HslC.out,Hnd.out,(show _ = _ by rw [HRr.out];exact Hinv2.out),(show ∀ c ∈ _,_ by rw [HRr.out];exact Hdp2.out),HVC.out⟩
            case measure=>have m1:=HmsC.out;have m2:=Hms.out;have m3:=Hms2.out;omega
          · have hlk:=imiss hset0 hin;have hpS:=HpS.out;rw [if_neg hin] at hpS;have HpS2:=Lib.hid hpS;clear hpS hin;have hbx : Below W0.heap.size W0 (W0.alloc (.cells (pairC ⟨⟨#[]⟩,(oOf d.m).val⟩) 98)):=(Below.refl _ _).alloc (Nat.le_refl _) _;have hown2:=hoa.below hbx;have hrow2 : rowAt (W0.alloc (.cells (pairC ⟨⟨#[]⟩,(oOf d.m).val⟩) 98)) W0.heap.size 0 2 = some (pairC ⟨⟨#[]⟩,(oOf d.m).val⟩):=by simp [go_sem]
            go_upto_region 14 with (at_builtin;refine L_append einfoPair rfl hown2 rfl hrow2 (pairC_one _) (by omega) (by omega) (by simp;omega) ?_;intro A6 cap6 Z hown6 hk6 hsub6)
            have hVZ : Below V.heap.size V Z:=(hVa.trans (hbx.mono (by omega))).trans (hk6.below (by simp;omega) (fun y hy=>(hoa.at_base hy).1));have hoZ : Own Z V.heap.size 98 2 A6 (n1 + 1) cap6 ((pS (X ++ [nodeA d]) G).map pairC):=by rw [HpS2.out];simpa using hown6
            have hgA : gx ∉ blk A1:=fun hm=>(by have:=HdA.out gx hm;have:=Hgx.out;omega);have hraZ : rowAt Z gx 0 70 = some (actR d):=(hk6.row (by simp;omega) hgA 0 70).trans ((rowAt_of_block (hbx.block gx (by omega)) 0 70).trans hra);have hsZ : SlW Z (some ⟨q,o,none⟩) (R'.length + 1) cap2 70 ((d :: R').map actR):=(hsa.below hbx).kept hk6 Hdis.out;have hzZ : gx + 1 ≤ Z.heap.size:=by have:=hk6.size;simp at this;omega
            clear hra hsa hVa hza f37 f3 hlk hoa hown6 hk6 hsub6 hown2 hrow2 hbx;have hra:=hraZ;have hsa:=hsZ;have hVa:=hVZ;have hza:=hzZ;have f37 : rowAt Z gx 37 32 = some (idC d.m.id):=by have:=rowAt_sub hra (j:=37) (m:=32) (by omega);rwa [actR_e37,Nat.zero_add] at this
            have hAZ : ∀ x ∈ blk A6,x < Z.heap.size:=fun x hx=>(hoZ.at_base hx).2;clear hraZ hsZ hVZ hzZ;have htZ:=htV.below hVa;obtain ⟨s1,hs1,hl1⟩:=htZ.look d.m.id;have hk : ∀ x : Subtype (Bel Z),(Instr.lookup 148 (.map (some gt)) (.agg (idC d.m.id)) false).run Tryz.prog x.1 = .ok (.slice s1.A s1.n s1.c) x.1:=fun x=>hl1 x.1 x.2;have hs1n : (refF P d.m.id).length = s1.n:=by have:=hs1.len;simpa using this
            have hkl1 : (refF P d.m.id).length ≤ 30:=by have e:=congrArg List.length (Hkids.out d.m.id);rw [List.length_map] at e;have:=kids_length N d.m.id;omega
            obtain ⟨Ah,ch,hhi,hhs,hhf⟩:=hsa.hi (P:=Tryz.prog) einfoAct (m:=1) (by omega);have hhi2 : ∀ w0 : World,(slS 89 (.slice (some ⟨q,o,none⟩) (R'.length + 1) cap2) (some (.int .i64 1)) none none).run Tryz.prog w0 = .ok (.slice Ah R'.length ch) w0:=hhi;have hRr : (refF P d.m.id ++ R').map nodeA = kids N (nodeA d).id ++ R'.map nodeA:=by rw [List.map_append];congr 1;exact Hkids.out _
            have HRr:=Lib.hid hRr;have hzV:=hVa.size;clear hRr htZ hl1 hhi;go_upto_region 14 with fail
            refine wp_region_lex (Bel Z) false (by kernel_rfl) (by kernel_rfl) (by kernel_rfl) (bel_drew Z) ?_;have hne:=bel_some Z;have hS:=bel_drew Z;have b1:=sub_row f37;repeat (refine wpLx_loose ?_ ?_;(focus (simp only [chainOp];done));intro K hK;go_simp;refine hK _ ?_;clear hK K)
            refine wpLx_chain ?_ ?_ ?_;(focus (exact hS));(focus (simp only [chainOp];done));intro K hK;go_simp;refine step_keep (bel_alloc hS _) (fun hS=>?_);refine hK _ _ ?_;clear hK K;have hbX : Below Z.heap.size Z (Z.alloc (.cells #[.slice s1.A s1.n s1.c,.slice Ah R'.length ch] 89)):=(Below.refl _ _).alloc (Nat.le_refl _) _;obtain ⟨Y,hY⟩ : ∃ Y,(Z.alloc (.cells #[.slice s1.A s1.n s1.c,.slice Ah R'.length ch] 89)).drew = Y:=⟨_,rfl⟩
            have hbY : Below Z.heap.size Z Y:=by rw [← hY];exact hbX.drew
            have q0 : Y.cell? ⟨Z.heap.size,0,none⟩ = some (.slice s1.A s1.n s1.c):=by rw [← hY];simp [go_sem]
            have q1 : Y.cell? ⟨Z.heap.size,1,none⟩ = some (.slice Ah R'.length ch):=by rw [← hY];simp [go_sem]
            rw [hY] at hS ⊢;clear hY hbX;have u1 : ActsIn Y s1.A s1.n (refF P d.m.id):=SlR.below hs1.rd hbY;have u2 : ActsIn Y Ah R'.length R':=hhs Y (hsa.rd.below hbY);have cc:=concatA Y Z.heap.size 2 s1.A Ah s1.n R'.length s1.c ch _ _ u1 u2 hs1.nil hhf q0 q1 (by omega);repeat (refine wpLx_loose ?_ ?_;(focus (simp only [chainOp];done));intro K hK;go_simp;refine hK _ ?_;clear hK K)
            refine wpLx_chain ?_ ?_ ?_;(focus (exact hS));(focus (simp only [chainOp];done));intro K hK;go_simp;refine cc.mono ?_;rintro e wC ⟨A5,cap5,rfl,ho5,hb5⟩;replace hS:=bel_next hS hb5;refine ⟨_,rfl,hS,hK _ _ ?_⟩;clear hK K cc;repeat (refine wpLx_loose ?_ ?_;(focus (simp only [chainOp];done));intro K hK;go_simp;refine hK _ ?_;clear hK K)
            refine wpLx_nil ?_;intro hS;have hbC : Below Z.heap.size Z wC:=hS;have ho6 : Own wC Y.heap.size 139 70 A5 (s1.n + R'.length) cap5 ((refF P d.m.id ++ R').map actR):=ho5;have hYs:=hbY.size;have hnd : ∀ x ∈ blk A5,x ∉ blk A6:=fun x hx hm=>(by have:=(ho6.at_base hx).1;have:=hAZ x hm;omega);have hoC:=hoZ.below hbC;have hslC:=ho6.slw;have hVC : Below V.heap.size V wC:=hVa.trans (hbC.mono hzV);have hmsC : leftA N wC (.slice A5 (s1.n + R'.length) cap5) = (restL (kids N) NodeV.id (N.length + 1) (kids N (nodeA d).id ++ R'.map nodeA)).length:=by rw [leftA_eq hslC.rd,HRr.out]
            have HmsC:=Lib.hid hmsC;have HVC:=Lib.hid hVC;have HoC:=Lib.hid hoC;have HslC:=Lib.hid hslC;have Hnd:=Lib.hid hnd;clear b1 hne hS hk hhi2 hhs hhf u1 u2 q0 q1 hbY hb5 ho5 ho6 hs1 hsa hra f37 hmsC hVC hoC hslC hnd hoZ hbC;(go_wp2_with fail);go_roundw
            case rel=>exact ⟨X ++ [nodeA d],refF P d.m.id ++ R',A6,n1 + 1,cap6,A5,s1.n + R'.length,cap5,rfl,(by first | rfl | go_num),HoC.out,HslC.out,Hnd.out,(show _ = _ by rw [HRr.out];exact Hinv2.out),(show ∀ c ∈ _,_ by rw [HRr.out];exact Hdp2.out),HVC.out⟩
            case measure=>have m1:=HmsC.out;have m2:=Hms.out;have m3:=Hms2.out;omega
end
section
open Go.RowKit Stb
set_option maxRecDepth 100000 in
set_option maxHeartbeats 4000000 in
theorem dval_2 (t : ByteArray) (A : Option Addr) (n cap : Nat) (R : List MarkV) (w : World) (Ps : List Pair) (hm : MarksIn w A n R) (hn : n ≤ 1000) (ho : (onceM R).length ≤ 30) (hs : ∀ m ∈ R,m.body.size ≤ 600) (hp : PartsVar w) (ht : t.size ≤ 9223372036854775807) (hk : kindB t = 2) (hFl : (fitM t R).length ≤ 30)
    (hl : ∀ (w' : World) (A' : Option Addr) (cap' : Nat) (L : List ActM) (B : Nat),ActsAt w' B A' L.length cap' L → L.length ≤ 30 → L.map ActM.m = fitM t R → Calls Tryz.prog 46 #[.slice A' L.length cap'] w' fun e w''=>∃ A2 n2 cap2,e = .returned (.slice A2 n2 cap2) ∧ Own w'' w'.heap.size 98 2 A2 n2 cap2 (Ps.map pairC) ∧ Below w'.heap.size w' w'') :
    Calls Tryz.prog 13 #[.string t,.slice A n cap] w fun e w'=>∃ A2 n2 cap2,e = .returned (.tuple #[.agg (valVC ⟨2,0,.slice A2 n2 cap2⟩),.int .i64 0]) ∧ PairsIn w' A2 n2 Ps ∧ Below w.heap.size w w':=by
  have hB : Below w.heap.size w (w.alloc (.cells (valVC valV0) 25)):=(Below.refl _ _).alloc (Nat.le_refl _) _;have hg1 : (w.alloc (.cells (valVC valV0) 25)).heap[w.heap.size]? = some (.cells (valVC valV0) 25 (0,0)):=heap_alloc_new w _;have c1:=fun w=>check_any t w ht;have c2:=fun w=>kind_any t w ht;have ca:=fun w' (hb : Below w.heap.size w w')=>acts_any t A n cap R w' (SlR.below hm hb) hn ho hs (hp.below hb);have hcz : checkB t = 0:=by unfold checkB;rw [if_neg (by omega)]
  rw [hcz] at c1;rw [hk] at c2;simp only [hk] at ca;obtain ⟨F,hF⟩ : ∃ F,fitM t R = F:=⟨_,rfl⟩
  simp only [hF] at ca;rw [hF] at hFl hl;clear hcz hm hs hp hF hk;go_enter Tryz.func13,Tryz.ntmps13
  go_upto_region 1 with fail
  obtain ⟨ga,hga⟩ : ∃ ga,w.heap.size = ga:=⟨_,rfl⟩
  have Hga:=Lib.hid hga;rw [hga] at hg1 hB ⊢;simp only [hga] at ca;obtain ⟨W,hW⟩ : ∃ W,W = w.alloc (.cells (valVC valV0) 25):=⟨_,rfl⟩
  rw [← hW] at hg1 hB ⊢;clear hW hga;(go_wp2_with fail);refine (c1 _).mono ?_;rintro e w1 ⟨rfl,hb1⟩;have hg2:=(hb1.block ga (Array.getElem?_eq_some_iff.1 hg1).1).trans hg1;have hB2 : Below ga w w1:=hB.trans (hb1.mono (by have:=hB.size;have:=Hga.out;omega));clear hg1 hB hb1 c1;(go_wp2_with fail);refine (c2 _).mono ?_;rintro e w2 ⟨rfl,hb2⟩;have hg3:=(hb2.block ga (Array.getElem?_eq_some_iff.1 hg2).1).trans hg2;have hB3 : Below ga w w2:=hB2.trans (hb2.mono (by have:=hB2.size;have:=Hga.out;omega));have hs2 : ga < w2.heap.size:=(Array.getElem?_eq_some_iff.1 hg3).1;clear hg2 hB2 hb2 c2;have hb3 : Below w2.heap.size w2 (w2.alloc (.cells (valVC ⟨2,0,.slice none 0 0⟩) 25)):=(Below.refl _ _).alloc (Nat.le_refl _) _;have hg4:=(hb3.block ga hs2).trans hg3;have hB4 : Below ga w (w2.alloc (.cells (valVC ⟨2,0,.slice none 0 0⟩) 25)):=hB3.trans (hb3.mono (by omega));have hv4 : (w2.alloc (.cells (valVC ⟨2,0,.slice none 0 0⟩) 25)).heap[w2.heap.size]? = some (.cells (valVC ⟨2,0,.slice none 0 0⟩) 25 (0,0)):=heap_alloc_new w2 _;obtain ⟨gv,hgv⟩ : ∃ gv,w2.heap.size = gv:=⟨_,rfl⟩
  clear hg3 hB3 hb3;go_upto_region 5 with fail
  rw [hgv] at hv4 hs2;obtain ⟨W3,hW3⟩ : ∃ W3,W3 = (w2.alloc (.cells (valVC ⟨2,0,.slice none 0 0⟩) 25)):=⟨_,rfl⟩
  rw [← hW3] at hg4 hB4 hv4 ⊢;clear hW3 hgv;have hc0 : W3.cell? ⟨gv,0,none⟩ = some (.int .i64 2):=by rw [cell_of_row W3 gv 0 _ _ _ hv4];simp [go_sem]
  have ca':=ca W3 hB4;clear ca;(go_wp2_with fail);refine ca'.mono ?_;rintro e w5 ⟨A5,cap5,L,rfl,hacts,hLF,hb5⟩;have hg5:=(hb5.block ga (Array.getElem?_eq_some_iff.1 hg4).1).trans hg4;have hv5:=(hb5.block gv (Array.getElem?_eq_some_iff.1 hv4).1).trans hv4;have hB5 : Below ga w w5:=hB4.trans (hb5.mono (by have:=hB4.size;have:=Hga.out;omega));have hLl : L.length ≤ 30:=by have e:=congrArg List.length hLF;rw [List.length_map] at e;omega
  have hc5 : w5.cell? ⟨gv,0,none⟩ = some (.int .i64 2):=by rw [cell_of_row w5 gv 0 _ _ _ hv5];simp [go_sem]
  have hlc:=hl w5 A5 cap5 L _ hacts hLl hLF;have hgvl : gv < w5.heap.size:=(Array.getElem?_eq_some_iff.1 hv5).1;have hgal : ga < w5.heap.size:=(Array.getElem?_eq_some_iff.1 hg5).1;clear ca' hacts hLF hb5 hg4 hv4 hB4 hc0 hl;have hf : ∀ w',Below w5.heap.size w5 w' → w'.frozen? ⟨gv,2,none⟩ = false:=fun w' hb=>by
    have:=(hb.block gv hgvl).trans hv5;simp [World.frozen?,this]
  have hcv : ∀ w',Below w5.heap.size w5 w' → w'.cell? ⟨gv,2,none⟩ = some (.slice none 0 0):=fun w' hb=>by
    rw [cell_of_row w' gv 2 _ _ _ ((hb.block gv hgvl).trans hv5)];simp [go_sem]
  (go_wp2_with fail);refine hlc.mono ?_;rintro e w6 ⟨A2,n2,cap2,rfl,hown,hb6⟩;have hf6:=hf w6 hb6;have hcv6:=hcv w6 hb6;have hset : (valVC ⟨2,0,.slice none 0 0⟩).setIfInBounds 2 (.slice A2 n2 cap2) = valVC ⟨2,0,.slice A2 n2 cap2⟩:=by apply Array.ext';simp [valVC]
  have hv6:=(hb6.block gv hgvl).trans hv5;have hv4 : (w6.setCell ⟨gv,2,none⟩ (.slice A2 n2 cap2)).heap[gv]? = some (.cells (valVC ⟨2,0,.slice A2 n2 cap2⟩) 25 (0,0)):=by rw [heap_setCell_same hv6,hset]
  have hks:=Keep.setCell w6 ⟨gv,2,none⟩ (.slice A2 n2 cap2);have hz6:=hb6.size;have hg6:=(hb6.block ga hgal).trans hg5;have hg4 : (w6.setCell ⟨gv,2,none⟩ (.slice A2 n2 cap2)).heap[ga]? = some (.cells (valVC valV0) 25 (0,0)):=(hks.block ga (by omega) (by simp;omega)).trans hg6;have hB6 : Below ga w w6:=hB5.trans (hb6.mono (by omega));have hB4 : Below ga w (w6.setCell ⟨gv,2,none⟩ (.slice A2 n2 cap2)):=hB6.trans (hks.below (by omega) (by simp;omega));have hown4:=hown.kept hks (fun x hx=>by have:=(hown.at_base hx).1;simp;omega);clear hset hks hlc hf hcv hv5 hB5 hc5 hg5 hg6 hB6 hb6;go_upto_region 17 with fail
  obtain ⟨W4,hW4⟩ : ∃ W4,W4 = w6.setCell ⟨gv,2,none⟩ (.slice A2 n2 cap2):=⟨_,rfl⟩
  rw [← hW4] at hv4 hg4 hB4 hown4 ⊢;clear hW4 hf6 hcv6 hv6 hown;have hrow : rowAt W4 gv 0 3 = some (valVC ⟨2,0,.slice A2 n2 cap2⟩):=by unfold rowAt;rw [hv4];simp [go_sem]
  have hsto:=run_stS_at (P:=Tryz.prog) infoValV W4 ga (valVC valV0) (valVC ⟨2,0,.slice A2 n2 cap2⟩) _ hg4 (by simp) (by simp) (valVC_one _ rfl);have hkf : Keep [ga] W4 (W4.setRow ga (valVC ⟨2,0,.slice A2 n2 cap2⟩)):=⟨rfl,rfl,rfl,by simp [World.setRow],fun x _ hx=>setRow_other W4 ga x _ (by simpa using hx)⟩
  have Hfin:=Lib.hid (setRow_heap W4 ga _ (valVC ⟨2,0,.slice A2 n2 cap2⟩) _ _ hg4);have HBf:=Lib.hid (hB4.trans (hkf.below (by have:=hB4.size;have:=Hga.out;omega) (by simp)));have HO:=Lib.hid (hown4.kept hkf (fun x hx=>by have:=(hown4.at_base hx).1;simp;omega)).slr;clear hkf hg4 hB4 hv4 hown4;(go_wp2_with fail);refine bodyPost_ret (results_cell_tmp Tryz.results13 _ _ ga 25 (valVC ⟨2,0,.slice A2 n2 cap2⟩) (0,0) _ rfl Hfin.out Tryz.underlying25 rfl (by rw [valVC_size];exact infoValV)) rfl ?_;exact ⟨A2,n2,cap2,rfl,HO.out,by rw [Hga.out];exact HBf.out⟩
set_option maxRecDepth 100000 in
set_option maxHeartbeats 4000000 in
theorem dval_3 (t : ByteArray) (A : Option Addr) (n cap : Nat) (R : List MarkV) (w : World) (Ps : List Pair) (hm : MarksIn w A n R) (hn : n ≤ 1000) (ho : (onceM R).length ≤ 30) (hs : ∀ m ∈ R,m.body.size ≤ 600) (hp : PartsVar w) (ht : t.size ≤ 9223372036854775807) (hk : kindB t = 3) (hFl : (fitM t R).length ≤ 30)
    (hl : ∀ (w' : World) (A' : Option Addr) (cap' : Nat) (L : List ActM) (B : Nat),ActsAt w' B A' L.length cap' L → L.length ≤ 30 → L.map ActM.m = fitM t R → Calls Tryz.prog 47 #[.slice A' L.length cap'] w' fun e w''=>∃ A2 n2 cap2,e = .returned (.slice A2 n2 cap2) ∧ Own w'' w'.heap.size 98 2 A2 n2 cap2 (Ps.map pairC) ∧ Below w'.heap.size w' w'') :
    Calls Tryz.prog 13 #[.string t,.slice A n cap] w fun e w'=>∃ A2 n2 cap2,e = .returned (.tuple #[.agg (valVC ⟨3,0,.slice A2 n2 cap2⟩),.int .i64 0]) ∧ PairsIn w' A2 n2 Ps ∧ Below w.heap.size w w':=by
  have hB : Below w.heap.size w (w.alloc (.cells (valVC valV0) 25)):=(Below.refl _ _).alloc (Nat.le_refl _) _;have hg1 : (w.alloc (.cells (valVC valV0) 25)).heap[w.heap.size]? = some (.cells (valVC valV0) 25 (0,0)):=heap_alloc_new w _;have c1:=fun w=>check_any t w ht;have c2:=fun w=>kind_any t w ht;have ca:=fun w' (hb : Below w.heap.size w w')=>acts_any t A n cap R w' (SlR.below hm hb) hn ho hs (hp.below hb);have hcz : checkB t = 0:=by unfold checkB;rw [if_neg (by omega)]
  rw [hcz] at c1;rw [hk] at c2;simp only [hk] at ca;obtain ⟨F,hF⟩ : ∃ F,fitM t R = F:=⟨_,rfl⟩
  simp only [hF] at ca;rw [hF] at hFl hl;clear hcz hm hs hp hF hk;go_enter Tryz.func13,Tryz.ntmps13
  go_upto_region 1 with fail
  obtain ⟨ga,hga⟩ : ∃ ga,w.heap.size = ga:=⟨_,rfl⟩
  have Hga:=Lib.hid hga;rw [hga] at hg1 hB ⊢;simp only [hga] at ca;obtain ⟨W,hW⟩ : ∃ W,W = w.alloc (.cells (valVC valV0) 25):=⟨_,rfl⟩
  rw [← hW] at hg1 hB ⊢;clear hW hga;(go_wp2_with fail);refine (c1 _).mono ?_;rintro e w1 ⟨rfl,hb1⟩;have hg2:=(hb1.block ga (Array.getElem?_eq_some_iff.1 hg1).1).trans hg1;have hB2 : Below ga w w1:=hB.trans (hb1.mono (by have:=hB.size;have:=Hga.out;omega));clear hg1 hB hb1 c1;(go_wp2_with fail);refine (c2 _).mono ?_;rintro e w2 ⟨rfl,hb2⟩;have hg3:=(hb2.block ga (Array.getElem?_eq_some_iff.1 hg2).1).trans hg2;have hB3 : Below ga w w2:=hB2.trans (hb2.mono (by have:=hB2.size;have:=Hga.out;omega));have hs2 : ga < w2.heap.size:=(Array.getElem?_eq_some_iff.1 hg3).1;clear hg2 hB2 hb2 c2;have hb3 : Below w2.heap.size w2 (w2.alloc (.cells (valVC ⟨3,0,.slice none 0 0⟩) 25)):=(Below.refl _ _).alloc (Nat.le_refl _) _;have hg4:=(hb3.block ga hs2).trans hg3;have hB4 : Below ga w (w2.alloc (.cells (valVC ⟨3,0,.slice none 0 0⟩) 25)):=hB3.trans (hb3.mono (by omega));have hv4 : (w2.alloc (.cells (valVC ⟨3,0,.slice none 0 0⟩) 25)).heap[w2.heap.size]? = some (.cells (valVC ⟨3,0,.slice none 0 0⟩) 25 (0,0)):=heap_alloc_new w2 _;obtain ⟨gv,hgv⟩ : ∃ gv,w2.heap.size = gv:=⟨_,rfl⟩
  clear hg3 hB3 hb3;go_upto_region 5 with fail
  rw [hgv] at hv4 hs2;obtain ⟨W3,hW3⟩ : ∃ W3,W3 = (w2.alloc (.cells (valVC ⟨3,0,.slice none 0 0⟩) 25)):=⟨_,rfl⟩
  rw [← hW3] at hg4 hB4 hv4 ⊢;clear hW3 hgv;have hc0 : W3.cell? ⟨gv,0,none⟩ = some (.int .i64 3):=by rw [cell_of_row W3 gv 0 _ _ _ hv4];simp [go_sem]
  have ca':=ca W3 hB4;clear ca;(go_wp2_with fail);refine ca'.mono ?_;rintro e w5 ⟨A5,cap5,L,rfl,hacts,hLF,hb5⟩;have hg5:=(hb5.block ga (Array.getElem?_eq_some_iff.1 hg4).1).trans hg4;have hv5:=(hb5.block gv (Array.getElem?_eq_some_iff.1 hv4).1).trans hv4;have hB5 : Below ga w w5:=hB4.trans (hb5.mono (by have:=hB4.size;have:=Hga.out;omega));have hLl : L.length ≤ 30:=by have e:=congrArg List.length hLF;rw [List.length_map] at e;omega
  have hc5 : w5.cell? ⟨gv,0,none⟩ = some (.int .i64 3):=by rw [cell_of_row w5 gv 0 _ _ _ hv5];simp [go_sem]
  have hlc:=hl w5 A5 cap5 L _ hacts hLl hLF;have hgvl : gv < w5.heap.size:=(Array.getElem?_eq_some_iff.1 hv5).1;have hgal : ga < w5.heap.size:=(Array.getElem?_eq_some_iff.1 hg5).1;clear ca' hacts hLF hb5 hg4 hv4 hB4 hc0 hl;have hf : ∀ w',Below w5.heap.size w5 w' → w'.frozen? ⟨gv,2,none⟩ = false:=fun w' hb=>by
    have:=(hb.block gv hgvl).trans hv5;simp [World.frozen?,this]
  have hcv : ∀ w',Below w5.heap.size w5 w' → w'.cell? ⟨gv,2,none⟩ = some (.slice none 0 0):=fun w' hb=>by
    rw [cell_of_row w' gv 2 _ _ _ ((hb.block gv hgvl).trans hv5)];simp [go_sem]
  (go_wp2_with fail);refine hlc.mono ?_;rintro e w6 ⟨A2,n2,cap2,rfl,hown,hb6⟩;have hf6:=hf w6 hb6;have hcv6:=hcv w6 hb6;have hset : (valVC ⟨3,0,.slice none 0 0⟩).setIfInBounds 2 (.slice A2 n2 cap2) = valVC ⟨3,0,.slice A2 n2 cap2⟩:=by apply Array.ext';simp [valVC]
  have hv6:=(hb6.block gv hgvl).trans hv5;have hv4 : (w6.setCell ⟨gv,2,none⟩ (.slice A2 n2 cap2)).heap[gv]? = some (.cells (valVC ⟨3,0,.slice A2 n2 cap2⟩) 25 (0,0)):=by rw [heap_setCell_same hv6,hset]
  have hks:=Keep.setCell w6 ⟨gv,2,none⟩ (.slice A2 n2 cap2);have hz6:=hb6.size;have hg6:=(hb6.block ga hgal).trans hg5;have hg4 : (w6.setCell ⟨gv,2,none⟩ (.slice A2 n2 cap2)).heap[ga]? = some (.cells (valVC valV0) 25 (0,0)):=(hks.block ga (by omega) (by simp;omega)).trans hg6;have hB6 : Below ga w w6:=hB5.trans (hb6.mono (by omega));have hB4 : Below ga w (w6.setCell ⟨gv,2,none⟩ (.slice A2 n2 cap2)):=hB6.trans (hks.below (by omega) (by simp;omega));have hown4:=hown.kept hks (fun x hx=>by have:=(hown.at_base hx).1;simp;omega);clear hset hks hlc hf hcv hv5 hB5 hc5 hg5 hg6 hB6 hb6;go_upto_region 17 with fail
  obtain ⟨W4,hW4⟩ : ∃ W4,W4 = w6.setCell ⟨gv,2,none⟩ (.slice A2 n2 cap2):=⟨_,rfl⟩
  rw [← hW4] at hv4 hg4 hB4 hown4 ⊢;clear hW4 hf6 hcv6 hv6 hown;have hrow : rowAt W4 gv 0 3 = some (valVC ⟨3,0,.slice A2 n2 cap2⟩):=by unfold rowAt;rw [hv4];simp [go_sem]
  have hsto:=run_stS_at (P:=Tryz.prog) infoValV W4 ga (valVC valV0) (valVC ⟨3,0,.slice A2 n2 cap2⟩) _ hg4 (by simp) (by simp) (valVC_one _ rfl);have hkf : Keep [ga] W4 (W4.setRow ga (valVC ⟨3,0,.slice A2 n2 cap2⟩)):=⟨rfl,rfl,rfl,by simp [World.setRow],fun x _ hx=>setRow_other W4 ga x _ (by simpa using hx)⟩
  have Hfin:=Lib.hid (setRow_heap W4 ga _ (valVC ⟨3,0,.slice A2 n2 cap2⟩) _ _ hg4);have HBf:=Lib.hid (hB4.trans (hkf.below (by have:=hB4.size;have:=Hga.out;omega) (by simp)));have HO:=Lib.hid (hown4.kept hkf (fun x hx=>by have:=(hown4.at_base hx).1;simp;omega)).slr;clear hkf hg4 hB4 hv4 hown4;(go_wp2_with fail);refine bodyPost_ret (results_cell_tmp Tryz.results13 _ _ ga 25 (valVC ⟨3,0,.slice A2 n2 cap2⟩) (0,0) _ rfl Hfin.out Tryz.underlying25 rfl (by rw [valVC_size];exact infoValV)) rfl ?_;exact ⟨A2,n2,cap2,rfl,HO.out,by rw [Hga.out];exact HBf.out⟩
set_option maxRecDepth 100000 in
set_option maxHeartbeats 4000000 in
theorem dval_4 (t : ByteArray) (A : Option Addr) (n cap : Nat) (R : List MarkV) (w : World) (Ps : List Pair) (hm : MarksIn w A n R) (hn : n ≤ 1000) (ho : (onceM R).length ≤ 30) (hs : ∀ m ∈ R,m.body.size ≤ 600) (hp : PartsVar w) (ht : t.size ≤ 9223372036854775807) (hk : kindB t = 4) (hFl : (fitM t R).length ≤ 30)
    (hl : ∀ (w' : World) (A' : Option Addr) (cap' : Nat) (L : List ActM) (B : Nat),ActsAt w' B A' L.length cap' L → L.length ≤ 30 → L.map ActM.m = fitM t R → Calls Tryz.prog 48 #[.slice A' L.length cap'] w' fun e w''=>∃ A2 n2 cap2,e = .returned (.slice A2 n2 cap2) ∧ Own w'' w'.heap.size 98 2 A2 n2 cap2 (Ps.map pairC) ∧ Below w'.heap.size w' w'') :
    Calls Tryz.prog 13 #[.string t,.slice A n cap] w fun e w'=>∃ A2 n2 cap2,e = .returned (.tuple #[.agg (valVC ⟨4,0,.slice A2 n2 cap2⟩),.int .i64 0]) ∧ PairsIn w' A2 n2 Ps ∧ Below w.heap.size w w':=by
  have hB : Below w.heap.size w (w.alloc (.cells (valVC valV0) 25)):=(Below.refl _ _).alloc (Nat.le_refl _) _;have hg1 : (w.alloc (.cells (valVC valV0) 25)).heap[w.heap.size]? = some (.cells (valVC valV0) 25 (0,0)):=heap_alloc_new w _;have c1:=fun w=>check_any t w ht;have c2:=fun w=>kind_any t w ht;have ca:=fun w' (hb : Below w.heap.size w w')=>acts_any t A n cap R w' (SlR.below hm hb) hn ho hs (hp.below hb);have hcz : checkB t = 0:=by unfold checkB;rw [if_neg (by omega)]
  rw [hcz] at c1;rw [hk] at c2;simp only [hk] at ca;obtain ⟨F,hF⟩ : ∃ F,fitM t R = F:=⟨_,rfl⟩
  simp only [hF] at ca;rw [hF] at hFl hl;clear hcz hm hs hp hF hk;go_enter Tryz.func13,Tryz.ntmps13
  go_upto_region 1 with fail
  obtain ⟨ga,hga⟩ : ∃ ga,w.heap.size = ga:=⟨_,rfl⟩
  have Hga:=Lib.hid hga;rw [hga] at hg1 hB ⊢;simp only [hga] at ca;obtain ⟨W,hW⟩ : ∃ W,W = w.alloc (.cells (valVC valV0) 25):=⟨_,rfl⟩
  rw [← hW] at hg1 hB ⊢;clear hW hga;(go_wp2_with fail);refine (c1 _).mono ?_;rintro e w1 ⟨rfl,hb1⟩;have hg2:=(hb1.block ga (Array.getElem?_eq_some_iff.1 hg1).1).trans hg1;have hB2 : Below ga w w1:=hB.trans (hb1.mono (by have:=hB.size;have:=Hga.out;omega));clear hg1 hB hb1 c1;(go_wp2_with fail);refine (c2 _).mono ?_;rintro e w2 ⟨rfl,hb2⟩;have hg3:=(hb2.block ga (Array.getElem?_eq_some_iff.1 hg2).1).trans hg2;have hB3 : Below ga w w2:=hB2.trans (hb2.mono (by have:=hB2.size;have:=Hga.out;omega));have hs2 : ga < w2.heap.size:=(Array.getElem?_eq_some_iff.1 hg3).1;clear hg2 hB2 hb2 c2;have hb3 : Below w2.heap.size w2 (w2.alloc (.cells (valVC ⟨4,0,.slice none 0 0⟩) 25)):=(Below.refl _ _).alloc (Nat.le_refl _) _;have hg4:=(hb3.block ga hs2).trans hg3;have hB4 : Below ga w (w2.alloc (.cells (valVC ⟨4,0,.slice none 0 0⟩) 25)):=hB3.trans (hb3.mono (by omega));have hv4 : (w2.alloc (.cells (valVC ⟨4,0,.slice none 0 0⟩) 25)).heap[w2.heap.size]? = some (.cells (valVC ⟨4,0,.slice none 0 0⟩) 25 (0,0)):=heap_alloc_new w2 _;obtain ⟨gv,hgv⟩ : ∃ gv,w2.heap.size = gv:=⟨_,rfl⟩
  clear hg3 hB3 hb3;go_upto_region 5 with fail
  rw [hgv] at hv4 hs2;obtain ⟨W3,hW3⟩ : ∃ W3,W3 = (w2.alloc (.cells (valVC ⟨4,0,.slice none 0 0⟩) 25)):=⟨_,rfl⟩
  rw [← hW3] at hg4 hB4 hv4 ⊢;clear hW3 hgv;have hc0 : W3.cell? ⟨gv,0,none⟩ = some (.int .i64 4):=by rw [cell_of_row W3 gv 0 _ _ _ hv4];simp [go_sem]
  have ca':=ca W3 hB4;clear ca;(go_wp2_with fail);refine ca'.mono ?_;rintro e w5 ⟨A5,cap5,L,rfl,hacts,hLF,hb5⟩;have hg5:=(hb5.block ga (Array.getElem?_eq_some_iff.1 hg4).1).trans hg4;have hv5:=(hb5.block gv (Array.getElem?_eq_some_iff.1 hv4).1).trans hv4;have hB5 : Below ga w w5:=hB4.trans (hb5.mono (by have:=hB4.size;have:=Hga.out;omega));have hLl : L.length ≤ 30:=by have e:=congrArg List.length hLF;rw [List.length_map] at e;omega
  have hc5 : w5.cell? ⟨gv,0,none⟩ = some (.int .i64 4):=by rw [cell_of_row w5 gv 0 _ _ _ hv5];simp [go_sem]
  have hlc:=hl w5 A5 cap5 L _ hacts hLl hLF;have hgvl : gv < w5.heap.size:=(Array.getElem?_eq_some_iff.1 hv5).1;have hgal : ga < w5.heap.size:=(Array.getElem?_eq_some_iff.1 hg5).1;clear ca' hacts hLF hb5 hg4 hv4 hB4 hc0 hl;have hf : ∀ w',Below w5.heap.size w5 w' → w'.frozen? ⟨gv,2,none⟩ = false:=fun w' hb=>by
    have:=(hb.block gv hgvl).trans hv5;simp [World.frozen?,this]
  have hcv : ∀ w',Below w5.heap.size w5 w' → w'.cell? ⟨gv,2,none⟩ = some (.slice none 0 0):=fun w' hb=>by
    rw [cell_of_row w' gv 2 _ _ _ ((hb.block gv hgvl).trans hv5)];simp [go_sem]
  (go_wp2_with fail);refine hlc.mono ?_;rintro e w6 ⟨A2,n2,cap2,rfl,hown,hb6⟩;have hf6:=hf w6 hb6;have hcv6:=hcv w6 hb6;have hset : (valVC ⟨4,0,.slice none 0 0⟩).setIfInBounds 2 (.slice A2 n2 cap2) = valVC ⟨4,0,.slice A2 n2 cap2⟩:=by apply Array.ext';simp [valVC]
  have hv6:=(hb6.block gv hgvl).trans hv5;have hv4 : (w6.setCell ⟨gv,2,none⟩ (.slice A2 n2 cap2)).heap[gv]? = some (.cells (valVC ⟨4,0,.slice A2 n2 cap2⟩) 25 (0,0)):=by rw [heap_setCell_same hv6,hset]
  have hks:=Keep.setCell w6 ⟨gv,2,none⟩ (.slice A2 n2 cap2);have hz6:=hb6.size;have hg6:=(hb6.block ga hgal).trans hg5;have hg4 : (w6.setCell ⟨gv,2,none⟩ (.slice A2 n2 cap2)).heap[ga]? = some (.cells (valVC valV0) 25 (0,0)):=(hks.block ga (by omega) (by simp;omega)).trans hg6;have hB6 : Below ga w w6:=hB5.trans (hb6.mono (by omega));have hB4 : Below ga w (w6.setCell ⟨gv,2,none⟩ (.slice A2 n2 cap2)):=hB6.trans (hks.below (by omega) (by simp;omega));have hown4:=hown.kept hks (fun x hx=>by have:=(hown.at_base hx).1;simp;omega);clear hset hks hlc hf hcv hv5 hB5 hc5 hg5 hg6 hB6 hb6;go_upto_region 17 with fail
  obtain ⟨W4,hW4⟩ : ∃ W4,W4 = w6.setCell ⟨gv,2,none⟩ (.slice A2 n2 cap2):=⟨_,rfl⟩
  rw [← hW4] at hv4 hg4 hB4 hown4 ⊢;clear hW4 hf6 hcv6 hv6 hown;have hrow : rowAt W4 gv 0 3 = some (valVC ⟨4,0,.slice A2 n2 cap2⟩):=by unfold rowAt;rw [hv4];simp [go_sem]
  have hsto:=run_stS_at (P:=Tryz.prog) infoValV W4 ga (valVC valV0) (valVC ⟨4,0,.slice A2 n2 cap2⟩) _ hg4 (by simp) (by simp) (valVC_one _ rfl);have hkf : Keep [ga] W4 (W4.setRow ga (valVC ⟨4,0,.slice A2 n2 cap2⟩)):=⟨rfl,rfl,rfl,by simp [World.setRow],fun x _ hx=>setRow_other W4 ga x _ (by simpa using hx)⟩
  have Hfin:=Lib.hid (setRow_heap W4 ga _ (valVC ⟨4,0,.slice A2 n2 cap2⟩) _ _ hg4);have HBf:=Lib.hid (hB4.trans (hkf.below (by have:=hB4.size;have:=Hga.out;omega) (by simp)));have HO:=Lib.hid (hown4.kept hkf (fun x hx=>by have:=(hown4.at_base hx).1;simp;omega)).slr;clear hkf hg4 hB4 hv4 hown4;(go_wp2_with fail);refine bodyPost_ret (results_cell_tmp Tryz.results13 _ _ ga 25 (valVC ⟨4,0,.slice A2 n2 cap2⟩) (0,0) _ rfl Hfin.out Tryz.underlying25 rfl (by rw [valVC_size];exact infoValV)) rfl ?_;exact ⟨A2,n2,cap2,rfl,HO.out,by rw [Hga.out];exact HBf.out⟩
set_option maxRecDepth 100000 in
set_option maxHeartbeats 4000000 in
theorem dval_5 (t : ByteArray) (A : Option Addr) (n cap : Nat) (R : List MarkV) (w : World) (Ps : List Pair) (hm : MarksIn w A n R) (hn : n ≤ 1000) (ho : (onceM R).length ≤ 30) (hs : ∀ m ∈ R,m.body.size ≤ 600) (hp : PartsVar w) (ht : t.size ≤ 9223372036854775807) (hk : kindB t = 5) (hFl : (fitM t R).length ≤ 30)
    (hl : ∀ (w' : World) (A' : Option Addr) (cap' : Nat) (L : List ActM) (B : Nat),ActsAt w' B A' L.length cap' L → L.length ≤ 30 → L.map ActM.m = fitM t R → Calls Tryz.prog 49 #[.slice A' L.length cap'] w' fun e w''=>∃ A2 n2 cap2,e = .returned (.slice A2 n2 cap2) ∧ Own w'' w'.heap.size 98 2 A2 n2 cap2 (Ps.map pairC) ∧ Below w'.heap.size w' w'') :
    Calls Tryz.prog 13 #[.string t,.slice A n cap] w fun e w'=>∃ A2 n2 cap2,e = .returned (.tuple #[.agg (valVC ⟨5,0,.slice A2 n2 cap2⟩),.int .i64 0]) ∧ PairsIn w' A2 n2 Ps ∧ Below w.heap.size w w':=by
  have hB : Below w.heap.size w (w.alloc (.cells (valVC valV0) 25)):=(Below.refl _ _).alloc (Nat.le_refl _) _;have hg1 : (w.alloc (.cells (valVC valV0) 25)).heap[w.heap.size]? = some (.cells (valVC valV0) 25 (0,0)):=heap_alloc_new w _;have c1:=fun w=>check_any t w ht;have c2:=fun w=>kind_any t w ht;have ca:=fun w' (hb : Below w.heap.size w w')=>acts_any t A n cap R w' (SlR.below hm hb) hn ho hs (hp.below hb);have hcz : checkB t = 0:=by unfold checkB;rw [if_neg (by omega)]
  rw [hcz] at c1;rw [hk] at c2;simp only [hk] at ca;obtain ⟨F,hF⟩ : ∃ F,fitM t R = F:=⟨_,rfl⟩
  simp only [hF] at ca;rw [hF] at hFl hl;clear hcz hm hs hp hF hk;go_enter Tryz.func13,Tryz.ntmps13
  go_upto_region 1 with fail
  obtain ⟨ga,hga⟩ : ∃ ga,w.heap.size = ga:=⟨_,rfl⟩
  have Hga:=Lib.hid hga;rw [hga] at hg1 hB ⊢;simp only [hga] at ca;obtain ⟨W,hW⟩ : ∃ W,W = w.alloc (.cells (valVC valV0) 25):=⟨_,rfl⟩
  rw [← hW] at hg1 hB ⊢;clear hW hga;(go_wp2_with fail);refine (c1 _).mono ?_;rintro e w1 ⟨rfl,hb1⟩;have hg2:=(hb1.block ga (Array.getElem?_eq_some_iff.1 hg1).1).trans hg1;have hB2 : Below ga w w1:=hB.trans (hb1.mono (by have:=hB.size;have:=Hga.out;omega));clear hg1 hB hb1 c1;(go_wp2_with fail);refine (c2 _).mono ?_;rintro e w2 ⟨rfl,hb2⟩;have hg3:=(hb2.block ga (Array.getElem?_eq_some_iff.1 hg2).1).trans hg2;have hB3 : Below ga w w2:=hB2.trans (hb2.mono (by have:=hB2.size;have:=Hga.out;omega));have hs2 : ga < w2.heap.size:=(Array.getElem?_eq_some_iff.1 hg3).1;clear hg2 hB2 hb2 c2;have hb3 : Below w2.heap.size w2 (w2.alloc (.cells (valVC ⟨5,0,.slice none 0 0⟩) 25)):=(Below.refl _ _).alloc (Nat.le_refl _) _;have hg4:=(hb3.block ga hs2).trans hg3;have hB4 : Below ga w (w2.alloc (.cells (valVC ⟨5,0,.slice none 0 0⟩) 25)):=hB3.trans (hb3.mono (by omega));have hv4 : (w2.alloc (.cells (valVC ⟨5,0,.slice none 0 0⟩) 25)).heap[w2.heap.size]? = some (.cells (valVC ⟨5,0,.slice none 0 0⟩) 25 (0,0)):=heap_alloc_new w2 _;obtain ⟨gv,hgv⟩ : ∃ gv,w2.heap.size = gv:=⟨_,rfl⟩
  clear hg3 hB3 hb3;go_upto_region 5 with fail
  rw [hgv] at hv4 hs2;obtain ⟨W3,hW3⟩ : ∃ W3,W3 = (w2.alloc (.cells (valVC ⟨5,0,.slice none 0 0⟩) 25)):=⟨_,rfl⟩
  rw [← hW3] at hg4 hB4 hv4 ⊢;clear hW3 hgv;have hc0 : W3.cell? ⟨gv,0,none⟩ = some (.int .i64 5):=by rw [cell_of_row W3 gv 0 _ _ _ hv4];simp [go_sem]
  have ca':=ca W3 hB4;clear ca;(go_wp2_with fail);refine ca'.mono ?_;rintro e w5 ⟨A5,cap5,L,rfl,hacts,hLF,hb5⟩;have hg5:=(hb5.block ga (Array.getElem?_eq_some_iff.1 hg4).1).trans hg4;have hv5:=(hb5.block gv (Array.getElem?_eq_some_iff.1 hv4).1).trans hv4;have hB5 : Below ga w w5:=hB4.trans (hb5.mono (by have:=hB4.size;have:=Hga.out;omega));have hLl : L.length ≤ 30:=by have e:=congrArg List.length hLF;rw [List.length_map] at e;omega
  have hc5 : w5.cell? ⟨gv,0,none⟩ = some (.int .i64 5):=by rw [cell_of_row w5 gv 0 _ _ _ hv5];simp [go_sem]
  have hlc:=hl w5 A5 cap5 L _ hacts hLl hLF;have hgvl : gv < w5.heap.size:=(Array.getElem?_eq_some_iff.1 hv5).1;have hgal : ga < w5.heap.size:=(Array.getElem?_eq_some_iff.1 hg5).1;clear ca' hacts hLF hb5 hg4 hv4 hB4 hc0 hl;have hf : ∀ w',Below w5.heap.size w5 w' → w'.frozen? ⟨gv,2,none⟩ = false:=fun w' hb=>by
    have:=(hb.block gv hgvl).trans hv5;simp [World.frozen?,this]
  have hcv : ∀ w',Below w5.heap.size w5 w' → w'.cell? ⟨gv,2,none⟩ = some (.slice none 0 0):=fun w' hb=>by
    rw [cell_of_row w' gv 2 _ _ _ ((hb.block gv hgvl).trans hv5)];simp [go_sem]
  (go_wp2_with fail);refine hlc.mono ?_;rintro e w6 ⟨A2,n2,cap2,rfl,hown,hb6⟩;have hf6:=hf w6 hb6;have hcv6:=hcv w6 hb6;have hset : (valVC ⟨5,0,.slice none 0 0⟩).setIfInBounds 2 (.slice A2 n2 cap2) = valVC ⟨5,0,.slice A2 n2 cap2⟩:=by apply Array.ext';simp [valVC]
  have hv6:=(hb6.block gv hgvl).trans hv5;have hv4 : (w6.setCell ⟨gv,2,none⟩ (.slice A2 n2 cap2)).heap[gv]? = some (.cells (valVC ⟨5,0,.slice A2 n2 cap2⟩) 25 (0,0)):=by rw [heap_setCell_same hv6,hset]
  have hks:=Keep.setCell w6 ⟨gv,2,none⟩ (.slice A2 n2 cap2);have hz6:=hb6.size;have hg6:=(hb6.block ga hgal).trans hg5;have hg4 : (w6.setCell ⟨gv,2,none⟩ (.slice A2 n2 cap2)).heap[ga]? = some (.cells (valVC valV0) 25 (0,0)):=(hks.block ga (by omega) (by simp;omega)).trans hg6;have hB6 : Below ga w w6:=hB5.trans (hb6.mono (by omega));have hB4 : Below ga w (w6.setCell ⟨gv,2,none⟩ (.slice A2 n2 cap2)):=hB6.trans (hks.below (by omega) (by simp;omega));have hown4:=hown.kept hks (fun x hx=>by have:=(hown.at_base hx).1;simp;omega);clear hset hks hlc hf hcv hv5 hB5 hc5 hg5 hg6 hB6 hb6;go_upto_region 17 with fail
  obtain ⟨W4,hW4⟩ : ∃ W4,W4 = w6.setCell ⟨gv,2,none⟩ (.slice A2 n2 cap2):=⟨_,rfl⟩
  rw [← hW4] at hv4 hg4 hB4 hown4 ⊢;clear hW4 hf6 hcv6 hv6 hown;have hrow : rowAt W4 gv 0 3 = some (valVC ⟨5,0,.slice A2 n2 cap2⟩):=by unfold rowAt;rw [hv4];simp [go_sem]
  have hsto:=run_stS_at (P:=Tryz.prog) infoValV W4 ga (valVC valV0) (valVC ⟨5,0,.slice A2 n2 cap2⟩) _ hg4 (by simp) (by simp) (valVC_one _ rfl);have hkf : Keep [ga] W4 (W4.setRow ga (valVC ⟨5,0,.slice A2 n2 cap2⟩)):=⟨rfl,rfl,rfl,by simp [World.setRow],fun x _ hx=>setRow_other W4 ga x _ (by simpa using hx)⟩
  have Hfin:=Lib.hid (setRow_heap W4 ga _ (valVC ⟨5,0,.slice A2 n2 cap2⟩) _ _ hg4);have HBf:=Lib.hid (hB4.trans (hkf.below (by have:=hB4.size;have:=Hga.out;omega) (by simp)));have HO:=Lib.hid (hown4.kept hkf (fun x hx=>by have:=(hown4.at_base hx).1;simp;omega)).slr;clear hkf hg4 hB4 hv4 hown4;(go_wp2_with fail);refine bodyPost_ret (results_cell_tmp Tryz.results13 _ _ ga 25 (valVC ⟨5,0,.slice A2 n2 cap2⟩) (0,0) _ rfl Hfin.out Tryz.underlying25 rfl (by rw [valVC_size];exact infoValV)) rfl ?_;exact ⟨A2,n2,cap2,rfl,HO.out,by rw [Hga.out];exact HBf.out⟩
set_option maxRecDepth 100000 in
set_option maxHeartbeats 4000000 in
theorem dval_1 (t : ByteArray) (A : Option Addr) (n cap : Nat) (R : List MarkV) (w : World) (N : Int) (hm : MarksIn w A n R) (hn : n ≤ 1000) (ho : (onceM R).length ≤ 30) (hs : ∀ m ∈ R,m.body.size ≤ 600) (hp : PartsVar w) (ht : t.size ≤ 9223372036854775807) (hk : kindB t = 1) (hFl : (fitM t R).length ≤ 30)
    (hl : ∀ (w' : World) (A' : Option Addr) (cap' : Nat) (L : List ActM) (B : Nat),ActsAt w' B A' L.length cap' L → L.length ≤ 30 → L.map ActM.m = fitM t R → Calls Tryz.prog 45 #[.slice A' L.length cap'] w' fun e w''=>e = .returned (.int .i64 N) ∧ Below w'.heap.size w' w'') :
    Calls Tryz.prog 13 #[.string t,.slice A n cap] w fun e w'=>e = .returned (.tuple #[.agg (valVC ⟨1,N,.slice none 0 0⟩),.int .i64 0]) ∧ Below w.heap.size w w':=by
  have hB : Below w.heap.size w (w.alloc (.cells (valVC valV0) 25)):=(Below.refl _ _).alloc (Nat.le_refl _) _;have hg1 : (w.alloc (.cells (valVC valV0) 25)).heap[w.heap.size]? = some (.cells (valVC valV0) 25 (0,0)):=heap_alloc_new w _;have c1:=fun w=>check_any t w ht;have c2:=fun w=>kind_any t w ht;have ca:=fun w' (hb : Below w.heap.size w w')=>acts_any t A n cap R w' (SlR.below hm hb) hn ho hs (hp.below hb);have hcz : checkB t = 0:=by unfold checkB;rw [if_neg (by omega)]
  rw [hcz] at c1;rw [hk] at c2;simp only [hk] at ca;obtain ⟨F,hF⟩ : ∃ F,fitM t R = F:=⟨_,rfl⟩
  simp only [hF] at ca;rw [hF] at hFl hl;clear hcz hm hs hp hF hk;go_enter Tryz.func13,Tryz.ntmps13
  go_upto_region 1 with fail
  obtain ⟨ga,hga⟩ : ∃ ga,w.heap.size = ga:=⟨_,rfl⟩
  have Hga:=Lib.hid hga;rw [hga] at hg1 hB ⊢;simp only [hga] at ca;obtain ⟨W,hW⟩ : ∃ W,W = w.alloc (.cells (valVC valV0) 25):=⟨_,rfl⟩
  rw [← hW] at hg1 hB ⊢;clear hW hga;(go_wp2_with fail);refine (c1 _).mono ?_;rintro e w1 ⟨rfl,hb1⟩;have hg2:=(hb1.block ga (Array.getElem?_eq_some_iff.1 hg1).1).trans hg1;have hB2 : Below ga w w1:=hB.trans (hb1.mono (by have:=hB.size;have:=Hga.out;omega));clear hg1 hB hb1 c1;(go_wp2_with fail);refine (c2 _).mono ?_;rintro e w2 ⟨rfl,hb2⟩;have hg3:=(hb2.block ga (Array.getElem?_eq_some_iff.1 hg2).1).trans hg2;have hB3 : Below ga w w2:=hB2.trans (hb2.mono (by have:=hB2.size;have:=Hga.out;omega));have hs2 : ga < w2.heap.size:=(Array.getElem?_eq_some_iff.1 hg3).1;clear hg2 hB2 hb2 c2;have hb3 : Below w2.heap.size w2 (w2.alloc (.cells (valVC ⟨1,0,.slice none 0 0⟩) 25)):=(Below.refl _ _).alloc (Nat.le_refl _) _;have hg4:=(hb3.block ga hs2).trans hg3;have hB4 : Below ga w (w2.alloc (.cells (valVC ⟨1,0,.slice none 0 0⟩) 25)):=hB3.trans (hb3.mono (by omega));have hv4 : (w2.alloc (.cells (valVC ⟨1,0,.slice none 0 0⟩) 25)).heap[w2.heap.size]? = some (.cells (valVC ⟨1,0,.slice none 0 0⟩) 25 (0,0)):=heap_alloc_new w2 _;obtain ⟨gv,hgv⟩ : ∃ gv,w2.heap.size = gv:=⟨_,rfl⟩
  clear hg3 hB3 hb3;go_upto_region 5 with fail
  rw [hgv] at hv4 hs2;obtain ⟨W3,hW3⟩ : ∃ W3,W3 = (w2.alloc (.cells (valVC ⟨1,0,.slice none 0 0⟩) 25)):=⟨_,rfl⟩
  rw [← hW3] at hg4 hB4 hv4 ⊢;clear hW3 hgv;have hc0 : W3.cell? ⟨gv,0,none⟩ = some (.int .i64 1):=by rw [cell_of_row W3 gv 0 _ _ _ hv4];simp [go_sem]
  have ca':=ca W3 hB4;clear ca;(go_wp2_with fail);refine ca'.mono ?_;rintro e w5 ⟨A5,cap5,L,rfl,hacts,hLF,hb5⟩;have hg5:=(hb5.block ga (Array.getElem?_eq_some_iff.1 hg4).1).trans hg4;have hv5:=(hb5.block gv (Array.getElem?_eq_some_iff.1 hv4).1).trans hv4;have hB5 : Below ga w w5:=hB4.trans (hb5.mono (by have:=hB4.size;have:=Hga.out;omega));have hLl : L.length ≤ 30:=by have e:=congrArg List.length hLF;rw [List.length_map] at e;omega
  have hc5 : w5.cell? ⟨gv,0,none⟩ = some (.int .i64 1):=by rw [cell_of_row w5 gv 0 _ _ _ hv5];simp [go_sem]
  have hlc:=hl w5 A5 cap5 L _ hacts hLl hLF;have hgvl : gv < w5.heap.size:=(Array.getElem?_eq_some_iff.1 hv5).1;have hgal : ga < w5.heap.size:=(Array.getElem?_eq_some_iff.1 hg5).1;clear ca' hacts hLF hb5 hg4 hv4 hB4 hc0 hl;have hf : ∀ w',Below w5.heap.size w5 w' → w'.frozen? ⟨gv,1,none⟩ = false:=fun w' hb=>by
    have:=(hb.block gv hgvl).trans hv5;simp [World.frozen?,this]
  have hcv : ∀ w',Below w5.heap.size w5 w' → w'.cell? ⟨gv,1,none⟩ = some (.int .i64 0):=fun w' hb=>by
    rw [cell_of_row w' gv 1 _ _ _ ((hb.block gv hgvl).trans hv5)];simp [go_sem]
  (go_wp2_with fail);refine hlc.mono ?_;rintro e w6 ⟨rfl,hb6⟩;have hf6:=hf w6 hb6;have hcv6:=hcv w6 hb6;have hset : (valVC ⟨1,0,.slice none 0 0⟩).setIfInBounds 1 (.int .i64 N) = valVC ⟨1,N,.slice none 0 0⟩:=by apply Array.ext';simp [valVC]
  have hv6:=(hb6.block gv hgvl).trans hv5;have hv4 : (w6.setCell ⟨gv,1,none⟩ (.int .i64 N)).heap[gv]? = some (.cells (valVC ⟨1,N,.slice none 0 0⟩) 25 (0,0)):=by rw [heap_setCell_same hv6,hset]
  have hks:=Keep.setCell w6 ⟨gv,1,none⟩ (.int .i64 N);have hz6:=hb6.size;have hg6:=(hb6.block ga hgal).trans hg5;have hg4 : (w6.setCell ⟨gv,1,none⟩ (.int .i64 N)).heap[ga]? = some (.cells (valVC valV0) 25 (0,0)):=(hks.block ga (by omega) (by simp;omega)).trans hg6;have hB6 : Below ga w w6:=hB5.trans (hb6.mono (by omega));have hB4 : Below ga w (w6.setCell ⟨gv,1,none⟩ (.int .i64 N)):=hB6.trans (hks.below (by omega) (by simp;omega));clear hset hks hlc hf hcv hv5 hB5 hc5 hg5 hg6 hB6 hb6;go_upto_region 17 with fail
  obtain ⟨W4,hW4⟩ : ∃ W4,W4 = w6.setCell ⟨gv,1,none⟩ (.int .i64 N):=⟨_,rfl⟩
  rw [← hW4] at hv4 hg4 hB4 ⊢;clear hW4 hf6 hcv6 hv6;have hrow : rowAt W4 gv 0 3 = some (valVC ⟨1,N,.slice none 0 0⟩):=by unfold rowAt;rw [hv4];simp [go_sem]
  have hsto:=run_stS_at (P:=Tryz.prog) infoValV W4 ga (valVC valV0) (valVC ⟨1,N,.slice none 0 0⟩) _ hg4 (by simp) (by simp) (valVC_one _ rfl);have hkf : Keep [ga] W4 (W4.setRow ga (valVC ⟨1,N,.slice none 0 0⟩)):=⟨rfl,rfl,rfl,by simp [World.setRow],fun x _ hx=>setRow_other W4 ga x _ (by simpa using hx)⟩
  have Hfin:=Lib.hid (setRow_heap W4 ga _ (valVC ⟨1,N,.slice none 0 0⟩) _ _ hg4);have HBf:=Lib.hid (hB4.trans (hkf.below (by have:=hB4.size;have:=Hga.out;omega) (by simp)));clear hkf hg4 hB4 hv4;(go_wp2_with fail);refine bodyPost_ret (results_cell_tmp Tryz.results13 _ _ ga 25 (valVC ⟨1,N,.slice none 0 0⟩) (0,0) _ rfl Hfin.out Tryz.underlying25 rfl (by rw [valVC_size];exact infoValV)) rfl ?_;exact ⟨rfl,by rw [Hga.out];exact HBf.out⟩
set_option maxRecDepth 100000 in
theorem dval_0 (t : ByteArray) (A : Option Addr) (n cap : Nat) (w : World) (ht : t.size ≤ 9223372036854775807) (hk : kindB t = 0) :
    Calls Tryz.prog 13 #[.string t,.slice A n cap] w fun e w'=>e = .returned (.tuple #[.agg (valVC valV0),.int .i64 (checkB t)]) ∧ Below w.heap.size w w':=by
  have hB : Below w.heap.size w (w.alloc (.cells (valVC valV0) 25)):=(Below.refl _ _).alloc (Nat.le_refl _) _;have hg1 : (w.alloc (.cells (valVC valV0) 25)).heap[w.heap.size]? = some (.cells (valVC valV0) 25 (0,0)):=heap_alloc_new w _;have c1:=fun w=>check_any t w ht;have hcn : checkB t ≠ 0:=by unfold checkB;rw [if_pos hk];decide
  obtain ⟨E,hE⟩ : ∃ E,checkB t = E:=⟨_,rfl⟩
  rw [hE] at hcn c1 ⊢;have hcb : (E != 0) = true:=by simpa using hcn
  clear hcn hE hk;go_enter Tryz.func13,Tryz.ntmps13
  go_upto_region 1 with fail
  obtain ⟨ga,hga⟩ : ∃ ga,w.heap.size = ga:=⟨_,rfl⟩
  have Hga:=Lib.hid hga;rw [hga] at hg1 hB ⊢;obtain ⟨W,hW⟩ : ∃ W,W = w.alloc (.cells (valVC valV0) 25):=⟨_,rfl⟩
  rw [← hW] at hg1 hB ⊢;clear hW hga;(go_wp2_with fail);refine (c1 _).mono ?_;rintro e W4 ⟨rfl,hb1⟩;have hg4:=(hb1.block ga (Array.getElem?_eq_some_iff.1 hg1).1).trans hg1;have hB4 : Below ga w W4:=hB.trans (hb1.mono (by have:=hB.size;have:=Hga.out;omega));clear hg1 hB hb1 c1;have hsto:=run_stS_at (P:=Tryz.prog) infoValV W4 ga (valVC valV0) (valVC valV0) _ hg4 (by simp) (by simp) (valVC_one _ rfl);have hkf : Keep [ga] W4 (W4.setRow ga (valVC valV0)):=⟨rfl,rfl,rfl,by simp [World.setRow],fun x _ hx=>setRow_other W4 ga x _ (by simpa using hx)⟩
  have Hfin:=Lib.hid (setRow_heap W4 ga _ (valVC valV0) _ _ hg4);have HBf:=Lib.hid (hB4.trans (hkf.below (by have:=hB4.size;have:=Hga.out;omega) (by simp)));clear hkf hg4 hB4;(go_wp2_with fail);refine bodyPost_ret (results_cell_tmp Tryz.results13 _ _ ga 25 (valVC valV0) (0,0) _ rfl Hfin.out Tryz.underlying25 rfl (by rw [valVC_size];exact infoValV)) rfl ?_;exact ⟨rfl,by rw [Hga.out];exact HBf.out⟩
end
section
open Go.RowKit Stb
theorem stF_len (k : Int) (F : List MarkV) : (stF k F).len ≤ F.length:=by
  have : ∀ (F : List MarkV) (s : VSt),(F.foldl (fun s m=>doS m (oOf m) s) s).len ≤ s.len + F.length:=by
    intro F;induction F with
    | nil=>intro s;exact Nat.le_refl _
    | cons m F ih=>intro s;rw [List.foldl_cons];refine Nat.le_trans (ih _) ?_;have:=doS_len m (oOf m) s;rw [List.length_cons];omega
  have h0 : (VSt.new k).len = 0:=by unfold VSt.new;repeat' split
                                    all_goals rfl
  have:=this F (VSt.new k);unfold stF;omega
theorem means_plen {F : List MarkV} {s : VSt} (h1 : OneM F) (h : Means F s) : s.pairs.length ≤ s.len:=by
  cases s with
  | t n=>exact Nat.le_refl _
  | b L G=>show ((listB L).map pairV).length ≤ L.length;rw [List.length_map];exact listB_len L
  | l L=>show (L.map pairOf).length ≤ L.length;rw [List.length_map];exact Nat.le_refl _
  | m X O=>exact listM_len X
  | s N G=>exact listS_len (means_forest h1 h)
theorem fit_k {t : ByteArray} {m : MarkV} (h : fits t m) : belongs (oOf m).k = kindB t ∧ 1 ≤ (oOf m).k ∧ (oOf m).k ≤ 7:=⟨h.2,(opO_ok _ h.1).2.1,(opO_ok _ h.1).2.2.1⟩
theorem fit_kind {t : ByteArray} {m : MarkV} (h : fits t m) : (kindB t = 2 → (oOf m).k = 2 ∨ (oOf m).k = 3) ∧ (kindB t = 3 → (oOf m).k = 4) ∧ (kindB t = 5 → (oOf m).k = 6 ∨ (oOf m).k = 7):=by
  obtain ⟨h1,h2,h3⟩:=fit_k h;rw [belongs_k h2 h3] at h1;refine ⟨fun e=>?_,fun e=>?_,fun e=>?_⟩
  all_goals
    rw [e] at h1
    repeat' split at h1
    all_goals first | omega | (exact absurd h1 (by decide))
theorem fitM_len (t : ByteArray) (R : List MarkV) : (fitM t R).length ≤ (onceM R).length:=by
  unfold fitM;refine Nat.le_trans (List.length_filter_le _ _) ?_;rw [srtM_len];exact Nat.le_refl _
theorem fit_act {t : ByteArray} {R : List MarkV} {L : List ActM} (hLF : L.map ActM.m = fitM t R) {a : ActM} (ha : a ∈ L) : fits t a.m:=fitM_fit (by rw [← hLF];exact List.mem_map.2 ⟨a,ha,rfl⟩)
theorem fit_ok {t : ByteArray} {m : MarkV} (h : fits t m) : (oOf m).key.size ≤ 16 ∧ (oOf m).val.size ≤ 16 ∧ (oOf m).refs.length ≤ 8 ∧ -2147483648 ≤ (oOf m).n ∧ (oOf m).n < 2147483648:=by
  have h2:=opO_ok _ h.1;exact ⟨h2.2.2.2.1,h2.2.2.2.2.1,h2.2.2.2.2.2.1,opO_lo _ h.1,h2.2.2.2.2.2.2.2⟩
theorem denS_kind (t : ByteArray) (R : List MarkV) (hk : kindB t ≠ 0) : (denS t R).kind = kindB t:=by
  have:=kindB_range t;exact stF_kind (by omega) (by omega) _
theorem denS_plen (t : ByteArray) (R : List MarkV) : (denS t R).pairs.length ≤ (onceM R).length:=by
  have h1:=means_plen (fitM_one t R) (means_den t R);have h2 : (denS t R).len ≤ _:=stF_len (kindB t) (fitM t R);have h3:=fitM_len t R;omega
theorem dvalue (t : ByteArray) (A : Option Addr) (n cap : Nat) (R : List MarkV) (w : World) (hm : MarksIn w A n R) (hn : n ≤ 1000) (ho : (onceM R).length ≤ 30) (hs : ∀ m ∈ R,m.body.size ≤ 600) (hp : PartsVar w) (ht : t.size ≤ 9223372036854775807) (hk : kindB t ≠ 0) :
    Calls Tryz.prog 13 #[.string t,.slice A n cap] w fun e w'=>∃ A2 n2 cap2,e = .returned (.tuple #[.agg (valVC ⟨kindB t,(denS t R).num,.slice A2 n2 cap2⟩),.int .i64 0]) ∧ (PairsIn w' A2 n2 (denS t R).pairs ∧ n2 ≤ 1000000) ∧ Below w.heap.size w w':=by
  have hRl : R.length = n:=hm.len;have hFl : (fitM t R).length ≤ 30:=by have:=fitM_len t R;omega
  have hmean:=means_den t R;have hone:=fitM_one t R;have hkind:=denS_kind t R hk;have hpl:=denS_plen t R;have hfin : ∀ (K : Int),kindB t = K → (denS t R).num = 0 → ∀ Ps,Ps = (denS t R).pairs → (Calls Tryz.prog 13 #[.string t,.slice A n cap] w fun e w'=>∃ A2 n2 cap2,e = .returned (.tuple #[.agg (valVC ⟨K,0,.slice A2 n2 cap2⟩),.int .i64 0]) ∧ PairsIn w' A2 n2 Ps ∧ Below w.heap.size w w') →
      Calls Tryz.prog 13 #[.string t,.slice A n cap] w fun e w'=>∃ A2 n2 cap2,e = .returned (.tuple #[.agg (valVC ⟨kindB t,(denS t R).num,.slice A2 n2 cap2⟩),.int .i64 0]) ∧ (PairsIn w' A2 n2 (denS t R).pairs ∧ n2 ≤ 1000000) ∧ Below w.heap.size w w':=by
    intro K hK hnum Ps hPs c;refine c.mono ?_;rintro e w' ⟨A2,n2,cap2,rfl,hp2,hb⟩;rw [hPs] at hp2;have hl : (denS t R).pairs.length = n2:=by simpa using hp2.1
    exact ⟨A2,n2,cap2,by rw [hK,hnum],⟨hp2,by omega⟩,hb⟩
  rcases kindB_range t with e | e | e | e | e | e
  · exact absurd e hk
  · have hd : denS t R = .t (sumD (fitM t R)):=by unfold denS;rw [e];exact sumD_ok _
    rw [hd];refine (dval_1 t A n cap R w (sumD (fitM t R)) hm hn ho hs hp ht e hFl (fun w' A' cap' L B ha hL hLF=>?_)).mono ?_
    · rw [← hLF];exact total_any A' L.length cap' L B w' ha hL (fun a h=>⟨(fit_ok (fit_act hLF h)).2.2.2.1,(fit_ok (fit_act hLF h)).2.2.2.2⟩)
    · rintro e1 w' ⟨rfl,hb⟩;exact ⟨none,0,0,by rw [e];rfl,⟨SlR.nil_,by omega⟩,hb⟩
  · cases hd : denS t R with
    | b Lb G =>
      rw [hd] at hmean;have hps:=bagD_ok hmean (fun m hm=>(fit_kind (fitM_fit hm)).1 e);rw [← hd];refine hfin 2 e (by rw [hd];rfl) (sortC cmpPair (bagD (fitM t R))) (by rw [hd];exact hps) (dval_2 t A n cap R w _ hm hn ho hs hp ht e hFl (fun w' A' cap' L B ha hL hLF=>?_));rw [← hLF];refine (dbag A' L.length cap' L B w' ha hL (fun a h=>by have:=(fit_ok (fit_act hLF h)).2.2.1;omega)).mono ?_;rintro e1 w2 ⟨A2,c2,rfl,ho,hb⟩;exact ⟨A2,_,c2,rfl,ho,hb⟩
    | _=>rw [hd,e] at hkind;simp [VSt.kind] at hkind
  · cases hd : denS t R with
    | l Ll =>
      rw [hd] at hmean;rw [← hd];refine hfin 3 e (by rw [hd];rfl) _ (show Ll.map pairOf = _ by rw [hd];rfl) (dval_3 t A n cap R w _ hm hn ho hs hp ht e hFl (fun w' A' cap' L B ha hL hLF=>?_));refine (dlast A' L.length cap' L B w' ha hL (fun a h=>(fit_ok (fit_act hLF h)).1) (Ll.map pairOf) (fun M hM=>?_)).mono ?_
      · rw [hLF] at hM;exact lastD_ok hmean hone hM (fun m hm=>fit_check (fitM_fit hm).1 ((fit_kind (fitM_fit hm)).2.1 e))
      · rintro e1 w2 ⟨A2,c2,rfl,ho,hb⟩;exact ⟨A2,_,c2,rfl,ho,hb⟩
    | _=>rw [hd,e] at hkind;simp [VSt.kind] at hkind
  · cases hd : denS t R with
    | m X O =>
      rw [hd] at hmean;have hps:=multiD_ok hmean;rw [← hd];refine hfin 4 e (by rw [hd];rfl) (sortC cmpPair (multiD (fitM t R))) (by rw [hd];exact hps) (dval_4 t A n cap R w _ hm hn ho hs hp ht e hFl (fun w' A' cap' L B ha hL hLF=>?_));rw [← hLF];refine (dmulti A' L.length cap' L B w' ha hL (fun a h=>(fit_ok (fit_act hLF h)).2.2.1)).mono ?_;rintro e1 w2 ⟨A2,c2,rfl,ho,hb⟩;exact ⟨A2,_,c2,rfl,ho,hb⟩
    | _=>rw [hd,e] at hkind;simp [VSt.kind] at hkind
  · cases hd : denS t R with
    | s N G =>
      rw [hd] at hmean;have hps:=listD_ok hmean hone (fun m hm=>(fit_kind (fitM_fit hm)).2.2 e);rw [← hd];refine hfin 5 e (by rw [hd];rfl) (pS (orderN (nodD (fitM t R))) (goneD (fitM t R))) (by rw [hd];exact hps) (dval_5 t A n cap R w _ hm hn ho hs hp ht e hFl (fun w' A' cap' L B ha hL hLF=>?_));rw [← hLF];exact dlist A' L.length cap' L B w' ha hL (fun a h=>(fit_ok (fit_act hLF h)).2.1) (by rw [hLF];exact fitM_ris t R) (by rw [hLF];exact hone)
    | _=>rw [hd,e] at hkind;simp [VSt.kind] at hkind
def valK (t : ByteArray) : Int:=kindB t
def valN (t : ByteArray) (R : List MarkV) : Int:=if kindB t = 0 then 0 else (denS t R).num
def valP (t : ByteArray) (R : List MarkV) : List Pair:=if kindB t = 0 then [] else (denS t R).pairs
theorem dvalue_all (t : ByteArray) (A : Option Addr) (n cap : Nat) (R : List MarkV) (w : World) (hm : MarksIn w A n R) (hn : n ≤ 1000) (ho : (onceM R).length ≤ 30) (hs : ∀ m ∈ R,m.body.size ≤ 600) (hp : PartsVar w) (ht : t.size ≤ 9223372036854775807) :
    Calls Tryz.prog 13 #[.string t,.slice A n cap] w fun e w'=>∃ A2 n2 cap2,e = .returned (.tuple #[.agg (valVC ⟨valK t,valN t R,.slice A2 n2 cap2⟩),.int .i64 (checkB t)]) ∧ (PairsIn w' A2 n2 (valP t R) ∧ n2 ≤ 1000000) ∧ Below w.heap.size w w':=by
  by_cases hk : kindB t = 0
  · have e1 : valN t R = 0:=if_pos hk;have e2 : valP t R = []:=if_pos hk;have e3 : valK t = 0:=hk;rw [e1,e2,e3];refine (dval_0 t A n cap w ht hk).mono ?_;rintro e w' ⟨rfl,hb⟩;exact ⟨none,0,0,rfl,⟨SlR.nil_,by omega⟩,hb⟩
  · have e1 : valN t R = (denS t R).num:=if_neg hk;have e2 : valP t R = (denS t R).pairs:=if_neg hk;have e3 : checkB t = 0:=by unfold checkB;rw [if_neg hk]
    rw [e1,e2,e3];exact dvalue t A n cap R w hm hn ho hs hp ht hk
end
section
open Go.RowKit
structure RNode where
  id : Id32
  h : Int
  ref : Id32
  val : ByteArray
def rNodeC (x : RNode) : Array Value:=idC x.id ++ #[.int .i64 x.h] ++ idC x.ref ++ #[.string x.val]
def rNode0 : RNode:=⟨id0,0,id0,⟨#[]⟩⟩
theorem RNode_ext {x y : RNode} (h : x.id = y.id ∧ x.h = y.h ∧ x.ref = y.ref ∧ x.val = y.val) : x = y:=by cases x;cases y;simp_all
instance : DecidableEq RNode:=fun x y=>if h : x.id = y.id ∧ x.h = y.h ∧ x.ref = y.ref ∧ x.val = y.val then isTrue (RNode_ext h) else isFalse (fun e=>h (by subst e;simp))
@[go_sem ↓] theorem loadRNode_rw (a : Addr) : loadVar 213 a = ldS 213 a:=rfl
@[go_sem ↓] theorem storeRNode_rw (a : Addr) (v : Value) : storeVar 213 a v = stS 213 a v:=rfl
@[go_sem ↓] theorem buildRNode_rw (parts : Array (Nat × Value)) : Instr.build 213 parts = bdS 213 parts:=rfl
def nodeR (n : NodeV) : RNode:=⟨n.id,n.h,n.ref,n.val⟩
abbrev nodeC (n : NodeV) : Array Value:=rNodeC (nodeR n)
instance : Inhabited NodeV:=⟨⟨id0,0,id0,⟨#[]⟩⟩⟩
@[go_sem ↓] theorem bsRN_rw (n : Nat) (parts : Array (Nat × Value)) : Instr.buildSlice 65 n parts = bsS 65 n parts:=rfl
@[go_sem ↓] theorem slRN_rw (x : Value) (lo hi mx : Option Value) : Instr.sliceAt 65 x lo hi mx = slS 65 x lo hi mx:=rfl
abbrev NodesIn (w : World) (A : Option Addr) (n : Nat) (R : List NodeV) : Prop:=SlR w A n 66 (R.map nodeC)
end
section
open Go.RowKit
def RefS (w : World) (g j : Nat) (L : List NodeV) (G : List Id32) : Prop :=
  ∃ A n cap A' n' cap',w.cell? ⟨g,j,none⟩ = some (.slice A n cap) ∧ w.cell? ⟨g,j + 1,none⟩ = some (.slice A' n' cap') ∧ NodesIn w A n L ∧ TagsIn w A' n' G
end
section
open Go.RowKit
@[go_sem] theorem bsIdN_run (w : World) : (bsS 50 0 #[]).run Tryz.prog w = .ok (.slice (some ⟨w.heap.size,0,none⟩) 0 0) (w.alloc (.cells #[] 39)):=run_bsS0 einfoId w
@[go_sem ↓] theorem slId_rw (x : Value) (lo hi mx : Option Value) : Instr.sliceAt 50 x lo hi mx = slS 50 x lo hi mx:=rfl
abbrev IdsW (w : World) (A : Option Addr) (n cap : Nat) (R : List Id32) : Prop:=SlW w A n cap 32 (R.map idC)
set_option maxRecDepth 100000 in
set_option maxHeartbeats 4000000 in
theorem rwith (w : World) (A : Option Addr) (n cap : Nat) (O : List Id32) (d : Id32) (h : IdsW w A n cap O) (hn : n ≤ 1000000) (hris : Ris cmpId O) :
    Calls Tryz.prog 72 #[.slice A n cap,.agg (idC d)] w fun e w'=>∃ A' cap',e = .returned (.slice A' (insC cmpId O d).length cap') ∧ IdsW w' A' (insC cmpId O d).length cap' (insC cmpId O d) ∧ (∀ x ∈ blk A',x ∈ blk A ∨ w.heap.size ≤ x) ∧ Below w.heap.size w w':=by
  have hlen : O.length = n:=by simpa using h.len
  have hB : Below w.heap.size w (w.alloc (.cells (idC d) 39)):=(Below.refl _ _).alloc (Nat.le_refl _) _;have hd0 : rowAt (w.alloc (.cells (idC d) 39)) w.heap.size 0 32 = some (idC d):=by simp [go_sem]
  have h0:=h.below hB;have c1:=rhas6 (w.alloc (.cells (idC d) 39)) A n cap O d h0.rd (by omega);have Hlen:=Lib.hid hlen;clear hlen;by_cases hin : d ∈ O
  · rw [decide_eq_true hin] at c1;have hat:=insC_old totId hris hin;have Hat:=Lib.hid hat;clear hat hin;go_enter Tryz.func72,Tryz.ntmps72
    (go_wp2_with fail);refine c1.mono ?_;rintro e w1 ⟨rfl,hb1⟩;have h1:=h0.below hb1;have hbb:=bel2 hB hb1;clear c1;(go_wp2_with fail);go_ret;refine ⟨A,cap,by rw [Hat.out,Hlen.out];rfl,by rw [Hat.out,Hlen.out];exact h1,fun x hx=>.inl hx,hbb⟩
  · rw [decide_eq_false hin] at c1;have Hin:=Lib.hid hin;clear hin;go_enter Tryz.func72,Tryz.ntmps72
    go_upto_region 1 with fail
    obtain ⟨gx,hgx⟩ : ∃ gx,w.heap.size = gx:=⟨_,rfl⟩
    have Hgx:=Lib.hid hgx;rw [hgx] at hd0 hB ⊢;obtain ⟨W0,hW0⟩ : ∃ W0,W0 = w.alloc (.cells (idC d) 39):=⟨_,rfl⟩
    rw [← hW0] at h0 hd0 hB c1 ⊢;clear hW0 hgx;(go_wp2_with fail);refine c1.mono ?_;rintro e w1 ⟨rfl,hb1⟩;have h1:=h0.below hb1;have hbb : Below gx w w1:=hB.trans (hb1.mono (by have:=hB.size;have:=Hgx.out;omega));have hr1 : rowAt w1 gx 0 32 = some (idC d):=(rowAt_of_block (hb1.block gx (rowAt_lt hd0)) _ _).trans hd0;clear c1 hd0 hb1 hB h0;(go_wp2_with fail);go_loopw [5] (fun j wj=>∃ m : Nat,m ≤ n ∧ j = .int .i64 m ∧ Hid (∀ i (hi : i < O.length),i < m → cmpId O[i] d < 0) ∧ Below w1.heap.size w1 wj) (fun j _=>n - (intOf j).toNat)
    case atStart=>exact ⟨0,Nat.zero_le _,rfl,(show ∀ i (hi : i < O.length),i < 0 → _ from fun i _ h=>absurd h (by omega)),Below.refl _ _⟩
    case round =>
      obtain ⟨m,hmO,rfl,hlow,hbj⟩:=hrel;have hrj : rowAt wr gx 0 32 = some (idC d):=(rowAt_of_block (hbj.block gx (rowAt_lt hr1)) _ _).trans hr1;have hswj:=h1.below hbj;by_cases hmlt : m < n
      · obtain ⟨q,o,rfl,hrO⟩:=TagsIn.get hswj.rd hmlt (by rw [Hlen.out];exact hmlt);have hmem : O[m]'(by rw [Hlen.out];exact hmlt) ∈ O:=List.getElem_mem _;obtain ⟨y,hy⟩ : ∃ y,O[m]'(by rw [Hlen.out];exact hmlt) = y:=⟨_,rfl⟩
        rw [hy] at hrO hmem;have Hy:=Lib.hid hy;have Hmem:=Lib.hid hmem;clear hy hmem;have c2:=rcompare y d wr.drew;obtain ⟨c,hc⟩ : ∃ c,cmpId y d = c:=⟨_,rfl⟩
        rw [hc] at c2;have Hc:=Lib.hid hc;clear hc;go_upto_region 4 with fail
        refine wp_region_lex (Bel wr) false (by kernel_rfl) (by kernel_rfl) (by kernel_rfl) (bel_drew wr) ?_;have hne:=bel_some wr;have hS:=bel_drew wr;have b1:=sub_row hrj;have b2:=sub_row hrO;repeat (refine wpLx_loose ?_ ?_;(focus (simp only [chainOp];done));intro K hK;go_simp;refine hK _ ?_;clear hK K)
        refine wpLx_chain ?_ ?_ ?_;(focus (exact hS));(focus (simp only [chainOp];done));intro K hK;go_simp;refine (c2).mono ?_;rintro e w' ⟨rfl,hb⟩;replace hS:=bel_next hS hb;refine ⟨_,rfl,hS,hK _ _ ?_⟩;clear hK K hb;repeat (refine wpLx_loose ?_ ?_;(focus (simp only [chainOp];done));intro K hK;go_simp;refine hK _ ?_;clear hK K)
        refine wpLx_nil ?_;intro hS;have hS' : Below wr.heap.size wr w':=hS;have hbz:=bel2 hbj hS';clear b1 b2 hne hS c2;by_cases hyx : c < 0
        · (go_wp2_with fail);go_roundw
          case rel =>
            refine ⟨m + 1,by omega,by go_num,(show ∀ i (hi : i < O.length),i < m + 1 → cmpId O[i] d < 0 from fun i hi hlt=>?_),hbz⟩;by_cases e : i = m
            · subst e;rw [Hy.out,Hc.out];exact hyx
            · exact hlow.out i hi (by omega)
          case measure=>simp [intOf];omega
        · have hat:=insC_at (c:=cmpId) O d m (by rw [Hlen.out];exact hmO) hlow.out (fun hk'=>by
            rw [Hy.out,Hc.out];have h1 : c ≠ 0:=fun e=>Hin.out (by rw [← (totId.zero _ _).1 (Hc.out.trans e)];exact Hmem.out);omega)
          have Hat:=Lib.hid hat;have hsw:=h1.below hbz;have hrx : rowAt w' gx 0 32 = some (idC d):=(rowAt_of_block (hbz.block gx (rowAt_lt hr1)) _ _).trans hr1;have hBw : Below gx w w':=hbb.trans (hbz.mono (by have:=rowAt_lt hr1;omega));clear hat hrO hrj hbj hbz hS' hswj;obtain ⟨W,rfl⟩ : ∃ W,W = w':=⟨w',rfl⟩
          obtain ⟨A,hA1⟩ : ∃ A,(some ⟨q,o,none⟩ : Option Addr) = A:=⟨_,rfl⟩
          rw [hA1] at hsw ⊢;clear hA1;have hBx : Below W.heap.size W (W.alloc (.cells #[] 39)):=(Below.refl _ _).alloc (Nat.le_refl _) _;have hown0:=Own.empty W W.heap.size 39 32 (Nat.le_refl _);have hlo : ∀ w0 : World,(slS 50 (.slice A n cap) none (some (.int .i64 m)) none).run Tryz.prog w0 = .ok (.slice A m cap) w0:=fun w0=>SlW.lo einfoId hsw hmO w0;obtain ⟨Ah,ch,hhi,hhs,hhf⟩:=hsw.hi (P:=Tryz.prog) einfoId (m:=m) hmO;have hslo : SlR (W.alloc (.cells #[] 39)) A m 32 ((O.map idC).take m):=(hsw.rd.below hBx).take_ hmO;have hf1:=hsw.nil;have hrone : ∀ r ∈ (O.map idC).take m,∀ u ∈ r.toList,u.oneCell' = true:=fun r hr=>(by obtain ⟨y',_,rfl⟩:=List.mem_map.1 (List.mem_of_mem_take hr);exact idC_one _);have hrone2 : ∀ r ∈ (O.map idC).drop m,∀ u ∈ r.toList,u.oneCell' = true:=fun r hr=>(by obtain ⟨y',_,rfl⟩:=List.mem_map.1 (List.mem_of_mem_drop hr);exact idC_one _);go_upto_region 7 with (at_builtin;refine L_appends einfoId rfl hown0 rfl hslo hf1 hrone (by omega) (by omega) (by simp) ?_;intro A2 cap2 w2 hown2 hk2 hsub2)
          simp only [Nat.zero_add,List.nil_append] at hown2;have hwW : Below W.heap.size W w2:=hBx.trans (hk2.below (by simp) (by simp [blk]));have hrw2 : rowAt w2 gx (0) 32 = some (idC d):=(rowAt_of_block (hwW.block gx (rowAt_lt hrx)) _ _).trans hrx;have hB3 : Below w2.heap.size w2 (w2.alloc (.cells (idC d) 39)):=(Below.refl _ _).alloc (Nat.le_refl _) _;have hown3:=hown2.below hB3;have hrow3 : rowAt (w2.alloc (.cells (idC d) 39)) w2.heap.size 0 32 = some (idC d):=by simp [go_sem]
          have hsz2:=hwW.size;go_upto_region 8 with (at_builtin;refine L_append einfoId rfl hown3 rfl hrow3 (idC_one _) (by omega) (by omega) (by simp;omega) ?_;intro A4 cap4 w4 hown4 hk4 hsub4)
          have hwW4 : Below W.heap.size W w4:=(hwW.trans (hB3.mono hsz2)).trans (hk4.below (by simp;omega) (fun x hx=>(hown2.at_base hx).1));have hs4:=hhs w4 (hsw.rd.below hwW4);have hsz4:=hwW4.size;clear hown3 hrow3 hB3 hown0 hBx hslo hrw2 hlo;go_upto_region 9 with (at_builtin;refine L_appends einfoId rfl hown4 rfl hs4 hhf hrone2 (by omega) (by omega) (by omega) ?_;intro A5 cap5 w5 hown5 hk5 hsub5)
          have hwW5 : Below W.heap.size W w5:=hwW4.trans (hk5.below (by omega) (fun x hx=>(hown4.at_base hx).1));have hO5 : (O.map idC).take m ++ [idC d] ++ (O.map idC).drop m = (O.take m ++ d :: O.drop m).map idC:=by simp [List.map_take,List.map_drop]
          rw [hO5] at hown5;clear hown4 hown2 hO5 hs4 hhi hhs hrone hrone2 hf1;have hL5 : (O.take m ++ d :: O.drop m).length = m + 1 + (n - m):=by simp [Hlen.out];omega
          have hLn : (insC cmpId O d).length = m + 1 + (n - m):=by rw [Hat.out,hL5]
          rw [← Hat.out] at hown5;have HLn:=Lib.hid hLn;have hBf:=hBw.trans (hwW5.mono (by have:=rowAt_lt hrx;omega));have hbase : ∀ x ∈ blk A5,w.heap.size ≤ x:=fun x hx=>(by have h1:=(hown5.at_base hx).1;have h2:=hBw.size;have h3:=Hgx.out;omega);have HB:=Lib.hid hBf;have Hbase:=Lib.hid hbase;have Hown5:=Lib.hid hown5;clear hL5 hLn hBf hbase hown5;(go_wp2_with fail);go_ret;exact ⟨A5,cap5,by rw [HLn.out];rfl,by rw [HLn.out];exact Hown5.out.slw,fun x hx=>.inr (Hbase.out x hx),by rw [Hgx.out];exact HB.out⟩
      · have hd : decide (m < n) = false:=by simpa using hmlt
        have hat:=insC_at (c:=cmpId) O d m (by rw [Hlen.out];exact hmO) hlow.out (fun hk'=>absurd (by rw [← Hlen.out];exact hk') hmlt);have Hat:=Lib.hid hat;clear hat;go_upto_region 4 with fail
        refine wp_region_lex (Bel wr) false (by kernel_rfl) (by kernel_rfl) (by kernel_rfl) (bel_drew wr) ?_;have hne:=bel_some wr;have hS:=bel_drew wr;repeat (refine wpLx_loose ?_ ?_;(focus (simp only [chainOp];done));intro K hK;go_simp;refine hK _ ?_;clear hK K)
        refine wpLx_chain ?_ ?_ ?_;(focus (exact hS));(focus (simp only [chainOp];done));intro K hK;go_simp;refine hK _ _ ?_;clear hK K;repeat (refine wpLx_loose ?_ ?_;(focus (simp only [chainOp];done));intro K hK;go_simp;refine hK _ ?_;clear hK K)
        refine wpLx_nil ?_;intro hS;have hbz:=hbj.drew;have hsw:=h1.below hbz;have hrx : rowAt wr.drew gx 0 32 = some (idC d):=hrj;have hBw : Below gx w wr.drew:=hbb.trans (hbz.mono (by have:=rowAt_lt hr1;omega));clear hne hS hbz hrj hbj hmlt hd hswj;obtain ⟨W,hW⟩ : ∃ W,wr.drew = W:=⟨_,rfl⟩
        rw [hW] at hsw hBw hrx ⊢;clear hW;have hBx : Below W.heap.size W (W.alloc (.cells #[] 39)):=(Below.refl _ _).alloc (Nat.le_refl _) _;have hown0:=Own.empty W W.heap.size 39 32 (Nat.le_refl _);have hlo : ∀ w0 : World,(slS 50 (.slice A n cap) none (some (.int .i64 m)) none).run Tryz.prog w0 = .ok (.slice A m cap) w0:=fun w0=>SlW.lo einfoId hsw hmO w0;obtain ⟨Ah,ch,hhi,hhs,hhf⟩:=hsw.hi (P:=Tryz.prog) einfoId (m:=m) hmO;have hslo : SlR (W.alloc (.cells #[] 39)) A m 32 ((O.map idC).take m):=(hsw.rd.below hBx).take_ hmO;have hf1:=hsw.nil;have hrone : ∀ r ∈ (O.map idC).take m,∀ u ∈ r.toList,u.oneCell' = true:=fun r hr=>(by obtain ⟨y',_,rfl⟩:=List.mem_map.1 (List.mem_of_mem_take hr);exact idC_one _);have hrone2 : ∀ r ∈ (O.map idC).drop m,∀ u ∈ r.toList,u.oneCell' = true:=fun r hr=>(by obtain ⟨y',_,rfl⟩:=List.mem_map.1 (List.mem_of_mem_drop hr);exact idC_one _);go_upto_region 7 with (at_builtin;refine L_appends einfoId rfl hown0 rfl hslo hf1 hrone (by omega) (by omega) (by simp) ?_;intro A2 cap2 w2 hown2 hk2 hsub2)
        simp only [Nat.zero_add,List.nil_append] at hown2;have hwW : Below W.heap.size W w2:=hBx.trans (hk2.below (by simp) (by simp [blk]));have hrw2 : rowAt w2 gx (0) 32 = some (idC d):=(rowAt_of_block (hwW.block gx (rowAt_lt hrx)) _ _).trans hrx;have hB3 : Below w2.heap.size w2 (w2.alloc (.cells (idC d) 39)):=(Below.refl _ _).alloc (Nat.le_refl _) _;have hown3:=hown2.below hB3;have hrow3 : rowAt (w2.alloc (.cells (idC d) 39)) w2.heap.size 0 32 = some (idC d):=by simp [go_sem]
        have hsz2:=hwW.size;go_upto_region 8 with (at_builtin;refine L_append einfoId rfl hown3 rfl hrow3 (idC_one _) (by omega) (by omega) (by simp;omega) ?_;intro A4 cap4 w4 hown4 hk4 hsub4)
        have hwW4 : Below W.heap.size W w4:=(hwW.trans (hB3.mono hsz2)).trans (hk4.below (by simp;omega) (fun x hx=>(hown2.at_base hx).1));have hs4:=hhs w4 (hsw.rd.below hwW4);have hsz4:=hwW4.size;clear hown3 hrow3 hB3 hown0 hBx hslo hrw2 hlo;go_upto_region 9 with (at_builtin;refine L_appends einfoId rfl hown4 rfl hs4 hhf hrone2 (by omega) (by omega) (by omega) ?_;intro A5 cap5 w5 hown5 hk5 hsub5)
        have hwW5 : Below W.heap.size W w5:=hwW4.trans (hk5.below (by omega) (fun x hx=>(hown4.at_base hx).1));have hO5 : (O.map idC).take m ++ [idC d] ++ (O.map idC).drop m = (O.take m ++ d :: O.drop m).map idC:=by simp [List.map_take,List.map_drop]
        rw [hO5] at hown5;clear hown4 hown2 hO5 hs4 hhi hhs hrone hrone2 hf1;have hL5 : (O.take m ++ d :: O.drop m).length = m + 1 + (n - m):=by simp [Hlen.out];omega
        have hLn : (insC cmpId O d).length = m + 1 + (n - m):=by rw [Hat.out,hL5]
        rw [← Hat.out] at hown5;have HLn:=Lib.hid hLn;have hBf:=hBw.trans (hwW5.mono (by have:=rowAt_lt hrx;omega));have hbase : ∀ x ∈ blk A5,w.heap.size ≤ x:=fun x hx=>(by have h1:=(hown5.at_base hx).1;have h2:=hBw.size;have h3:=Hgx.out;omega);have HB:=Lib.hid hBf;have Hbase:=Lib.hid hbase;have Hown5:=Lib.hid hown5;clear hL5 hLn hBf hbase hown5;(go_wp2_with fail);go_ret;exact ⟨A5,cap5,by rw [HLn.out];rfl,by rw [HLn.out];exact Hown5.out.slw,fun x hx=>.inr (Hbase.out x hx),by rw [Hgx.out];exact HB.out⟩
set_option maxHeartbeats 1000000 in
theorem rset (w : World) (A : Option Addr) (n cap : Nat) (R : List Id32) (h : TagsIn w A n R) (hn : n ≤ 1000000) :
    Calls Tryz.prog 165 #[.slice A n cap] w fun e w'=>∃ A' cap',e = .returned (.slice A' (sortC cmpId R).length cap') ∧ IdsW w' A' (sortC cmpId R).length cap' (sortC cmpId R) ∧ (∀ x ∈ blk A',w.heap.size ≤ x) ∧ Below w.heap.size w w':=by
  have hlen:=h.len;have Hlen:=Lib.hid hlen;clear hlen;go_enter Tryz.func165,Tryz.ntmps165
  (go_wp2_with fail);go_loopw [3,4] (fun out i wr=>∃ (k : Nat) (A1 : Option Addr) (n1 cap1 : Nat) (O : List Id32),k ≤ n ∧ i = .int .i64 k ∧ out = .slice A1 n1 cap1 ∧ Hid (O = sortC cmpId (R.take k)) ∧ IdsW wr A1 n1 cap1 O ∧ (∀ x ∈ blk A1,w.heap.size ≤ x) ∧ Below w.heap.size w wr) (fun _ i _=>n - (intOf i).toNat)
  case atStart=>exact ⟨0,none,0,0,[],Nat.zero_le _,rfl,rfl,rfl,SlW.none_,by simp [blk],Below.refl _ _⟩
  case round =>
    obtain ⟨k,A1,n1,cap1,O,hk,rfl,rfl,hO,hsw,hbs,hb⟩:=hrel;have hn1 : O.length = n1:=by simpa using hsw.len
    by_cases hlt : k < n
    · obtain ⟨q,o,rfl,hr⟩:=TagsIn.get (SlR.below h hb) hlt (by rw [Hlen.out];exact hlt);have htk : sortC cmpId (R.take (k + 1)) = insC cmpId O (R[k]'(by rw [Hlen.out];exact hlt)):=by
        rw [List.take_add_one,List.getElem?_eq_getElem (by rw [Hlen.out];exact hlt),Option.toList_some,sortC_snoc,hO.out]
      have hol : n1 ≤ 1000000:=by have:=sortC_length (c:=cmpId) (R.take k);rw [← hO.out] at this;simp at this;have:=Hlen.out;omega
      have hris : Ris cmpId O:=by rw [hO.out];exact ris_sortC totId _
      obtain ⟨d,hd⟩ : ∃ d,R[k]'(by rw [Hlen.out];exact hlt) = d:=⟨_,rfl⟩
      rw [hd] at hr htk;have Htk:=Lib.hid htk;have Hol:=Lib.hid hol;have Hris:=Lib.hid hris;clear hd htk hn1 hol hris;have c1:=rwith wr A1 n1 cap1 O d hsw Hol.out Hris.out;(go_wp2_with fail);refine c1.mono ?_;rintro e w1 ⟨A2,cap2,rfl,hsw2,hsub2,hb1⟩;have hbb:=hb.trans (hb1.mono hb.size);have hsz:=hb.size;clear c1;(go_wp2_with fail);go_roundw
      case rel=>exact ⟨k + 1,A2,_,cap2,_,by omega,by go_num,rfl,(show _ = _ from Htk.out.symm),hsw2,fun x hx=>(hsub2 x hx).elim (hbs x) (fun h=>by omega),hbb⟩
      case measure=>simp [intOf];omega
    · have e : R.take k = R:=List.take_of_length_le (by rw [Hlen.out];omega);have hO':=hO.out;rw [e] at hO';subst hO';subst hn1;clear hO e;(go_wp2_with fail);go_ret;exact ⟨A1,cap1,rfl,hsw,hbs,hb⟩
end
section
open Go.RowKit
end
section
open Go.RowKit
end
section
open Go.RowKit
end
section
open Go.RowKit
abbrev OwnW (w : World) (B : Nat) (A : Option Addr) (cap : Nat) (R : List ByteArray) : Prop:=Own w B 98 2 A R.length cap (R.map pairW)
end
section
open Go.RowKit
def RefI3 (w : World) (g : Nat) (X G : List BRow) : Prop :=
  ∃ A n cap A' n' cap',w.cell? ⟨g,3,none⟩ = some (.slice A n cap) ∧ w.cell? ⟨g,4,none⟩ = some (.slice A' n' cap') ∧ RowsIn w A n X ∧ RowsIn w A' n' G
end
section
open Go.RowKit
def rdoO (m : MarkV) (o : OpV) (x : RV) : RV :=
  if o.k = 1 then { x with tal:=wrap64 (x.tal + o.n) }
  else if o.k = 2 then { x with adds:=x.adds ++ [⟨m.id,o.val⟩] }
  else if o.k = 3 then { x with gone:=x.gone ++ o.refs.map fun t=>⟨t,o.val⟩ }
  else if o.k = 4 then { x with last:=x.last ++ [⟨o.key,o.val,o.n,m.id⟩] }
  else if o.k = 5 then { x with mL:=x.mL ++ [⟨m.id,o.key,o.val⟩],mO:=sortC cmpId (x.mO ++ o.refs) }
  else if o.k = 6 then { x with sL:=insN x.sL ⟨m.id,m.h,o.ref,o.val⟩ }
  else { x with sG:=insC cmpId x.sG o.ref }
def RV.len (x : RV) : Nat:=x.adds.length + x.gone.length + x.last.length + x.mL.length + x.mO.length + x.sL.length + x.sG.length
structure RVOk (x : RV) : Prop where
  adds : ∀ r ∈ x.adds,small r
  gone : ∀ r ∈ x.gone,small r
  last : ∀ r ∈ x.last,checkE r.key (rowS r) = 0
  mL : ∀ r ∈ x.mL,r.key.size ≤ 16 ∧ r.val.size ≤ 16
  mO : Ris cmpId x.mO
  sL : NodesOk x.sL
  sG : Ris cmpId x.sG
theorem rvOk0 : RVOk rv0:=⟨by simp [rv0],by simp [rv0],by simp [rv0],by simp [rv0],Ris.nil,NodesOk.nil,Ris.nil⟩
def SlX (w : World) (g : Nat) (s : Sl) (k : Nat) (R : List (Array Value)) : Prop:=SlW w s.A s.n s.c k R ∧ g ∉ blk s.A
def rvC (t : ByteArray) (si : Sl) (tal : Int) (sa sg sl sm so ss sd : Sl) : Array Value:=#[.string t,slV si,.int .i64 tal,slV sa,slV sg,slV sl,slV sm,slV so,slV ss,slV sd]
structure RVIn (w : World) (g : Nat) (t : ByteArray) (I : List Id32) (x : RV) (si sa sg sl sm so ss sd : Sl) : Prop where
  hp : w.heap[g]? = some (.cells (rvC t si x.tal sa sg sl sm so ss sd) 69 (0,0))
  ids : SlX w g si 32 (I.map idC)
  adds : SlX w g sa 33 (x.adds.map bRowC)
  gone : SlX w g sg 33 (x.gone.map bRowC)
  last : SlX w g sl 35 (x.last.map rowC)
  mL : SlX w g sm 34 (x.mL.map mRowC)
  mO : SlX w g so 32 (x.mO.map idC)
  sL : SlX w g ss 66 (x.sL.map nodeC)
  sG : SlX w g sd 32 (x.sG.map idC)
def RVAt (w : World) (g : Nat) (t : ByteArray) (I : List Id32) (x : RV) : Prop:=∃ si sa sg sl sm so ss sd,RVIn w g t I x si sa sg sl sm so ss sd
section
variable {w w' : World} {g : Nat} {t : ByteArray} {I : List Id32} {x : RV} {si sa sg sl sm so ss sd : Sl}
end
end
section
open Go.RowKit
end
section
open Go.RowKit
def hasS (k : Nat) : ByteArray:=if k = 1 then ⟨#[78]⟩ else if k = 2 then ⟨#[86]⟩ else if k = 3 then ⟨#[86,83]⟩ else if k = 4 then ⟨#[75,86,78]⟩ else if k = 5 then ⟨#[75,86,83]⟩ else if k = 6 then ⟨#[82,86]⟩ else if k = 7 then ⟨#[82]⟩ else ⟨#[]⟩
theorem rop_has (k : Nat) (w : World) (hk : k ≤ 9223372036854775807) : Calls Tryz.prog 66 #[.int .i64 k] w fun e w'=>e = .returned (.string (hasS k)) ∧ w = w':=by
  by_cases h : k ≤ 7
  · have h8 : k = 0 ∨ k = 1 ∨ k = 2 ∨ k = 3 ∨ k = 4 ∨ k = 5 ∨ k = 6 ∨ k = 7:=by omega
    rcases h8 with rfl | rfl | rfl | rfl | rfl | rfl | rfl | rfl
    all_goals
      go_enter Tryz.func66,Tryz.ntmps66
      (go_wp2_with fail);go_ret;exact ⟨rfl,rfl⟩
  · have hs : hasS k = ⟨#[]⟩:=by unfold hasS;rw [if_neg (by omega),if_neg (by omega),if_neg (by omega),if_neg (by omega),if_neg (by omega),if_neg (by omega),if_neg (by omega)]
    have Hs:=Lib.hid hs;have h1 : ((k : Int) == 1) = false:=by simp;omega
    have h2 : ((k : Int) == 2) = false:=by simp;omega
    have h3 : ((k : Int) == 3) = false:=by simp;omega
    have h4 : ((k : Int) == 4) = false:=by simp;omega
    have h5 : ((k : Int) == 5) = false:=by simp;omega
    have h6 : ((k : Int) == 6) = false:=by simp;omega
    have h7 : ((k : Int) == 7) = false:=by simp;omega
    clear hs h;go_enter Tryz.func66,Tryz.ntmps66
    (go_wp2_with fail);go_ret;exact ⟨by rw [Hs.out];rfl,rfl⟩
end
section
open Go.RowKit
structure OfS where
  n : Int
  key : ByteArray
  val : ByteArray
  ref : Id32
  refs : List Id32
  l : List UInt8
  e : Int
def ofS0 (l : List UInt8) (e : Int) : OfS:=⟨0,⟨#[]⟩,⟨#[]⟩,id0,[],l,e⟩
def ofLoop (N : Nat) (s : IdsR) : IdsR:=idLoop N s
def ofStep (k : Nat) (s : OfS) (c : UInt8) : OfS :=
  if c = 78 then ⟨if k = 1 then (numV 4 s.l s.e : Int) - 2147483648 else (numV 4 s.l s.e : Int),s.key,s.val,s.ref,s.refs,rawL 4 s.l s.e,rawE 4 s.l s.e⟩
  else if c = 75 then ⟨s.n,txV s.l s.e,s.val,s.ref,s.refs,txL s.l s.e,txE s.l s.e⟩
  else if c = 86 then ⟨s.n,s.key,txV s.l s.e,s.ref,s.refs,txL s.l s.e,txE s.l s.e⟩
  else if c = 82 then ⟨s.n,s.key,s.val,idOf (rawV 32 s.l s.e),s.refs,rawL 32 s.l s.e,rawE 32 s.l s.e⟩
  else ⟨s.n,s.key,s.val,s.ref,(ofLoop (numV 1 s.l s.e) ⟨s.refs,rawL 1 s.l s.e,rawE 1 s.l s.e⟩).ids,(ofLoop (numV 1 s.l s.e) ⟨s.refs,rawL 1 s.l s.e,rawE 1 s.l s.e⟩).l,(ofLoop (numV 1 s.l s.e) ⟨s.refs,rawL 1 s.l s.e,rawE 1 s.l s.e⟩).e⟩
section
variable (k : Nat) (n : Int) (key val : ByteArray) (ref : Id32) (refs : List Id32) (l : List UInt8) (e : Int)
end
def OfS.op (k : Nat) (s : OfS) : OpR:=⟨⟨k,s.n,s.key,s.val,s.ref,s.refs⟩,s.l,s.e⟩
end
section
open Go.RowKit
def inB (s : ByteArray) (c : Int) : Bool:=s.data.toList.any fun b=>((b.toNat : Int) == c)
theorem rop_in (s : ByteArray) (c : Int) (w : World) (hs : s.size ≤ 9223372036854775807) : Calls Tryz.prog 144 #[.string s,.int .u8 c] w fun e w'=>e = .returned (.bool (inB s c)) ∧ w = w':=by
  have hlen : s.data.toList.length = s.size:=Array.length_toList;have hin : inB s c = (s.data.toList.drop 0).any fun b=>((b.toNat : Int) == c):=rfl;have Hin:=Lib.hid hin;clear hin;go_enter Tryz.func144,Tryz.ntmps144
  (go_wp2_with fail);go_loopw [5] (fun i wr=>∃ k : Nat,k ≤ s.size ∧ i = .int .i64 k ∧ wr = w ∧ Hid (inB s c = (s.data.toList.drop k).any fun b=>((b.toNat : Int) == c))) (fun i _=>s.size - (intOf i).toNat)
  case atStart=>exact ⟨0,Nat.zero_le _,rfl,rfl,Hin⟩
  case round =>
    obtain ⟨k,hk,rfl,rfl,hd⟩:=hrel;by_cases hlt : k < s.size
    · have hg : s.data.toList.drop k = s[k]'hlt :: s.data.toList.drop (k + 1):=by
        rw [List.drop_eq_getElem_cons (show k < s.data.toList.length by rw [hlen];exact hlt)];rfl
      have hd2:=hd.out;rw [hg,List.any_cons] at hd2;obtain ⟨b,hb⟩ : ∃ b,s[k]'hlt = b:=⟨_,rfl⟩
      rw [hb] at hd2;cases hc : ((b.toNat : Int) == c) with
      | true =>
        rw [hc,Bool.true_or] at hd2;have Hd:=Lib.hid hd2;clear hd hd2 hg;(go_wp2_with fail);go_ret;exact ⟨ret_bool (by rw [Hd.out]),rfl⟩
      | false =>
        rw [hc,Bool.false_or] at hd2;have Hd:=Lib.hid hd2;clear hd hd2 hg;(go_wp2_with fail);go_roundw
        case rel=>exact ⟨k + 1,by omega,by go_num,trivial,Hd⟩
        case measure=>simp [intOf];omega
    · have hd2:=hd.out;rw [List.drop_eq_nil_of_le (by rw [hlen];omega)] at hd2;have Hd:=Lib.hid hd2;clear hd hd2;(go_wp2_with fail);go_ret;exact ⟨ret_bool (by rw [Hd.out];rfl),rfl⟩
end
section
open Go.RowKit
set_option maxHeartbeats 1000000 in
theorem rsame_ids (w : World) (A B : Option Addr) (n m cap cap' : Nat) (X Y : List Id32) (hx : TagsIn w A n X) (hy : TagsIn w B m Y) (hn : n ≤ 1000000) (hm : m ≤ 1000000) :
    Calls Tryz.prog 32 #[.slice A n cap,.slice B m cap'] w fun e w'=>e = .returned (.bool (decide (X = Y))) ∧ Below w.heap.size w w':=by
  have hlx:=hx.len;have hly:=hy.len;have Hlx:=Lib.hid hlx;have Hly:=Lib.hid hly;by_cases hnm : n = m
  · subst hnm;clear hlx hly;go_enter Tryz.func32,Tryz.ntmps32
    (go_wp2_with fail);go_loopw [5] (fun i wr=>∃ k : Nat,k ≤ n ∧ i = .int .i64 k ∧ Hid (X.take k = Y.take k) ∧ Below w.heap.size w wr) (fun i _=>n - (intOf i).toNat)
    case atStart=>exact ⟨0,Nat.zero_le _,rfl,rfl,Below.refl _ _⟩
    case round =>
      obtain ⟨k,hk,rfl,heq,hb⟩:=hrel;by_cases hlt : k < n
      · obtain ⟨q,o,rfl,hr⟩:=TagsIn.get (SlR.below hx hb) hlt (by rw [Hlx.out];exact hlt);obtain ⟨q2,o2,rfl,hr2⟩:=TagsIn.get (SlR.below hy hb) hlt (by rw [Hly.out];exact hlt);have hX : X.take (k + 1) = X.take k ++ [X[k]'(by rw [Hlx.out];exact hlt)]:=by rw [List.take_add_one,List.getElem?_eq_getElem (by rw [Hlx.out];exact hlt)];rfl
        have hY : Y.take (k + 1) = Y.take k ++ [Y[k]'(by rw [Hly.out];exact hlt)]:=by rw [List.take_add_one,List.getElem?_eq_getElem (by rw [Hly.out];exact hlt)];rfl
        obtain ⟨x,hx'⟩ : ∃ x,X[k]'(by rw [Hlx.out];exact hlt) = x:=⟨_,rfl⟩
        obtain ⟨y,hy'⟩ : ∃ y,Y[k]'(by rw [Hly.out];exact hlt) = y:=⟨_,rfl⟩
        rw [hx'] at hr hX;rw [hy'] at hr2 hY;have HX:=Lib.hid hX;have HY:=Lib.hid hY;clear hX hY;have HX':=Lib.hid hx';have HY':=Lib.hid hy';clear hx' hy';go_upto_region 6 with fail
        refine wp_region_lex (Bel wr) false (by kernel_rfl) (by kernel_rfl) (by kernel_rfl) (bel_drew wr) ?_;have hne:=bel_some wr;have hS:=bel_drew wr;have b1:=sub_row hr;have b2:=sub_row hr2;repeat (refine wpLx_loose ?_ ?_;(focus (simp only [chainOp];done));intro K hK;go_simp;refine hK _ ?_;clear hK K)
        refine wpLx_nil ?_;intro hS;clear hne hS b1 b2 hr hr2;have hb' : Below w.heap.size w wr.drew:=hb.drew;cases hpe : (x == y) with
        | true =>
          have e:=beq_iff_eq.1 hpe;have E:=Lib.hid e;clear e;(go_wp2_with fail);go_roundw
          case rel=>exact ⟨k + 1,by omega,by go_num,(show X.take (k + 1) = Y.take (k + 1) by rw [HX.out,HY.out,heq.out,E.out]),hb'⟩
          case measure=>simp [intOf];omega
        | false =>
          have hne : X ≠ Y:=by
            intro e;subst e;have : x = y:=HX'.out.symm.trans HY'.out;rw [beq_iff_eq.2 this] at hpe;cases hpe
          have hd:=Lib.hid (decide_eq_false hne);clear hne;(go_wp2_with fail);go_ret;exact ⟨ret_bool (by rw [hd.out]),hb'⟩
      · have hkn : k = n:=by omega
        have e : X = Y:=by
          have:=heq.out
          rwa [List.take_of_length_le (by rw [Hlx.out];omega),List.take_of_length_le (by rw [Hly.out];omega)] at this
        have E:=Lib.hid (decide_eq_true e);clear e hkn;(go_wp2_with fail);go_ret;exact ⟨ret_bool (by rw [E.out]),hb⟩
  · have hne : X ≠ Y:=by intro e;subst e;exact hnm (hlx.symm.trans hly)
    have hd:=Lib.hid (decide_eq_false hne);have hnm2 : (n == m) = false:=by simpa using hnm
    have hnm3 : ((n : Int) == (m : Int)) = false:=by rw [beq_eq_false_iff_ne];omega
    clear hlx hly hne;go_enter Tryz.func32,Tryz.ntmps32
    (go_wp2_with fail);go_ret;exact ⟨ret_bool (by rw [hd.out]),Below.refl _ _⟩
end
end Go.Proofs.YtgfpjjppeldhbaaGreatDoor
