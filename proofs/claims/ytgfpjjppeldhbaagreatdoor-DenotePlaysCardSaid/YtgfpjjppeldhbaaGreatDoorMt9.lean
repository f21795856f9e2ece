/- Part 9 of the texts that lead to this claim: the walks of the functions and the plain law, in order. -/
import Derived.Test.YtgfpjjppeldhbaaGreatDoorMt8
namespace Go.Proofs.YtgfpjjppeldhbaaGreatDoor
section
open Go.RowKit Stb
abbrev nodeA (a : ActM) : NodeV:=nodeOf a.m
theorem nodeE_okA {a : ActM} (hv : (oOf a.m).val.size ≤ 16) : okA a = okN a.m:=by
  unfold okA okN nodeE nodeOf;dsimp only;rw [if_neg (by omega)];by_cases h1 : a.m.id = id0
  · simp [h1]
  · by_cases h2 : 1 ≤ a.m.h
    · by_cases h3 : a.m.h ≤ 1073741824
      · have hno : ¬ (a.m.h < 1 ∨ 1073741824 < a.m.h ∨ a.m.id = id0):=fun h=>h.elim (fun h=>by omega) fun h=>h.elim (fun h=>by omega) h1;rw [if_neg hno];simp [h1,h2,h3]
      · rw [if_pos (.inr (.inl (by omega)))];simp [h3]
    · rw [if_pos (.inl (by omega))];simp [h2]
theorem treeL_ins {L : List ActM} (hv : ∀ a ∈ L,(oOf a.m).val.size ≤ 16) : (treeL L).map ActM.m = (insD (L.map ActM.m)).reverse:=by
  unfold treeL insD;have e6:=ofK_map L 6;rw [e6];obtain ⟨L6,hL6⟩ : ∃ L6,(L.filter fun a=>decide ((kM a : Int) = (6 : Nat))) = L6:=⟨_,rfl⟩
  have hs : ∀ a ∈ L6,(oOf a.m).val.size ≤ 16:=fun a ha=>(by rw [← hL6] at ha;exact hv a (List.mem_filter.1 ha).1);show ((L.filter fun a=>decide ((kM a : Int) = (6 : Nat))).reverse.filter okA).map ActM.m = _;rw [hL6,List.filter_map,← List.map_reverse,← List.filter_reverse];congr 1
  refine List.filter_congr fun a ha=>?_;exact nodeE_okA (hs a (List.mem_reverse.1 ha))
theorem refF_kids {L : List ActM} (hv : ∀ a ∈ L,(oOf a.m).val.size ≤ 16) (hr : Ris cmpMk (L.map ActM.m)) (h1 : OneM (L.map ActM.m)) (r : Id32) : (refF (treeL L) r).map nodeA = kids (nodD (L.map ActM.m)) r:=by
  rw [← behD_kids hr h1 r];have e : (refF (treeL L) r).map ActM.m = behD (L.map ActM.m) r:=by
    unfold behD;rw [← treeL_ins hv,List.filter_map];rfl
  rw [← e,List.map_map];rfl
theorem actR_node {a b : ActM} (h : actR a = actR b) : nodeA a = nodeA b:=by
  have e1 : idC a.m.id = idC b.m.id:=by rw [← actR_e37,← actR_e37,h]
  have e2 : some (Value.int .i64 a.m.h) = some (.int .i64 b.m.h):=by rw [← actR_g69,← actR_g69,h]
  have e3 : idC (oOf a.m).ref = idC (oOf b.m).ref:=by rw [← actR_e4,← actR_e4,h]
  have e4 : some (Value.string (oOf a.m).val) = some (.string (oOf b.m).val):=by rw [← actR_g3,← actR_g3,h]
  injection e2 with e2;injection e2 with _ e2
  injection e4 with e4;injection e4 with e4
  exact NodeV.ext' (idC_inj e1) e2 (idC_inj e3) e4
theorem acts_uniq {w : World} {A : Option Addr} {n : Nat} {R S : List ActM} (h : ActsIn w A n R) (h' : ActsIn w A n S) : R.map nodeA = S.map nodeA:=by
  have l1:=h.len;have l2:=h'.len;apply List.ext_getElem
  · simp [l1,l2]
  · intro i h1 h2;simp at h1 h2;obtain ⟨q,o,e,hr⟩:=ActsIn.get h (i:=i) (by omega) h1;obtain ⟨q',o',e',hr'⟩:=ActsIn.get h' (i:=i) (by omega) h2;rw [e] at e';injection e' with e'
    injection e' with e1 e2
    subst e1;subst e2;rw [hr] at hr';injection hr' with hr'
    rw [List.getElem_map,List.getElem_map];exact actR_node hr'
open Classical in
noncomputable def leftA (N : List NodeV) (w : World) (v : Value) : Nat :=
  if h : ∃ R : List ActM,∃ A n c,v = .slice A n c ∧ ActsIn w A n R then (restL (kids N) NodeV.id (N.length + 1) ((Classical.choose h).map nodeA)).length else 0
theorem leftA_eq {N : List NodeV} {w : World} {A : Option Addr} {n c : Nat} {R : List ActM} (h : ActsIn w A n R) : leftA N w (.slice A n c) = (restL (kids N) NodeV.id (N.length + 1) (R.map nodeA)).length:=by
  have hex : ∃ R : List ActM,∃ A' n' c',Value.slice A n c = .slice A' n' c' ∧ ActsIn w A' n' R:=⟨R,A,n,c,rfl,h⟩
  unfold leftA;rw [dif_pos hex];obtain ⟨A',n',c',e,h'⟩:=Classical.choose_spec hex;injection e with e1 e2 e3
  subst e1;subst e2;rw [acts_uniq h' h]
theorem TreeW.look {w : World} {b B : Nat} {P : List ActM} (h : TreeW w b B P) (r : Id32) :
    ∃ s : Sl,SlW w s.A s.n s.c 70 ((refF P r).map actR) ∧ ∀ w',Below w.heap.size w w' → (Instr.lookup 148 (.map (some b)) (.agg (idC r)) false).run Tryz.prog w' = .ok (.slice s.A s.n s.c) w':=by
  obtain ⟨BM,es,clk,hm,hown,_,hno⟩:=h;by_cases hr : r ∈ BM.map (·.1)
  · obtain ⟨p,hp,rfl⟩:=List.mem_map.1 hr;exact ⟨p.2,(hown p hp).slw,fun w' hb=>(hm.kept (Keep.of_below hb) (by simp)).hit idKey Tryz.underlying148 trivial hp false⟩
  · refine ⟨⟨none,0,0⟩,?_,fun w' hb=>(hm.kept (Keep.of_below hb) (by simp)).miss idKey Tryz.underlying148 (zeroSlActs w') trivial hr false⟩;rw [hno r hr];exact SlW.none_
@[go_sem ↓] theorem slAct_rw (x : Value) (lo hi mx : Option Value) : Instr.sliceAt 89 x lo hi mx = slS 89 x lo hi mx:=rfl
@[go_sem] theorem bsActs2_run (w : World) (A B : Option Addr) (n m a b : Nat) : (Instr.buildSlice 266 2 #[(0,.slice A n a),(1,.slice B m b)]).run Tryz.prog w = .ok (.slice (some ⟨w.heap.size,0,none⟩) 2 2) (w.alloc (.cells #[.slice A n a,.slice B m b] 89)):=by kernel_rfl
set_option maxRecDepth 100000 in
set_option maxHeartbeats 4000000 in
theorem dlist (A : Option Addr) (n cap : Nat) (L : List ActM) (B : Nat) (w : World) (h : ActsAt w B A n cap L) (hn : n ≤ 30) (hv : ∀ a ∈ L,(oOf a.m).val.size ≤ 16) (hr : Ris cmpMk (L.map ActM.m)) (h1 : OneM (L.map ActM.m)) :
    Calls Tryz.prog 49 #[.slice A n cap] w fun e w'=>∃ A' n' cap',e = .returned (.slice A' n' cap') ∧ Own w' w.heap.size 98 2 A' n' cap' ((pS (orderN (nodD (L.map ActM.m))) (goneD (L.map ActM.m))).map pairC) ∧ Below w.heap.size w w':=by
  have hlen : L.length = n:=by simpa using h.own.len
  have hmm:=@run_makeMap Tryz.prog;have k1:=SetAt.new (kv:=idV) (ok:=okId) w w.heap.size rfl;have hb0 : Below w.heap.size w (w.alloc (.map #[] 0)):=(Below.refl _ _).alloc (Nat.le_refl _) _;have h0:=h.below hb0;have hkids:=fun r=>refF_kids hv hr h1 r;have hf:=nodD_forest h1;obtain ⟨N,hN⟩ : ∃ N,nodD (L.map ActM.m) = N:=⟨_,rfl⟩
  have hNl : N.length ≤ 30:=by rw [← hN];refine Nat.le_trans (nodD_len _) ?_;rw [List.length_map];omega
  obtain ⟨L7,hL7⟩ : ∃ L7,(L.filter fun a=>decide ((kM a : Int) = 7)) = L7:=⟨_,rfl⟩
  have hG : goneD (L.map ActM.m) = L7.map fun a=>(oOf a.m).ref:=by
    unfold goneD;have e7:=ofK_map L 7;rw [e7,List.map_map,← hL7];rfl
  have hl7 : L7.length ≤ 30:=by rw [← hL7];exact Nat.le_trans (List.length_filter_le _ _) (by omega)
  have c7:=fun w' (hb : Below w.heap.size w w')=>of_any 7 A n cap L B w' (h.below hb) hn;have ct:=fun w' (hb : Below w.heap.size w w')=>dtree A n cap L B w' (h.below hb) hn;simp only [hL7] at c7;obtain ⟨P,hP⟩ : ∃ P,treeL L = P:=⟨_,rfl⟩
  simp only [hP] at ct hkids;simp only [hN] at hkids;obtain ⟨G,hGG⟩ : ∃ G,goneD (L.map ActM.m) = G:=⟨_,rfl⟩
  rw [hGG] at hG ⊢;rw [hN] at hf ⊢;have hdeep:=hf.deep;have hord : orderN N = restL (kids N) NodeV.id (N.length + 1) (kids N id0):=pre_root hdeep;have hD0 : ∀ c ∈ kids N id0,Deep (kids N) NodeV.id (N.length + 1) c.id:=fun c hc=>deep_up (hdeep c hc);have Hf:=Lib.hid hf;have Hord:=Lib.hid hord;have HD0:=Lib.hid hD0;have Hkids:=Lib.hid hkids;have HG:=Lib.hid hG;clear hN hL7 hGG hP hdeep hord hD0 hf hkids hG hv hr h1 h hlen;go_enter Tryz.func49,Tryz.ntmps49
  go_upto_region 2 with fail
  obtain ⟨gm,hgm⟩ : ∃ gm,w.heap.size = gm:=⟨_,rfl⟩
  have hgs : (w.alloc (.map #[] 0)).heap.size = gm + 1:=by simp [hgm]
  have c7':=c7 _ hb0;obtain ⟨W,hW⟩ : ∃ W,w.alloc (.map #[] 0) = W:=⟨_,rfl⟩
  rw [hW] at k1 hb0 hgs h0 c7';rw [hW,hgm];rw [hgm] at k1 hb0;simp only [hgm] at ct;have Hgm:=Lib.hid hgm;clear hW hgm c7;(go_wp2_with fail);refine c7'.mono ?_;rintro e w1 ⟨A7,cap7,rfl,h7,hb1⟩;have k2:=SetAt.below k1 hb1;have hb01 : Below gm w w1:=hb0.trans (hb1.mono (by omega));have h7o:=h7.own;have hA7 : ∀ x ∈ blk A7,W.heap.size ≤ x:=fun x hx=>(h7o.at_base hx).1;have hz1:=hb1.size;clear c7' h7 k1 hb0 hb1 h0;(go_wp2_with fail);go_loopw [14] (fun iv wr=>∃ (i : Nat),i ≤ L7.length ∧ iv = .int .i64 i ∧ IdSet wr gm ((L7.take i).map fun a=>(oOf a.m).ref) ∧ Keep [gm] w1 wr) (fun iv _=>L7.length - (intOf iv).toNat)
  case atStart=>exact ⟨0,Nat.zero_le _,rfl,k2,Keep.refl _ _⟩
  case round =>
    clear k2;obtain ⟨i,hi,rfl,hset,hk⟩:=hrel;by_cases hlt : i < L7.length
    · obtain ⟨q,o,rfl,hrow⟩:=ActsIn.get (h7o.kept hk (fun x hx=>by have:=hA7 x hx;simp;omega)).slr hlt hlt;have htk : ((L7.take (i + 1)).map fun a=>(oOf a.m).ref) = ((L7.take i).map fun a=>(oOf a.m).ref) ++ [(oOf (L7[i]'hlt).m).ref]:=by rw [List.take_succ_eq_append_getElem hlt,List.map_append];rfl
      obtain ⟨x,hx⟩ : ∃ x,L7[i]'hlt = x:=⟨_,rfl⟩
      rw [hx] at hrow htk;have Htk:=Lib.hid htk;obtain ⟨X,hX⟩ : ∃ X,((L7.take i).map fun a=>(oOf a.m).ref) = X:=⟨_,rfl⟩
      rw [hX] at Htk hset;clear hx htk hX;have hba : Below wr.heap.size wr (wr.alloc (.cells (actR x) 139)):=(Below.refl _ _).alloc (Nat.le_refl _) _;have hra : rowAt (wr.alloc (.cells (actR x) 139)) wr.heap.size 0 70 = some (actR x):=by simp [go_sem]
      have hsa:=SetAt.below hset hba;have hka : Keep [gm] w1 (wr.alloc (.cells (actR x) 139)):=Keep.trans hk (Keep.of_below hba) (by simp);go_upto_region 5 with fail
      obtain ⟨gx,hgx⟩ : ∃ gx,wr.heap.size = gx:=⟨_,rfl⟩
      obtain ⟨W0,hW0⟩ : ∃ W0,W0 = wr.alloc (.cells (actR x) 139):=⟨_,rfl⟩
      rw [← hW0] at hra hsa hka ⊢;rw [hgx] at hra ⊢;clear hW0 hgx hba hset hk hrow;have f4 : rowAt W0 gx 4 32 = some (idC (oOf x.m).ref):=by have:=rowAt_sub hra (j:=4) (m:=32) (by omega);rwa [actR_e4,Nat.zero_add] at this
      obtain ⟨w5,hrun,hs5,hk5⟩:=iput (x:=(oOf x.m).ref) hsa;have hkd : Keep [gm] w1 w5:=Keep.trans hka hk5 (fun y hy=>.inl hy);have hs6 : IdSet w5 gm (((L7.take (i + 1)).map fun a=>(oOf a.m).ref)):=SetAt.congr hs5 (fun y=>by rw [Htk.out,List.mem_append,List.mem_singleton,List.mem_cons];exact Or.comm);clear hsa hka hs5 hk5 hra;(go_wp2_with fail);go_roundw
      case rel=>exact ⟨i + 1,by omega,by go_num,hs6,hkd⟩
      case measure=>simp [intOf];omega
    · have e2 : L7.take i = L7:=List.take_of_length_le (by omega);rw [e2,← HG.out] at hset;have hbw : Below gm w wr:=hb01.trans (hk.below (B:=gm) (by omega) (by simp));have ct':=ct wr hbw;have hsw:=hk.size;clear e2 hk h7o ct;(go_wp2_with fail);refine ct'.mono ?_;rintro e w2 ⟨gt,BT,rfl,ht,hgt,hgBT,hb2⟩;have hbw2 : Below gm w w2:=hbw.trans (hb2.mono (by omega));have hset2:=SetAt.below hset hb2;have hz2:=hb2.size;obtain ⟨s0,hs0,hl0⟩:=ht.look id0;have hl0':=hl0 w2 (Below.refl _ _);have hs0n : (refF P id0).length = s0.n:=by have:=hs0.len;simpa using this
      have hkl0 : (refF P id0).length ≤ 30:=by have e:=congrArg List.length (Hkids.out id0);rw [List.length_map] at e;have:=kids_length N id0;omega
      have cc:=clone_acts w2 s0.A s0.n s0.c (refF P id0) hs0.rd (by omega) hs0.nil;clear ct' hset hb2 hl0;(go_wp2_with fail);refine cc.mono ?_;rintro e V ⟨A0,cap0,rfl,ho0,hbV⟩;have htV:=ht.below hbV;have hsetV:=SetAt.below hset2 hbV;have hbwV : Below gm w V:=hbw2.trans (hbV.mono (by omega));have hzV:=hbV.size;have hA0 : ∀ x ∈ blk A0,x < V.heap.size:=fun x hx=>(ho0.at_base hx).2;have hsl0:=ho0.slw;have hR0 : (refF P id0).map nodeA = kids N id0:=Hkids.out id0;have HR0:=Lib.hid hR0;clear cc ht hset2 hbw2 hbV ho0 hl0' hs0 hR0;(go_wp2_with fail);go_loopw [7,8] (fun todo out wr=>∃ (X : List NodeV) (R : List ActM) (A1 : Option Addr) (n1 cap1 : Nat) (A2 : Option Addr) (n2 cap2 : Nat),out = .slice A1 n1 cap1 ∧ todo = .slice A2 n2 cap2 ∧ Own wr V.heap.size 98 2 A1 n1 cap1 ((pS X G).map pairC) ∧ SlW wr A2 n2 cap2 70 (R.map actR) ∧ (∀ x ∈ blk A2,x ∉ blk A1) ∧ Hid (X ++ restL (kids N) NodeV.id (N.length + 1) (R.map nodeA) = orderN N) ∧ Hid (∀ c ∈ R.map nodeA,Deep (kids N) NodeV.id (N.length + 1) c.id) ∧ Below V.heap.size V wr) (fun todo _ wr=>leftA N wr todo)
      case atStart=>exact ⟨[],refF P id0,none,0,0,A0,s0.n,cap0,rfl,rfl,Own.nil _ _ _ _,hsl0,by simp [blk],(show _ = _ by rw [HR0.out,Hord.out];rfl),(show ∀ c ∈ _,_ by rw [HR0.out];exact HD0.out),Below.refl _ _⟩
      case round =>
        clear hsl0;obtain ⟨X,R,A1,n1,cap1,A2,n2,cap2,rfl,rfl,hown,hsw2,hdis,hinv,hdp,hb⟩:=hrel;have hn1 : (pS X G).length = n1:=by simpa using hown.len
        have hn2 : R.length = n2:=by simpa using hsw2.len
        have hpx:=pS_len X G;have hrl:=orderN_length Hf.out;rw [← hinv.out,List.length_append] at hrl;have hn1b : n1 ≤ 30:=by omega
        have hrr : R.length ≤ (restL (kids N) NodeV.id (N.length + 1) (R.map nodeA)).length:=by
          have : ∀ row : List NodeV,row.length ≤ (restL (kids N) NodeV.id (N.length + 1) row).length:=by
            intro row;induction row with
            | nil=>exact Nat.zero_le _
            | cons d row ih =>
              unfold restL at ih ⊢;rw [List.flatMap_cons,List.length_append,List.length_cons,List.length_cons];omega
          simpa using this (R.map nodeA)
        have hn2b : n2 ≤ 30:=by omega
        have hms : leftA N wr (.slice A2 n2 cap2) = (restL (kids N) NodeV.id (N.length + 1) (R.map nodeA)).length:=leftA_eq hsw2.rd;have Hms:=Lib.hid hms;have hzr:=hb.size;cases R with
        | nil =>
          have hn0 : n2 = 0:=by simpa using hn2.symm
          subst hn0;have hX2 : X = orderN N:=by have:=hinv.out;simpa [restL] using this
          subst hX2;clear hinv hdp hrl hrr hn1 hn2 hpx hms;(go_wp2_with fail);go_ret;exact ⟨A1,n1,cap1,rfl,by rw [Hgm.out];exact hown.mono (by omega),by rw [Hgm.out];exact hbwV.trans (hb.mono (by omega))⟩
        | cons d R' =>
          have hn2p : n2 = R'.length + 1:=by simpa using hn2.symm
          subst hn2p;obtain ⟨q,o,rfl,hrow⟩:=ActsIn.get hsw2.rd (i:=0) (by omega) (by simp);rw [Nat.zero_mul,Nat.add_zero,List.getElem_cons_zero] at hrow;have hdd:=hdp.out (nodeA d) (by simp);have hinv2 : X ++ [nodeA d] ++ restL (kids N) NodeV.id (N.length + 1) (kids N (nodeA d).id ++ R'.map nodeA) = orderN N:=by
            have:=hinv.out;rw [List.map_cons,rest_step hdd] at this;simpa using this
          have hms2 : (restL (kids N) NodeV.id (N.length + 1) ((d :: R').map nodeA)).length = (restL (kids N) NodeV.id (N.length + 1) (kids N (nodeA d).id ++ R'.map nodeA)).length + 1:=by
            rw [List.map_cons,rest_step hdd,List.length_cons]
          have hdp2 : ∀ c ∈ kids N (nodeA d).id ++ R'.map nodeA,Deep (kids N) NodeV.id (N.length + 1) c.id:=fun c hc=>by
            rcases List.mem_append.1 hc with hc | hc
            · exact deep_kids hdd c hc
            · exact hdp.out c (by rw [List.map_cons];exact List.mem_cons_of_mem _ hc)
          have Hinv2:=Lib.hid hinv2;have Hdp2:=Lib.hid hdp2;have Hms2:=Lib.hid hms2;have hlen2 : X.length + 1 + (restL (kids N) NodeV.id (N.length + 1) (kids N (nodeA d).id ++ R'.map nodeA)).length ≤ N.length:=by omega
          have Hlen2:=Lib.hid hlen2;clear hinv hdp hdd hinv2 hdp2 hrl hrr hn1 hn2 hms hms2 hlen2 hpx;have hba : Below wr.heap.size wr (wr.alloc (.cells (actR d) 139)):=(Below.refl _ _).alloc (Nat.le_refl _) _;have hra : rowAt (wr.alloc (.cells (actR d) 139)) wr.heap.size 0 70 = some (actR d):=by simp [go_sem]
          have hoa:=hown.below hba;have hsa:=hsw2.below hba;have hVa : Below V.heap.size V (wr.alloc (.cells (actR d) 139)):=hb.trans (hba.mono hzr);have hdA : ∀ x ∈ blk A1,x < wr.heap.size:=fun x hx=>(hown.at_base hx).2;have HdA:=Lib.hid hdA;have Hdis:=Lib.hid hdis;go_upto_region 12 with fail
          obtain ⟨gx,hgx⟩ : ∃ gx,wr.heap.size = gx:=⟨_,rfl⟩
          have Hgx:=Lib.hid hgx;have hza : gx + 1 ≤ (wr.alloc (.cells (actR d) 139)).heap.size:=by simp [hgx]
          obtain ⟨W0,hW0⟩ : ∃ W0,W0 = wr.alloc (.cells (actR d) 139):=⟨_,rfl⟩
          rw [← hW0] at hra hoa hsa hVa hza ⊢;rw [hgx] at hra hzr ⊢;clear hW0 hgx hba hown hsw2 hb hrow hdA hdis;have f37 : rowAt W0 gx 37 32 = some (idC d.m.id):=by have:=rowAt_sub hra (j:=37) (m:=32) (by omega);rwa [actR_e37,Nat.zero_add] at this
          have f3 : W0.cell? ⟨gx,3,none⟩ = some (.string (oOf d.m).val):=by have:=rowAt_cell hra (j:=3) (by omega);rwa [actR_g3,Nat.zero_add] at this
          have hpS : pS (X ++ [nodeA d]) G = if d.m.id ∈ G then pS X G else pS X G ++ [⟨⟨#[]⟩,(oOf d.m).val⟩]:=pS_snoc X G (nodeA d);have HpS:=Lib.hid hpS;clear hpS;have hset0:=SetAt.below hsetV hVa;by_cases hin : d.m.id ∈ G
          · have hlk:=ihit hset0 hin;have hpS:=HpS.out;rw [if_pos hin] at hpS;have HpS2:=Lib.hid hpS;clear hpS hin;obtain ⟨Z,hZ⟩ : ∃ Z,Z = W0:=⟨_,rfl⟩
            have hoZ : Own Z V.heap.size 98 2 A1 n1 cap1 ((pS (X ++ [nodeA d]) G).map pairC):=by rw [HpS2.out,hZ];exact hoa
            have hAZ : ∀ x ∈ blk A1,x < Z.heap.size:=fun x hx=>(hoZ.at_base hx).2;rw [← hZ] at hra hsa hVa hza f37 f3 hlk ⊢;clear hZ hoa;have htZ:=htV.below hVa;obtain ⟨s1,hs1,hl1⟩:=htZ.look d.m.id;have hk : ∀ x : Subtype (Bel Z),(Instr.lookup 148 (.map (some gt)) (.agg (idC d.m.id)) false).run Tryz.prog x.1 = .ok (.slice s1.A s1.n s1.c) x.1:=fun x=>hl1 x.1 x.2;have hs1n : (refF P d.m.id).length = s1.n:=by have:=hs1.len;simpa using this
            have hkl1 : (refF P d.m.id).length ≤ 30:=by have e:=congrArg List.length (Hkids.out d.m.id);rw [List.length_map] at e;have:=kids_length N d.m.id;omega
            obtain ⟨Ah,ch,hhi,hhs,hhf⟩:=hsa.hi (P:=Tryz.prog) einfoAct (m:=1) (by omega);have hhi2 : ∀ w0 : World,(slS 89 (.slice (some ⟨q,o,none⟩) (R'.length + 1) cap2) (some (.int .i64 1)) none none).run Tryz.prog w0 = .ok (.slice Ah R'.length ch) w0:=hhi;have hRr : (refF P d.m.id ++ R').map nodeA = kids N (nodeA d).id ++ R'.map nodeA:=by rw [List.map_append];congr 1;exact Hkids.out _
            have HRr:=Lib.hid hRr;have hzV:=hVa.size;clear hRr htZ hl1 hhi;go_upto_region 14 with fail
            refine wp_region_lex (Bel Z) false (by kernel_rfl) (by kernel_rfl) (by kernel_rfl) (bel_drew Z) ?_;have hne:=bel_some Z;have hS:=bel_drew Z;have b1:=sub_row f37;repeat (refine wpLx_loose ?_ ?_;(focus (simp only [chainOp];done));intro K hK;go_simp;refine hK _ ?_;clear hK K)
            refine wpLx_chain ?_ ?_ ?_;(focus (exact hS));(focus (simp only [chainOp];done));intro K hK;go_simp;refine step_keep (bel_alloc hS _) (fun hS=>?_);refine hK _ _ ?_;clear hK K;have hbX : Below Z.heap.size Z (Z.alloc (.cells #[.slice s1.A s1.n s1.c,.slice Ah R'.length ch] 89)):=(Below.refl _ _).alloc (Nat.le_refl _) _;obtain ⟨Y,hY⟩ : ∃ Y,(Z.alloc (.cells #[.slice s1.A s1.n s1.c,.slice Ah R'.length ch] 89)).drew = Y:=⟨_,rfl⟩
            have hbY : Below Z.heap.size Z Y:=by rw [← hY];exact hbX.drew
            have q0 : Y.cell? ⟨Z.heap.size,0,none⟩ = some (.slice s1.A s1.n s1.c):=by rw [← hY];simp [go_sem]
            have q1 : Y.cell? ⟨Z.heap.size,1,none⟩ = some (.slice Ah R'.length ch):=by rw [← hY];simp [go_sem]
            rw [hY] at hS ⊢;clear hY hbX;have u1 : ActsIn Y s1.A s1.n (refF P d.m.id):=SlR.below hs1.rd hbY;have u2 : ActsIn Y Ah R'.length R':=hhs Y (hsa.rd.below hbY);have cc:=concatA Y Z.heap.size 2 s1.A Ah s1.n R'.length s1.c ch _ _ u1 u2 hs1.nil hhf q0 q1 (by omega);repeat (refine wpLx_loose ?_ ?_;(focus (simp only [chainOp];done));intro K hK;go_simp;refine hK _ ?_;clear hK K)
            refine wpLx_chain ?_ ?_ ?_;(focus (exact hS));(focus (simp only [chainOp];done));intro K hK;go_simp;refine cc.mono ?_;rintro e wC ⟨A5,cap5,rfl,ho5,hb5⟩;replace hS:=bel_next hS hb5;refine ⟨_,rfl,hS,hK _ _ ?_⟩;clear hK K cc;repeat (refine wpLx_loose ?_ ?_;(focus (simp only [chainOp];done));intro K hK;go_simp;refine hK _ ?_;clear hK K)
            refine wpLx_nil ?_;intro hS;have hbC : Below Z.heap.size Z wC:=hS;have ho6 : Own wC Y.heap.size 139 70 A5 (s1.n + R'.length) cap5 ((refF P d.m.id ++ R').map actR):=ho5;have hYs:=hbY.size;have hnd : ∀ x ∈ blk A5,x ∉ blk A1:=fun x hx hm=>(by have:=(ho6.at_base hx).1;have:=hAZ x hm;omega);have hoC:=hoZ.below hbC;have hslC:=ho6.slw;have hVC : Below V.heap.size V wC:=hVa.trans (hbC.mono hzV);have hmsC : leftA N wC (.slice A5 (s1.n + R'.length) cap5) = (restL (kids N) NodeV.id (N.length + 1) (kids N (nodeA d).id ++ R'.map nodeA)).length:=by rw [leftA_eq hslC.rd,HRr.out]
            have HmsC:=Lib.hid hmsC;have HVC:=Lib.hid hVC;have HoC:=Lib.hid hoC;have HslC:=Lib.hid hslC;have Hnd:=Lib.hid hnd;clear b1 hne hS hk hhi2 hhs hhf u1 u2 q0 q1 hbY hb5 ho5 ho6 hs1 hsa hra f37 hmsC hVC hoC hslC hnd hoZ hbC;(go_wp2_with fail);go_roundw
            case rel=>exact ⟨X ++ [nodeA d],refF P d.m.id ++ R',A1,n1,cap1,A5,s1.n + R'.length,cap5,rfl,(by first | rfl | go_num),HoC.out,HslC.out,Hnd.out,(show _ = _ by rw [HRr.out];exact Hinv2.out),(show ∀ c ∈ _,_ by rw [HRr.out];exact Hdp2.out),HVC.out⟩
            case measure=>have m1:=HmsC.out;have m2:=Hms.out;have m3:=Hms2.out;omega
          · have hlk:=imiss hset0 hin;have hpS:=HpS.out;rw [if_neg hin] at hpS;have HpS2:=Lib.hid hpS;clear hpS hin;have hbx : Below W0.heap.size W0 (W0.alloc (.cells (pairC ⟨⟨#[]⟩,(oOf d.m).val⟩) 98)):=(Below.refl _ _).alloc (Nat.le_refl _) _;have hown2:=hoa.below hbx;have hrow2 : rowAt (W0.alloc (.cells (pairC ⟨⟨#[]⟩,(oOf d.m).val⟩) 98)) W0.heap.size 0 2 = some (pairC ⟨⟨#[]⟩,(oOf d.m).val⟩):=by simp [go_sem]
            go_upto_region 14 with (at_builtin;refine L_append einfoPair rfl hown2 rfl hrow2 (pairC_one _) (by omega) (by omega) (by simp;omega) ?_;intro A6 cap6 Z hown6 hk6 hsub6)
            have hVZ : Below V.heap.size V Z:=(hVa.trans (hbx.mono (by omega))).trans (hk6.below (by simp;omega) (fun y hy=>(hoa.at_base hy).1));have hoZ : Own Z V.heap.size 98 2 A6 (n1 + 1) cap6 ((pS (X ++ [nodeA d]) G).map pairC):=by rw [HpS2.out];simpa using hown6
            have hgA : gx ∉ blk A1:=fun hm=>(by have:=HdA.out gx hm;have:=Hgx.out;omega);have hraZ : rowAt Z gx 0 70 = some (actR d):=(hk6.row (by simp;omega) hgA 0 70).trans ((rowAt_of_block (hbx.block gx (by omega)) 0 70).trans hra);have hsZ : SlW Z (some ⟨q,o,none⟩) (R'.length + 1) cap2 70 ((d :: R').map actR):=(hsa.below hbx).kept hk6 Hdis.out;have hzZ : gx + 1 ≤ Z.heap.size:=by have:=hk6.size;simp at this;omega
            clear hra hsa hVa hza f37 f3 hlk hoa hown6 hk6 hsub6 hown2 hrow2 hbx;have hra:=hraZ;have hsa:=hsZ;have hVa:=hVZ;have hza:=hzZ;have f37 : rowAt Z gx 37 32 = some (idC d.m.id):=by have:=rowAt_sub hra (j:=37) (m:=32) (by omega);rwa [actR_e37,Nat.zero_add] at this
            have hAZ : ∀ x ∈ blk A6,x < Z.heap.size:=fun x hx=>(hoZ.at_base hx).2;clear hraZ hsZ hVZ hzZ;have htZ:=htV.below hVa;obtain ⟨s1,hs1,hl1⟩:=htZ.look d.m.id;have hk : ∀ x : Subtype (Bel Z),(Instr.lookup 148 (.map (some gt)) (.agg (idC d.m.id)) false).run Tryz.prog x.1 = .ok (.slice s1.A s1.n s1.c) x.1:=fun x=>hl1 x.1 x.2;have hs1n : (refF P d.m.id).length = s1.n:=by have:=hs1.len;simpa using this
            have hkl1 : (refF P d.m.id).length ≤ 30:=by have e:=congrArg List.length (Hkids.out d.m.id);rw [List.length_map] at e;have:=kids_length N d.m.id;omega
            obtain ⟨Ah,ch,hhi,hhs,hhf⟩:=hsa.hi (P:=Tryz.prog) einfoAct (m:=1) (by omega);have hhi2 : ∀ w0 : World,(slS 89 (.slice (some ⟨q,o,none⟩) (R'.length + 1) cap2) (some (.int .i64 1)) none none).run Tryz.prog w0 = .ok (.slice Ah R'.length ch) w0:=hhi;have hRr : (refF P d.m.id ++ R').map nodeA = kids N (nodeA d).id ++ R'.map nodeA:=by rw [List.map_append];congr 1;exact Hkids.out _
            have HRr:=Lib.hid hRr;have hzV:=hVa.size;clear hRr htZ hl1 hhi;go_upto_region 14 with fail
            refine wp_region_lex (Bel Z) false (by kernel_rfl) (by kernel_rfl) (by kernel_rfl) (bel_drew Z) ?_;have hne:=bel_some Z;have hS:=bel_drew Z;have b1:=sub_row f37;repeat (refine wpLx_loose ?_ ?_;(focus (simp only [chainOp];done));intro K hK;go_simp;refine hK _ ?_;clear hK K)
            refine wpLx_chain ?_ ?_ ?_;(focus (exact hS));(focus (simp only [chainOp];done));intro K hK;go_simp;refine step_keep (bel_alloc hS _) (fun hS=>?_);refine hK _ _ ?_;clear hK K;have hbX : Below Z.heap.size Z (Z.alloc (.cells #[.slice s1.A s1.n s1.c,.slice Ah R'.length ch] 89)):=(Below.refl _ _).alloc (Nat.le_refl _) _;obtain ⟨Y,hY⟩ : ∃ Y,(Z.alloc (.cells #[.slice s1.A s1.n s1.c,.slice Ah R'.length ch] 89)).drew = Y:=⟨_,rfl⟩
            have hbY : Below Z.heap.size Z Y:=by rw [← hY];exact hbX.drew
            have q0 : Y.cell? ⟨Z.heap.size,0,none⟩ = some (.slice s1.A s1.n s1.c):=by rw [← hY];simp [go_sem]
            have q1 : Y.cell? ⟨Z.heap.size,1,none⟩ = some (.slice Ah R'.length ch):=by rw [← hY];simp [go_sem]
            rw [hY] at hS ⊢;clear hY hbX;have u1 : ActsIn Y s1.A s1.n (refF P d.m.id):=SlR.below hs1.rd hbY;have u2 : ActsIn Y Ah R'.length R':=hhs Y (hsa.rd.below hbY);have cc:=concatA Y Z.heap.size 2 s1.A Ah s1.n R'.length s1.c ch _ _ u1 u2 hs1.nil hhf q0 q1 (by omega);repeat (refine wpLx_loose ?_ ?_;(focus (simp only [chainOp];done));intro K hK;go_simp;refine hK _ ?_;clear hK K)
            refine wpLx_chain ?_ ?_ ?_;(focus (exact hS));(focus (simp only [chainOp];done));intro K hK;go_simp;refine cc.mono ?_;rintro e wC ⟨A5,cap5,rfl,ho5,hb5⟩;replace hS:=bel_next hS hb5;refine ⟨_,rfl,hS,hK _ _ ?_⟩;clear hK K cc;repeat (refine wpLx_loose ?_ ?_;(focus (simp only [chainOp];done));intro K hK;go_simp;refine hK _ ?_;clear hK K)
            refine wpLx_nil ?_;intro hS;have hbC : Below Z.heap.size Z wC:=hS;have ho6 : Own wC Y.heap.size 139 70 A5 (s1.n + R'.length) cap5 ((refF P d.m.id ++ R').map actR):=ho5;have hYs:=hbY.size;have hnd : ∀ x ∈ blk A5,x ∉ blk A6:=fun x hx hm=>(by have:=(ho6.at_base hx).1;have:=hAZ x hm;omega);have hoC:=hoZ.below hbC;have hslC:=ho6.slw;have hVC : Below V.heap.size V wC:=hVa.trans (hbC.mono hzV);have hmsC : leftA N wC (.slice A5 (s1.n + R'.length) cap5) = (restL (kids N) NodeV.id (N.length + 1) (kids N (nodeA d).id ++ R'.map nodeA)).length:=by rw [leftA_eq hslC.rd,HRr.out]
            have HmsC:=Lib.hid hmsC;have HVC:=Lib.hid hVC;have HoC:=Lib.hid hoC;have HslC:=Lib.hid hslC;have Hnd:=Lib.hid hnd;clear b1 hne hS hk hhi2 hhs hhf u1 u2 q0 q1 hbY hb5 ho5 ho6 hs1 hsa hra f37 hmsC hVC hoC hslC hnd hoZ hbC;(go_wp2_with fail);go_roundw
            case rel=>exact ⟨X ++ [nodeA d],refF P d.m.id ++ R',A6,n1 + 1,cap6,A5,s1.n + R'.length,cap5,rfl,(by first | rfl | go_num),HoC.out,HslC.out,Hnd.out,(show _ = _ by rw [HRr.out];exact Hinv2.out),(show ∀ c ∈ _,_ by rw [HRr.out];exact Hdp2.out),HVC.out⟩
            case measure=>have m1:=HmsC.out;have m2:=Hms.out;have m3:=Hms2.out;omega
end
section
open Go.RowKit Stb
set_option maxRecDepth 100000 in
set_option maxHeartbeats 4000000 in
theorem dval_2 (t : ByteArray) (A : Option Addr) (n cap : Nat) (R : List MarkV) (w : World) (Ps : List Pair) (hm : MarksIn w A n R) (hn : n ≤ 1000) (ho : (onceM R).length ≤ 30) (hs : ∀ m ∈ R,m.body.size ≤ 600) (hp : PartsVar w) (ht : t.size ≤ 9223372036854775807) (hk : kindB t = 2) (hFl : (fitM t R).length ≤ 30)
    (hl : ∀ (w' : World) (A' : Option Addr) (cap' : Nat) (L : List ActM) (B : Nat),ActsAt w' B A' L.length cap' L → L.length ≤ 30 → L.map ActM.m = fitM t R → Calls Tryz.prog 46 #[.slice A' L.length cap'] w' fun e w''=>∃ A2 n2 cap2,e = .returned (.slice A2 n2 cap2) ∧ Own w'' w'.heap.size 98 2 A2 n2 cap2 (Ps.map pairC) ∧ Below w'.heap.size w' w'') :
    Calls Tryz.prog 13 #[.string t,.slice A n cap] w fun e w'=>∃ A2 n2 cap2,e = .returned (.tuple #[.agg (valVC ⟨2,0,.slice A2 n2 cap2⟩),.int .i64 0]) ∧ PairsIn w' A2 n2 Ps ∧ Below w.heap.size w w':=by
  have hB : Below w.heap.size w (w.alloc (.cells (valVC valV0) 25)):=(Below.refl _ _).alloc (Nat.le_refl _) _;have hg1 : (w.alloc (.cells (valVC valV0) 25)).heap[w.heap.size]? = some (.cells (valVC valV0) 25 (0,0)):=heap_alloc_new w _;have c1:=fun w=>check_any t w ht;have c2:=fun w=>kind_any t w ht;have ca:=fun w' (hb : Below w.heap.size w w')=>acts_any t A n cap R w' (SlR.below hm hb) hn ho hs (hp.below hb);have hcz : checkB t = 0:=by unfold checkB;rw [if_neg (by omega)]
  rw [hcz] at c1;rw [hk] at c2;simp only [hk] at ca;obtain ⟨F,hF⟩ : ∃ F,fitM t R = F:=⟨_,rfl⟩
  simp only [hF] at ca;rw [hF] at hFl hl;clear hcz hm hs hp hF hk;go_enter Tryz.func13,Tryz.ntmps13
  go_upto_region 1 with fail
  obtain ⟨ga,hga⟩ : ∃ ga,w.heap.size = ga:=⟨_,rfl⟩
  have Hga:=Lib.hid hga;rw [hga] at hg1 hB ⊢;simp only [hga] at ca;obtain ⟨W,hW⟩ : ∃ W,W = w.alloc (.cells (valVC valV0) 25):=⟨_,rfl⟩
  rw [← hW] at hg1 hB ⊢;clear hW hga;(go_wp2_with fail);refine (c1 _).mono ?_;rintro e w1 ⟨rfl,hb1⟩;have hg2:=(hb1.block ga (Array.getElem?_eq_some_iff.1 hg1).1).trans hg1;have hB2 : Below ga w w1:=hB.trans (hb1.mono (by have:=hB.size;have:=Hga.out;omega));clear hg1 hB hb1 c1;(go_wp2_with fail);refine (c2 _).mono ?_;rintro e w2 ⟨rfl,hb2⟩;have hg3:=(hb2.block ga (Array.getElem?_eq_some_iff.1 hg2).1).trans hg2;have hB3 : Below ga w w2:=hB2.trans (hb2.mono (by have:=hB2.size;have:=Hga.out;omega));have hs2 : ga < w2.heap.size:=(Array.getElem?_eq_some_iff.1 hg3).1;clear hg2 hB2 hb2 c2;have hb3 : Below w2.heap.size w2 (w2.alloc (.cells (valVC ⟨2,0,.slice none 0 0⟩) 25)):=(Below.refl _ _).alloc (Nat.le_refl _) _;have hg4:=(hb3.block ga hs2).trans hg3;have hB4 : Below ga w (w2.alloc (.cells (valVC ⟨2,0,.slice none 0 0⟩) 25)):=hB3.trans (hb3.mono (by omega));have hv4 : (w2.alloc (.cells (valVC ⟨2,0,.slice none 0 0⟩) 25)).heap[w2.heap.size]? = some (.cells (valVC ⟨2,0,.slice none 0 0⟩) 25 (0,0)):=heap_alloc_new w2 _;obtain ⟨gv,hgv⟩ : ∃ gv,w2.heap.size = gv:=⟨_,rfl⟩
  clear hg3 hB3 hb3;go_upto_region 5 with fail
  rw [hgv] at hv4 hs2;obtain ⟨W3,hW3⟩ : ∃ W3,W3 = (w2.alloc (.cells (valVC ⟨2,0,.slice none 0 0⟩) 25)):=⟨_,rfl⟩
  rw [← hW3] at hg4 hB4 hv4 ⊢;clear hW3 hgv;have hc0 : W3.cell? ⟨gv,0,none⟩ = some (.int .i64 2):=by rw [cell_of_row W3 gv 0 _ _ _ hv4];simp [go_sem]
  have ca':=ca W3 hB4;clear ca;(go_wp2_with fail);refine ca'.mono ?_;rintro e w5 ⟨A5,cap5,L,rfl,hacts,hLF,hb5⟩;have hg5:=(hb5.block ga (Array.getElem?_eq_some_iff.1 hg4).1).trans hg4;have hv5:=(hb5.block gv (Array.getElem?_eq_some_iff.1 hv4).1).trans hv4;have hB5 : Below ga w w5:=hB4.trans (hb5.mono (by have:=hB4.size;have:=Hga.out;omega));have hLl : L.length ≤ 30:=by have e:=congrArg List.length hLF;rw [List.length_map] at e;omega
  have hc5 : w5.cell? ⟨gv,0,none⟩ = some (.int .i64 2):=by rw [cell_of_row w5 gv 0 _ _ _ hv5];simp [go_sem]
  have hlc:=hl w5 A5 cap5 L _ hacts hLl hLF;have hgvl : gv < w5.heap.size:=(Array.getElem?_eq_some_iff.1 hv5).1;have hgal : ga < w5.heap.size:=(Array.getElem?_eq_some_iff.1 hg5).1;clear ca' hacts hLF hb5 hg4 hv4 hB4 hc0 hl;have hf : ∀ w',Below w5.heap.size w5 w' → w'.frozen? ⟨gv,2,none⟩ = false:=fun w' hb=>by
    have:=(hb.block gv hgvl).trans hv5;simp [World.frozen?,this]
  have hcv : ∀ w',Below w5.heap.size w5 w' → w'.cell? ⟨gv,2,none⟩ = some (.slice none 0 0):=fun w' hb=>by
    rw [cell_of_row w' gv 2 _ _ _ ((hb.block gv hgvl).trans hv5)];simp [go_sem]
  (go_wp2_with fail);refine hlc.mono ?_;rintro e w6 ⟨A2,n2,cap2,rfl,hown,hb6⟩;have hf6:=hf w6 hb6;have hcv6:=hcv w6 hb6;have hset : (valVC ⟨2,0,.slice none 0 0⟩).setIfInBounds 2 (.slice A2 n2 cap2) = valVC ⟨2,0,.slice A2 n2 cap2⟩:=by apply Array.ext';simp [valVC]
  have hv6:=(hb6.block gv hgvl).trans hv5;have hv4 : (w6.setCell ⟨gv,2,none⟩ (.slice A2 n2 cap2)).heap[gv]? = some (.cells (valVC ⟨2,0,.slice A2 n2 cap2⟩) 25 (0,0)):=by rw [heap_setCell_same hv6,hset]
  have hks:=Keep.setCell w6 ⟨gv,2,none⟩ (.slice A2 n2 cap2);have hz6:=hb6.size;have hg6:=(hb6.block ga hgal).trans hg5;have hg4 : (w6.setCell ⟨gv,2,none⟩ (.slice A2 n2 cap2)).heap[ga]? = some (.cells (valVC valV0) 25 (0,0)):=(hks.block ga (by omega) (by simp;omega)).trans hg6;have hB6 : Below ga w w6:=hB5.trans (hb6.mono (by omega));have hB4 : Below ga w (w6.setCell ⟨gv,2,none⟩ (.slice A2 n2 cap2)):=hB6.trans (hks.below (by omega) (by simp;omega));have hown4:=hown.kept hks (fun x hx=>by have:=(hown.at_base hx).1;simp;omega);clear hset hks hlc hf hcv hv5 hB5 hc5 hg5 hg6 hB6 hb6;go_upto_region 17 with fail
  obtain ⟨W4,hW4⟩ : ∃ W4,W4 = w6.setCell ⟨gv,2,none⟩ (.slice A2 n2 cap2):=⟨_,rfl⟩
  rw [← hW4] at hv4 hg4 hB4 hown4 ⊢;clear hW4 hf6 hcv6 hv6 hown;have hrow : rowAt W4 gv 0 3 = some (valVC ⟨2,0,.slice A2 n2 cap2⟩):=by unfold rowAt;rw [hv4];simp [go_sem]
  have hsto:=run_stS_at (P:=Tryz.prog) infoValV W4 ga (valVC valV0) (valVC ⟨2,0,.slice A2 n2 cap2⟩) _ hg4 (by simp) (by simp) (valVC_one _ rfl);have hkf : Keep [ga] W4 (W4.setRow ga (valVC ⟨2,0,.slice A2 n2 cap2⟩)):=⟨rfl,rfl,rfl,by simp [World.setRow],fun x _ hx=>setRow_other W4 ga x _ (by simpa using hx)⟩
  have Hfin:=Lib.hid (setRow_heap W4 ga _ (valVC ⟨2,0,.slice A2 n2 cap2⟩) _ _ hg4);have HBf:=Lib.hid (hB4.trans (hkf.below (by have:=hB4.size;have:=Hga.out;omega) (by simp)));have HO:=Lib.hid (hown4.kept hkf (fun x hx=>by have:=(hown4.at_base hx).1;simp;omega)).slr;clear hkf hg4 hB4 hv4 hown4;(go_wp2_with fail);refine bodyPost_ret (results_cell_tmp Tryz.results13 _ _ ga 25 (valVC ⟨2,0,.slice A2 n2 cap2⟩) (0,0) _ rfl Hfin.out Tryz.underlying25 rfl (by rw [valVC_size];exact infoValV)) rfl ?_;exact ⟨A2,n2,cap2,rfl,HO.out,by rw [Hga.out];exact HBf.out⟩
set_option maxRecDepth 100000 in
set_option maxHeartbeats 4000000 in
theorem dval_3 (t : ByteArray) (A : Option Addr) (n cap : Nat) (R : List MarkV) (w : World) (Ps : List Pair) (hm : MarksIn w A n R) (hn : n ≤ 1000) (ho : (onceM R).length ≤ 30) (hs : ∀ m ∈ R,m.body.size ≤ 600) (hp : PartsVar w) (ht : t.size ≤ 9223372036854775807) (hk : kindB t = 3) (hFl : (fitM t R).length ≤ 30)
    (hl : ∀ (w' : World) (A' : Option Addr) (cap' : Nat) (L : List ActM) (B : Nat),ActsAt w' B A' L.length cap' L → L.length ≤ 30 → L.map ActM.m = fitM t R → Calls Tryz.prog 47 #[.slice A' L.length cap'] w' fun e w''=>∃ A2 n2 cap2,e = .returned (.slice A2 n2 cap2) ∧ Own w'' w'.heap.size 98 2 A2 n2 cap2 (Ps.map pairC) ∧ Below w'.heap.size w' w'') :
    Calls Tryz.prog 13 #[.string t,.slice A n cap] w fun e w'=>∃ A2 n2 cap2,e = .returned (.tuple #[.agg (valVC ⟨3,0,.slice A2 n2 cap2⟩),.int .i64 0]) ∧ PairsIn w' A2 n2 Ps ∧ Below w.heap.size w w':=by
  have hB : Below w.heap.size w (w.alloc (.cells (valVC valV0) 25)):=(Below.refl _ _).alloc (Nat.le_refl _) _;have hg1 : (w.alloc (.cells (valVC valV0) 25)).heap[w.heap.size]? = some (.cells (valVC valV0) 25 (0,0)):=heap_alloc_new w _;have c1:=fun w=>check_any t w ht;have c2:=fun w=>kind_any t w ht;have ca:=fun w' (hb : Below w.heap.size w w')=>acts_any t A n cap R w' (SlR.below hm hb) hn ho hs (hp.below hb);have hcz : checkB t = 0:=by unfold checkB;rw [if_neg (by omega)]
  rw [hcz] at c1;rw [hk] at c2;simp only [hk] at ca;obtain ⟨F,hF⟩ : ∃ F,fitM t R = F:=⟨_,rfl⟩
  simp only [hF] at ca;rw [hF] at hFl hl;clear hcz hm hs hp hF hk;go_enter Tryz.func13,Tryz.ntmps13
  go_upto_region 1 with fail
  obtain ⟨ga,hga⟩ : ∃ ga,w.heap.size = ga:=⟨_,rfl⟩
  have Hga:=Lib.hid hga;rw [hga] at hg1 hB ⊢;simp only [hga] at ca;obtain ⟨W,hW⟩ : ∃ W,W = w.alloc (.cells (valVC valV0) 25):=⟨_,rfl⟩
  rw [← hW] at hg1 hB ⊢;clear hW hga;(go_wp2_with fail);refine (c1 _).mono ?_;rintro e w1 ⟨rfl,hb1⟩;have hg2:=(hb1.block ga (Array.getElem?_eq_some_iff.1 hg1).1).trans hg1;have hB2 : Below ga w w1:=hB.trans (hb1.mono (by have:=hB.size;have:=Hga.out;omega));clear hg1 hB hb1 c1;(go_wp2_with fail);refine (c2 _).mono ?_;rintro e w2 ⟨rfl,hb2⟩;have hg3:=(hb2.block ga (Array.getElem?_eq_some_iff.1 hg2).1).trans hg2;have hB3 : Below ga w w2:=hB2.trans (hb2.mono (by have:=hB2.size;have:=Hga.out;omega));have hs2 : ga < w2.heap.size:=(Array.getElem?_eq_some_iff.1 hg3).1;clear hg2 hB2 hb2 c2;have hb3 : Below w2.heap.size w2 (w2.alloc (.cells (valVC ⟨3,0,.slice none 0 0⟩) 25)):=(Below.refl _ _).alloc (Nat.le_refl _) _;have hg4:=(hb3.block ga hs2).trans hg3;have hB4 : Below ga w (w2.alloc (.cells (valVC ⟨3,0,.slice none 0 0⟩) 25)):=hB3.trans (hb3.mono (by omega));have hv4 : (w2.alloc (.cells (valVC ⟨3,0,.slice none 0 0⟩) 25)).heap[w2.heap.size]? = some (.cells (valVC ⟨3,0,.slice none 0 0⟩) 25 (0,0)):=heap_alloc_new w2 _;obtain ⟨gv,hgv⟩ : ∃ gv,w2.heap.size = gv:=⟨_,rfl⟩
  clear hg3 hB3 hb3;go_upto_region 5 with fail
  rw [hgv] at hv4 hs2;obtain ⟨W3,hW3⟩ : ∃ W3,W3 = (w2.alloc (.cells (valVC ⟨3,0,.slice none 0 0⟩) 25)):=⟨_,rfl⟩
  rw [← hW3] at hg4 hB4 hv4 ⊢;clear hW3 hgv;have hc0 : W3.cell? ⟨gv,0,none⟩ = some (.int .i64 3):=by rw [cell_of_row W3 gv 0 _ _ _ hv4];simp [go_sem]
  have ca':=ca W3 hB4;clear ca;(go_wp2_with fail);refine ca'.mono ?_;rintro e w5 ⟨A5,cap5,L,rfl,hacts,hLF,hb5⟩;have hg5:=(hb5.block ga (Array.getElem?_eq_some_iff.1 hg4).1).trans hg4;have hv5:=(hb5.block gv (Array.getElem?_eq_some_iff.1 hv4).1).trans hv4;have hB5 : Below ga w w5:=hB4.trans (hb5.mono (by have:=hB4.size;have:=Hga.out;omega));have hLl : L.length ≤ 30:=by have e:=congrArg List.length hLF;rw [List.length_map] at e;omega
  have hc5 : w5.cell? ⟨gv,0,none⟩ = some (.int .i64 3):=by rw [cell_of_row w5 gv 0 _ _ _ hv5];simp [go_sem]
  have hlc:=hl w5 A5 cap5 L _ hacts hLl hLF;have hgvl : gv < w5.heap.size:=(Array.getElem?_eq_some_iff.1 hv5).1;have hgal : ga < w5.heap.size:=(Array.getElem?_eq_some_iff.1 hg5).1;clear ca' hacts hLF hb5 hg4 hv4 hB4 hc0 hl;have hf : ∀ w',Below w5.heap.size w5 w' → w'.frozen? ⟨gv,2,none⟩ = false:=fun w' hb=>by
    have:=(hb.block gv hgvl).trans hv5;simp [World.frozen?,this]
  have hcv : ∀ w',Below w5.heap.size w5 w' → w'.cell? ⟨gv,2,none⟩ = some (.slice none 0 0):=fun w' hb=>by
    rw [cell_of_row w' gv 2 _ _ _ ((hb.block gv hgvl).trans hv5)];simp [go_sem]
  (go_wp2_with fail);refine hlc.mono ?_;rintro e w6 ⟨A2,n2,cap2,rfl,hown,hb6⟩;have hf6:=hf w6 hb6;have hcv6:=hcv w6 hb6;have hset : (valVC ⟨3,0,.slice none 0 0⟩).setIfInBounds 2 (.slice A2 n2 cap2) = valVC ⟨3,0,.slice A2 n2 cap2⟩:=by apply Array.ext';simp [valVC]
  have hv6:=(hb6.block gv hgvl).trans hv5;have hv4 : (w6.setCell ⟨gv,2,none⟩ (.slice A2 n2 cap2)).heap[gv]? = some (.cells (valVC ⟨3,0,.slice A2 n2 cap2⟩) 25 (0,0)):=by rw [heap_setCell_same hv6,hset]
  have hks:=Keep.setCell w6 ⟨gv,2,none⟩ (.slice A2 n2 cap2);have hz6:=hb6.size;have hg6:=(hb6.block ga hgal).trans hg5;have hg4 : (w6.setCell ⟨gv,2,none⟩ (.slice A2 n2 cap2)).heap[ga]? = some (.cells (valVC valV0) 25 (0,0)):=(hks.block ga (by omega) (by simp;omega)).trans hg6;have hB6 : Below ga w w6:=hB5.trans (hb6.mono (by omega));have hB4 : Below ga w (w6.setCell ⟨gv,2,none⟩ (.slice A2 n2 cap2)):=hB6.trans (hks.below (by omega) (by simp;omega));have hown4:=hown.kept hks (fun x hx=>by have:=(hown.at_base hx).1;simp;omega);clear hset hks hlc hf hcv hv5 hB5 hc5 hg5 hg6 hB6 hb6;go_upto_region 17 with fail
  obtain ⟨W4,hW4⟩ : ∃ W4,W4 = w6.setCell ⟨gv,2,none⟩ (.slice A2 n2 cap2):=⟨_,rfl⟩
  rw [← hW4] at hv4 hg4 hB4 hown4 ⊢;clear hW4 hf6 hcv6 hv6 hown;have hrow : rowAt W4 gv 0 3 = some (valVC ⟨3,0,.slice A2 n2 cap2⟩):=by unfold rowAt;rw [hv4];simp [go_sem]
  have hsto:=run_stS_at (P:=Tryz.prog) infoValV W4 ga (valVC valV0) (valVC ⟨3,0,.slice A2 n2 cap2⟩) _ hg4 (by simp) (by simp) (valVC_one _ rfl);have hkf : Keep [ga] W4 (W4.setRow ga (valVC ⟨3,0,.slice A2 n2 cap2⟩)):=⟨rfl,rfl,rfl,by simp [World.setRow],fun x _ hx=>setRow_other W4 ga x _ (by simpa using hx)⟩
  have Hfin:=Lib.hid (setRow_heap W4 ga _ (valVC ⟨3,0,.slice A2 n2 cap2⟩) _ _ hg4);have HBf:=Lib.hid (hB4.trans (hkf.below (by have:=hB4.size;have:=Hga.out;omega) (by simp)));have HO:=Lib.hid (hown4.kept hkf (fun x hx=>by have:=(hown4.at_base hx).1;simp;omega)).slr;clear hkf hg4 hB4 hv4 hown4;(go_wp2_with fail);refine bodyPost_ret (results_cell_tmp Tryz.results13 _ _ ga 25 (valVC ⟨3,0,.slice A2 n2 cap2⟩) (0,0) _ rfl Hfin.out Tryz.underlying25 rfl (by rw [valVC_size];exact infoValV)) rfl ?_;exact ⟨A2,n2,cap2,rfl,HO.out,by rw [Hga.out];exact HBf.out⟩
set_option maxRecDepth 100000 in
set_option maxHeartbeats 4000000 in
theorem dval_4 (t : ByteArray) (A : Option Addr) (n cap : Nat) (R : List MarkV) (w : World) (Ps : List Pair) (hm : MarksIn w A n R) (hn : n ≤ 1000) (ho : (onceM R).length ≤ 30) (hs : ∀ m ∈ R,m.body.size ≤ 600) (hp : PartsVar w) (ht : t.size ≤ 9223372036854775807) (hk : kindB t = 4) (hFl : (fitM t R).length ≤ 30)
    (hl : ∀ (w' : World) (A' : Option Addr) (cap' : Nat) (L : List ActM) (B : Nat),ActsAt w' B A' L.length cap' L → L.length ≤ 30 → L.map ActM.m = fitM t R → Calls Tryz.prog 48 #[.slice A' L.length cap'] w' fun e w''=>∃ A2 n2 cap2,e = .returned (.slice A2 n2 cap2) ∧ Own w'' w'.heap.size 98 2 A2 n2 cap2 (Ps.map pairC) ∧ Below w'.heap.size w' w'') :
    Calls Tryz.prog 13 #[.string t,.slice A n cap] w fun e w'=>∃ A2 n2 cap2,e = .returned (.tuple #[.agg (valVC ⟨4,0,.slice A2 n2 cap2⟩),.int .i64 0]) ∧ PairsIn w' A2 n2 Ps ∧ Below w.heap.size w w':=by
  have hB : Below w.heap.size w (w.alloc (.cells (valVC valV0) 25)):=(Below.refl _ _).alloc (Nat.le_refl _) _;have hg1 : (w.alloc (.cells (valVC valV0) 25)).heap[w.heap.size]? = some (.cells (valVC valV0) 25 (0,0)):=heap_alloc_new w _;have c1:=fun w=>check_any t w ht;have c2:=fun w=>kind_any t w ht;have ca:=fun w' (hb : Below w.heap.size w w')=>acts_any t A n cap R w' (SlR.below hm hb) hn ho hs (hp.below hb);have hcz : checkB t = 0:=by unfold checkB;rw [if_neg (by omega)]
  rw [hcz] at c1;rw [hk] at c2;simp only [hk] at ca;obtain ⟨F,hF⟩ : ∃ F,fitM t R = F:=⟨_,rfl⟩
  simp only [hF] at ca;rw [hF] at hFl hl;clear hcz hm hs hp hF hk;go_enter Tryz.func13,Tryz.ntmps13
  go_upto_region 1 with fail
  obtain ⟨ga,hga⟩ : ∃ ga,w.heap.size = ga:=⟨_,rfl⟩
  have Hga:=Lib.hid hga;rw [hga] at hg1 hB ⊢;simp only [hga] at ca;obtain ⟨W,hW⟩ : ∃ W,W = w.alloc (.cells (valVC valV0) 25):=⟨_,rfl⟩
  rw [← hW] at hg1 hB ⊢;clear hW hga;(go_wp2_with fail);refine (c1 _).mono ?_;rintro e w1 ⟨rfl,hb1⟩;have hg2:=(hb1.block ga (Array.getElem?_eq_some_iff.1 hg1).1).trans hg1;have hB2 : Below ga w w1:=hB.trans (hb1.mono (by have:=hB.size;have:=Hga.out;omega));clear hg1 hB hb1 c1;(go_wp2_with fail);refine (c2 _).mono ?_;rintro e w2 ⟨rfl,hb2⟩;have hg3:=(hb2.block ga (Array.getElem?_eq_some_iff.1 hg2).1).trans hg2;have hB3 : Below ga w w2:=hB2.trans (hb2.mono (by have:=hB2.size;have:=Hga.out;omega));have hs2 : ga < w2.heap.size:=(Array.getElem?_eq_some_iff.1 hg3).1;clear hg2 hB2 hb2 c2;have hb3 : Below w2.heap.size w2 (w2.alloc (.cells (valVC ⟨4,0,.slice none 0 0⟩) 25)):=(Below.refl _ _).alloc (Nat.le_refl _) _;have hg4:=(hb3.block ga hs2).trans hg3;have hB4 : Below ga w (w2.alloc (.cells (valVC ⟨4,0,.slice none 0 0⟩) 25)):=hB3.trans (hb3.mono (by omega));have hv4 : (w2.alloc (.cells (valVC ⟨4,0,.slice none 0 0⟩) 25)).heap[w2.heap.size]? = some (.cells (valVC ⟨4,0,.slice none 0 0⟩) 25 (0,0)):=heap_alloc_new w2 _;obtain ⟨gv,hgv⟩ : ∃ gv,w2.heap.size = gv:=⟨_,rfl⟩
  clear hg3 hB3 hb3;go_upto_region 5 with fail
  rw [hgv] at hv4 hs2;obtain ⟨W3,hW3⟩ : ∃ W3,W3 = (w2.alloc (.cells (valVC ⟨4,0,.slice none 0 0⟩) 25)):=⟨_,rfl⟩
  rw [← hW3] at hg4 hB4 hv4 ⊢;clear hW3 hgv;have hc0 : W3.cell? ⟨gv,0,none⟩ = some (.int .i64 4):=by rw [cell_of_row W3 gv 0 _ _ _ hv4];simp [go_sem]
  have ca':=ca W3 hB4;clear ca;(go_wp2_with fail);refine ca'.mono ?_;rintro e w5 ⟨A5,cap5,L,rfl,hacts,hLF,hb5⟩;have hg5:=(hb5.block ga (Array.getElem?_eq_some_iff.1 hg4).1).trans hg4;have hv5:=(hb5.block gv (Array.getElem?_eq_some_iff.1 hv4).1).trans hv4;have hB5 : Below ga w w5:=hB4.trans (hb5.mono (by have:=hB4.size;have:=Hga.out;omega));have hLl : L.length ≤ 30:=by have e:=congrArg List.length hLF;rw [List.length_map] at e;omega
  have hc5 : w5.cell? ⟨gv,0,none⟩ = some (.int .i64 4):=by rw [cell_of_row w5 gv 0 _ _ _ hv5];simp [go_sem]
  have hlc:=hl w5 A5 cap5 L _ hacts hLl hLF;have hgvl : gv < w5.heap.size:=(Array.getElem?_eq_some_iff.1 hv5).1;have hgal : ga < w5.heap.size:=(Array.getElem?_eq_some_iff.1 hg5).1;clear ca' hacts hLF hb5 hg4 hv4 hB4 hc0 hl;have hf : ∀ w',Below w5.heap.size w5 w' → w'.frozen? ⟨gv,2,none⟩ = false:=fun w' hb=>by
    have:=(hb.block gv hgvl).trans hv5;simp [World.frozen?,this]
  have hcv : ∀ w',Below w5.heap.size w5 w' → w'.cell? ⟨gv,2,none⟩ = some (.slice none 0 0):=fun w' hb=>by
    rw [cell_of_row w' gv 2 _ _ _ ((hb.block gv hgvl).trans hv5)];simp [go_sem]
  (go_wp2_with fail);refine hlc.mono ?_;rintro e w6 ⟨A2,n2,cap2,rfl,hown,hb6⟩;have hf6:=hf w6 hb6;have hcv6:=hcv w6 hb6;have hset : (valVC ⟨4,0,.slice none 0 0⟩).setIfInBounds 2 (.slice A2 n2 cap2) = valVC ⟨4,0,.slice A2 n2 cap2⟩:=by apply Array.ext';simp [valVC]
  have hv6:=(hb6.block gv hgvl).trans hv5;have hv4 : (w6.setCell ⟨gv,2,none⟩ (.slice A2 n2 cap2)).heap[gv]? = some (.cells (valVC ⟨4,0,.slice A2 n2 cap2⟩) 25 (0,0)):=by rw [heap_setCell_same hv6,hset]
  have hks:=Keep.setCell w6 ⟨gv,2,none⟩ (.slice A2 n2 cap2);have hz6:=hb6.size;have hg6:=(hb6.block ga hgal).trans hg5;have hg4 : (w6.setCell ⟨gv,2,none⟩ (.slice A2 n2 cap2)).heap[ga]? = some (.cells (valVC valV0) 25 (0,0)):=(hks.block ga (by omega) (by simp;omega)).trans hg6;have hB6 : Below ga w w6:=hB5.trans (hb6.mono (by omega));have hB4 : Below ga w (w6.setCell ⟨gv,2,none⟩ (.slice A2 n2 cap2)):=hB6.trans (hks.below (by omega) (by simp;omega));have hown4:=hown.kept hks (fun x hx=>by have:=(hown.at_base hx).1;simp;omega);clear hset hks hlc hf hcv hv5 hB5 hc5 hg5 hg6 hB6 hb6;go_upto_region 17 with fail
  obtain ⟨W4,hW4⟩ : ∃ W4,W4 = w6.setCell ⟨gv,2,none⟩ (.slice A2 n2 cap2):=⟨_,rfl⟩
  rw [← hW4] at hv4 hg4 hB4 hown4 ⊢;clear hW4 hf6 hcv6 hv6 hown;have hrow : rowAt W4 gv 0 3 = some (valVC ⟨4,0,.slice A2 n2 cap2⟩):=by unfold rowAt;rw [hv4];simp [go_sem]
  have hsto:=run_stS_at (P:=Tryz.prog) infoValV W4 ga (valVC valV0) (valVC ⟨4,0,.slice A2 n2 cap2⟩) _ hg4 (by simp) (by simp) (valVC_one _ rfl);have hkf : Keep [ga] W4 (W4.setRow ga (valVC ⟨4,0,.slice A2 n2 cap2⟩)):=⟨rfl,rfl,rfl,by simp [World.setRow],fun x _ hx=>setRow_other W4 ga x _ (by simpa using hx)⟩
  have Hfin:=Lib.hid (setRow_heap W4 ga _ (valVC ⟨4,0,.slice A2 n2 cap2⟩) _ _ hg4);have HBf:=Lib.hid (hB4.trans (hkf.below (by have:=hB4.size;have:=Hga.out;omega) (by simp)));have HO:=Lib.hid (hown4.kept hkf (fun x hx=>by have:=(hown4.at_base hx).1;simp;omega)).slr;clear hkf hg4 hB4 hv4 hown4;(go_wp2_with fail);refine bodyPost_ret (results_cell_tmp Tryz.results13 _ _ ga 25 (valVC ⟨4,0,.slice A2 n2 cap2⟩) (0,0) _ rfl Hfin.out Tryz.underlying25 rfl (by rw [valVC_size];exact infoValV)) rfl ?_;exact ⟨A2,n2,cap2,rfl,HO.out,by rw [Hga.out];exact HBf.out⟩
set_option maxRecDepth 100000 in
set_option maxHeartbeats 4000000 in
theorem dval_5 (t : ByteArray) (A : Option Addr) (n cap : Nat) (R : List MarkV) (w : World) (Ps : List Pair) (hm : MarksIn w A n R) (hn : n ≤ 1000) (ho : (onceM R).length ≤ 30) (hs : ∀ m ∈ R,m.body.size ≤ 600) (hp : PartsVar w) (ht : t.size ≤ 9223372036854775807) (hk : kindB t = 5) (hFl : (fitM t R).length ≤ 30)
    (hl : ∀ (w' : World) (A' : Option Addr) (cap' : Nat) (L : List ActM) (B : Nat),ActsAt w' B A' L.length cap' L → L.length ≤ 30 → L.map ActM.m = fitM t R → Calls Tryz.prog 49 #[.slice A' L.length cap'] w' fun e w''=>∃ A2 n2 cap2,e = .returned (.slice A2 n2 cap2) ∧ Own w'' w'.heap.size 98 2 A2 n2 cap2 (Ps.map pairC) ∧ Below w'.heap.size w' w'') :
    Calls Tryz.prog 13 #[.string t,.slice A n cap] w fun e w'=>∃ A2 n2 cap2,e = .returned (.tuple #[.agg (valVC ⟨5,0,.slice A2 n2 cap2⟩),.int .i64 0]) ∧ PairsIn w' A2 n2 Ps ∧ Below w.heap.size w w':=by
  have hB : Below w.heap.size w (w.alloc (.cells (valVC valV0) 25)):=(Below.refl _ _).alloc (Nat.le_refl _) _;have hg1 : (w.alloc (.cells (valVC valV0) 25)).heap[w.heap.size]? = some (.cells (valVC valV0) 25 (0,0)):=heap_alloc_new w _;have c1:=fun w=>check_any t w ht;have c2:=fun w=>kind_any t w ht;have ca:=fun w' (hb : Below w.heap.size w w')=>acts_any t A n cap R w' (SlR.below hm hb) hn ho hs (hp.below hb);have hcz : checkB t = 0:=by unfold checkB;rw [if_neg (by omega)]
  rw [hcz] at c1;rw [hk] at c2;simp only [hk] at ca;obtain ⟨F,hF⟩ : ∃ F,fitM t R = F:=⟨_,rfl⟩
  simp only [hF] at ca;rw [hF] at hFl hl;clear hcz hm hs hp hF hk;go_enter Tryz.func13,Tryz.ntmps13
  go_upto_region 1 with fail
  obtain ⟨ga,hga⟩ : ∃ ga,w.heap.size = ga:=⟨_,rfl⟩
  have Hga:=Lib.hid hga;rw [hga] at hg1 hB ⊢;simp only [hga] at ca;obtain ⟨W,hW⟩ : ∃ W,W = w.alloc (.cells (valVC valV0) 25):=⟨_,rfl⟩
  rw [← hW] at hg1 hB ⊢;clear hW hga;(go_wp2_with fail);refine (c1 _).mono ?_;rintro e w1 ⟨rfl,hb1⟩;have hg2:=(hb1.block ga (Array.getElem?_eq_some_iff.1 hg1).1).trans hg1;have hB2 : Below ga w w1:=hB.trans (hb1.mono (by have:=hB.size;have:=Hga.out;omega));clear hg1 hB hb1 c1;(go_wp2_with fail);refine (c2 _).mono ?_;rintro e w2 ⟨rfl,hb2⟩;have hg3:=(hb2.block ga (Array.getElem?_eq_some_iff.1 hg2).1).trans hg2;have hB3 : Below ga w w2:=hB2.trans (hb2.mono (by have:=hB2.size;have:=Hga.out;omega));have hs2 : ga < w2.heap.size:=(Array.getElem?_eq_some_iff.1 hg3).1;clear hg2 hB2 hb2 c2;have hb3 : Below w2.heap.size w2 (w2.alloc (.cells (valVC ⟨5,0,.slice none 0 0⟩) 25)):=(Below.refl _ _).alloc (Nat.le_refl _) _;have hg4:=(hb3.block ga hs2).trans hg3;have hB4 : Below ga w (w2.alloc (.cells (valVC ⟨5,0,.slice none 0 0⟩) 25)):=hB3.trans (hb3.mono (by omega));have hv4 : (w2.alloc (.cells (valVC ⟨5,0,.slice none 0 0⟩) 25)).heap[w2.heap.size]? = some (.cells (valVC ⟨5,0,.slice none 0 0⟩) 25 (0,0)):=heap_alloc_new w2 _;obtain ⟨gv,hgv⟩ : ∃ gv,w2.heap.size = gv:=⟨_,rfl⟩
  clear hg3 hB3 hb3;go_upto_region 5 with fail
  rw [hgv] at hv4 hs2;obtain ⟨W3,hW3⟩ : ∃ W3,W3 = (w2.alloc (.cells (valVC ⟨5,0,.slice none 0 0⟩) 25)):=⟨_,rfl⟩
  rw [← hW3] at hg4 hB4 hv4 ⊢;clear hW3 hgv;have hc0 : W3.cell? ⟨gv,0,none⟩ = some (.int .i64 5):=by rw [cell_of_row W3 gv 0 _ _ _ hv4];simp [go_sem]
  have ca':=ca W3 hB4;clear ca;(go_wp2_with fail);refine ca'.mono ?_;rintro e w5 ⟨A5,cap5,L,rfl,hacts,hLF,hb5⟩;have hg5:=(hb5.block ga (Array.getElem?_eq_some_iff.1 hg4).1).trans hg4;have hv5:=(hb5.block gv (Array.getElem?_eq_some_iff.1 hv4).1).trans hv4;have hB5 : Below ga w w5:=hB4.trans (hb5.mono (by have:=hB4.size;have:=Hga.out;omega));have hLl : L.length ≤ 30:=by have e:=congrArg List.length hLF;rw [List.length_map] at e;omega
  have hc5 : w5.cell? ⟨gv,0,none⟩ = some (.int .i64 5):=by rw [cell_of_row w5 gv 0 _ _ _ hv5];simp [go_sem]
  have hlc:=hl w5 A5 cap5 L _ hacts hLl hLF;have hgvl : gv < w5.heap.size:=(Array.getElem?_eq_some_iff.1 hv5).1;have hgal : ga < w5.heap.size:=(Array.getElem?_eq_some_iff.1 hg5).1;clear ca' hacts hLF hb5 hg4 hv4 hB4 hc0 hl;have hf : ∀ w',Below w5.heap.size w5 w' → w'.frozen? ⟨gv,2,none⟩ = false:=fun w' hb=>by
    have:=(hb.block gv hgvl).trans hv5;simp [World.frozen?,this]
  have hcv : ∀ w',Below w5.heap.size w5 w' → w'.cell? ⟨gv,2,none⟩ = some (.slice none 0 0):=fun w' hb=>by
    rw [cell_of_row w' gv 2 _ _ _ ((hb.block gv hgvl).trans hv5)];simp [go_sem]
  (go_wp2_with fail);refine hlc.mono ?_;rintro e w6 ⟨A2,n2,cap2,rfl,hown,hb6⟩;have hf6:=hf w6 hb6;have hcv6:=hcv w6 hb6;have hset : (valVC ⟨5,0,.slice none 0 0⟩).setIfInBounds 2 (.slice A2 n2 cap2) = valVC ⟨5,0,.slice A2 n2 cap2⟩:=by apply Array.ext';simp [valVC]
  have hv6:=(hb6.block gv hgvl).trans hv5;have hv4 : (w6.setCell ⟨gv,2,none⟩ (.slice A2 n2 cap2)).heap[gv]? = some (.cells (valVC ⟨5,0,.slice A2 n2 cap2⟩) 25 (0,0)):=by rw [heap_setCell_same hv6,hset]
  have hks:=Keep.setCell w6 ⟨gv,2,none⟩ (.slice A2 n2 cap2);have hz6:=hb6.size;have hg6:=(hb6.block ga hgal).trans hg5;have hg4 : (w6.setCell ⟨gv,2,none⟩ (.slice A2 n2 cap2)).heap[ga]? = some (.cells (valVC valV0) 25 (0,0)):=(hks.block ga (by omega) (by simp;omega)).trans hg6;have hB6 : Below ga w w6:=hB5.trans (hb6.mono (by omega));have hB4 : Below ga w (w6.setCell ⟨gv,2,none⟩ (.slice A2 n2 cap2)):=hB6.trans (hks.below (by omega) (by simp;omega));have hown4:=hown.kept hks (fun x hx=>by have:=(hown.at_base hx).1;simp;omega);clear hset hks hlc hf hcv hv5 hB5 hc5 hg5 hg6 hB6 hb6;go_upto_region 17 with fail
  obtain ⟨W4,hW4⟩ : ∃ W4,W4 = w6.setCell ⟨gv,2,none⟩ (.slice A2 n2 cap2):=⟨_,rfl⟩
  rw [← hW4] at hv4 hg4 hB4 hown4 ⊢;clear hW4 hf6 hcv6 hv6 hown;have hrow : rowAt W4 gv 0 3 = some (valVC ⟨5,0,.slice A2 n2 cap2⟩):=by unfold rowAt;rw [hv4];simp [go_sem]
  have hsto:=run_stS_at (P:=Tryz.prog) infoValV W4 ga (valVC valV0) (valVC ⟨5,0,.slice A2 n2 cap2⟩) _ hg4 (by simp) (by simp) (valVC_one _ rfl);have hkf : Keep [ga] W4 (W4.setRow ga (valVC ⟨5,0,.slice A2 n2 cap2⟩)):=⟨rfl,rfl,rfl,by simp [World.setRow],fun x _ hx=>setRow_other W4 ga x _ (by simpa using hx)⟩
  have Hfin:=Lib.hid (setRow_heap W4 ga _ (valVC ⟨5,0,.slice A2 n2 cap2⟩) _ _ hg4);have HBf:=Lib.hid (hB4.trans (hkf.below (by have:=hB4.size;have:=Hga.out;omega) (by simp)));have HO:=Lib.hid (hown4.kept hkf (fun x hx=>by have:=(hown4.at_base hx).1;simp;omega)).slr;clear hkf hg4 hB4 hv4 hown4;(go_wp2_with fail);refine bodyPost_ret (results_cell_tmp Tryz.results13 _ _ ga 25 (valVC ⟨5,0,.slice A2 n2 cap2⟩) (0,0) _ rfl Hfin.out Tryz.underlying25 rfl (by rw [valVC_size];exact infoValV)) rfl ?_;exact ⟨A2,n2,cap2,rfl,HO.out,by rw [Hga.out];exact HBf.out⟩
set_option maxRecDepth 100000 in
set_option maxHeartbeats 4000000 in
theorem dval_1 (t : ByteArray) (A : Option Addr) (n cap : Nat) (R : List MarkV) (w : World) (N : Int) (hm : MarksIn w A n R) (hn : n ≤ 1000) (ho : (onceM R).length ≤ 30) (hs : ∀ m ∈ R,m.body.size ≤ 600) (hp : PartsVar w) (ht : t.size ≤ 9223372036854775807) (hk : kindB t = 1) (hFl : (fitM t R).length ≤ 30)
    (hl : ∀ (w' : World) (A' : Option Addr) (cap' : Nat) (L : List ActM) (B : Nat),ActsAt w' B A' L.length cap' L → L.length ≤ 30 → L.map ActM.m = fitM t R → Calls Tryz.prog 45 #[.slice A' L.length cap'] w' fun e w''=>e = .returned (.int .i64 N) ∧ Below w'.heap.size w' w'') :
    Calls Tryz.prog 13 #[.string t,.slice A n cap] w fun e w'=>e = .returned (.tuple #[.agg (valVC ⟨1,N,.slice none 0 0⟩),.int .i64 0]) ∧ Below w.heap.size w w':=by
  have hB : Below w.heap.size w (w.alloc (.cells (valVC valV0) 25)):=(Below.refl _ _).alloc (Nat.le_refl _) _;have hg1 : (w.alloc (.cells (valVC valV0) 25)).heap[w.heap.size]? = some (.cells (valVC valV0) 25 (0,0)):=heap_alloc_new w _;have c1:=fun w=>check_any t w ht;have c2:=fun w=>kind_any t w ht;have ca:=fun w' (hb : Below w.heap.size w w')=>acts_any t A n cap R w' (SlR.below hm hb) hn ho hs (hp.below hb);have hcz : checkB t = 0:=by unfold checkB;rw [if_neg (by omega)]
  rw [hcz] at c1;rw [hk] at c2;simp only [hk] at ca;obtain ⟨F,hF⟩ : ∃ F,fitM t R = F:=⟨_,rfl⟩
  simp only [hF] at ca;rw [hF] at hFl hl;clear hcz hm hs hp hF hk;go_enter Tryz.func13,Tryz.ntmps13
  go_upto_region 1 with fail
  obtain ⟨ga,hga⟩ : ∃ ga,w.heap.size = ga:=⟨_,rfl⟩
  have Hga:=Lib.hid hga;rw [hga] at hg1 hB ⊢;simp only [hga] at ca;obtain ⟨W,hW⟩ : ∃ W,W = w.alloc (.cells (valVC valV0) 25):=⟨_,rfl⟩
  rw [← hW] at hg1 hB ⊢;clear hW hga;(go_wp2_with fail);refine (c1 _).mono ?_;rintro e w1 ⟨rfl,hb1⟩;have hg2:=(hb1.block ga (Array.getElem?_eq_some_iff.1 hg1).1).trans hg1;have hB2 : Below ga w w1:=hB.trans (hb1.mono (by have:=hB.size;have:=Hga.out;omega));clear hg1 hB hb1 c1;(go_wp2_with fail);refine (c2 _).mono ?_;rintro e w2 ⟨rfl,hb2⟩;have hg3:=(hb2.block ga (Array.getElem?_eq_some_iff.1 hg2).1).trans hg2;have hB3 : Below ga w w2:=hB2.trans (hb2.mono (by have:=hB2.size;have:=Hga.out;omega));have hs2 : ga < w2.heap.size:=(Array.getElem?_eq_some_iff.1 hg3).1;clear hg2 hB2 hb2 c2;have hb3 : Below w2.heap.size w2 (w2.alloc (.cells (valVC ⟨1,0,.slice none 0 0⟩) 25)):=(Below.refl _ _).alloc (Nat.le_refl _) _;have hg4:=(hb3.block ga hs2).trans hg3;have hB4 : Below ga w (w2.alloc (.cells (valVC ⟨1,0,.slice none 0 0⟩) 25)):=hB3.trans (hb3.mono (by omega));have hv4 : (w2.alloc (.cells (valVC ⟨1,0,.slice none 0 0⟩) 25)).heap[w2.heap.size]? = some (.cells (valVC ⟨1,0,.slice none 0 0⟩) 25 (0,0)):=heap_alloc_new w2 _;obtain ⟨gv,hgv⟩ : ∃ gv,w2.heap.size = gv:=⟨_,rfl⟩
  clear hg3 hB3 hb3;go_upto_region 5 with fail
  rw [hgv] at hv4 hs2;obtain ⟨W3,hW3⟩ : ∃ W3,W3 = (w2.alloc (.cells (valVC ⟨1,0,.slice none 0 0⟩) 25)):=⟨_,rfl⟩
  rw [← hW3] at hg4 hB4 hv4 ⊢;clear hW3 hgv;have hc0 : W3.cell? ⟨gv,0,none⟩ = some (.int .i64 1):=by rw [cell_of_row W3 gv 0 _ _ _ hv4];simp [go_sem]
  have ca':=ca W3 hB4;clear ca;(go_wp2_with fail);refine ca'.mono ?_;rintro e w5 ⟨A5,cap5,L,rfl,hacts,hLF,hb5⟩;have hg5:=(hb5.block ga (Array.getElem?_eq_some_iff.1 hg4).1).trans hg4;have hv5:=(hb5.block gv (Array.getElem?_eq_some_iff.1 hv4).1).trans hv4;have hB5 : Below ga w w5:=hB4.trans (hb5.mono (by have:=hB4.size;have:=Hga.out;omega));have hLl : L.length ≤ 30:=by have e:=congrArg List.length hLF;rw [List.length_map] at e;omega
  have hc5 : w5.cell? ⟨gv,0,none⟩ = some (.int .i64 1):=by rw [cell_of_row w5 gv 0 _ _ _ hv5];simp [go_sem]
  have hlc:=hl w5 A5 cap5 L _ hacts hLl hLF;have hgvl : gv < w5.heap.size:=(Array.getElem?_eq_some_iff.1 hv5).1;have hgal : ga < w5.heap.size:=(Array.getElem?_eq_some_iff.1 hg5).1;clear ca' hacts hLF hb5 hg4 hv4 hB4 hc0 hl;have hf : ∀ w',Below w5.heap.size w5 w' → w'.frozen? ⟨gv,1,none⟩ = false:=fun w' hb=>by
    have:=(hb.block gv hgvl).trans hv5;simp [World.frozen?,this]
  have hcv : ∀ w',Below w5.heap.size w5 w' → w'.cell? ⟨gv,1,none⟩ = some (.int .i64 0):=fun w' hb=>by
    rw [cell_of_row w' gv 1 _ _ _ ((hb.block gv hgvl).trans hv5)];simp [go_sem]
  (go_wp2_with fail);refine hlc.mono ?_;rintro e w6 ⟨rfl,hb6⟩;have hf6:=hf w6 hb6;have hcv6:=hcv w6 hb6;have hset : (valVC ⟨1,0,.slice none 0 0⟩).setIfInBounds 1 (.int .i64 N) = valVC ⟨1,N,.slice none 0 0⟩:=by apply Array.ext';simp [valVC]
  have hv6:=(hb6.block gv hgvl).trans hv5;have hv4 : (w6.setCell ⟨gv,1,none⟩ (.int .i64 N)).heap[gv]? = some (.cells (valVC ⟨1,N,.slice none 0 0⟩) 25 (0,0)):=by rw [heap_setCell_same hv6,hset]
  have hks:=Keep.setCell w6 ⟨gv,1,none⟩ (.int .i64 N);have hz6:=hb6.size;have hg6:=(hb6.block ga hgal).trans hg5;have hg4 : (w6.setCell ⟨gv,1,none⟩ (.int .i64 N)).heap[ga]? = some (.cells (valVC valV0) 25 (0,0)):=(hks.block ga (by omega) (by simp;omega)).trans hg6;have hB6 : Below ga w w6:=hB5.trans (hb6.mono (by omega));have hB4 : Below ga w (w6.setCell ⟨gv,1,none⟩ (.int .i64 N)):=hB6.trans (hks.below (by omega) (by simp;omega));clear hset hks hlc hf hcv hv5 hB5 hc5 hg5 hg6 hB6 hb6;go_upto_region 17 with fail
  obtain ⟨W4,hW4⟩ : ∃ W4,W4 = w6.setCell ⟨gv,1,none⟩ (.int .i64 N):=⟨_,rfl⟩
  rw [← hW4] at hv4 hg4 hB4 ⊢;clear hW4 hf6 hcv6 hv6;have hrow : rowAt W4 gv 0 3 = some (valVC ⟨1,N,.slice none 0 0⟩):=by unfold rowAt;rw [hv4];simp [go_sem]
  have hsto:=run_stS_at (P:=Tryz.prog) infoValV W4 ga (valVC valV0) (valVC ⟨1,N,.slice none 0 0⟩) _ hg4 (by simp) (by simp) (valVC_one _ rfl);have hkf : Keep [ga] W4 (W4.setRow ga (valVC ⟨1,N,.slice none 0 0⟩)):=⟨rfl,rfl,rfl,by simp [World.setRow],fun x _ hx=>setRow_other W4 ga x _ (by simpa using hx)⟩
  have Hfin:=Lib.hid (setRow_heap W4 ga _ (valVC ⟨1,N,.slice none 0 0⟩) _ _ hg4);have HBf:=Lib.hid (hB4.trans (hkf.below (by have:=hB4.size;have:=Hga.out;omega) (by simp)));clear hkf hg4 hB4 hv4;(go_wp2_with fail);refine bodyPost_ret (results_cell_tmp Tryz.results13 _ _ ga 25 (valVC ⟨1,N,.slice none 0 0⟩) (0,0) _ rfl Hfin.out Tryz.underlying25 rfl (by rw [valVC_size];exact infoValV)) rfl ?_;exact ⟨rfl,by rw [Hga.out];exact HBf.out⟩
set_option maxRecDepth 100000 in
theorem dval_0 (t : ByteArray) (A : Option Addr) (n cap : Nat) (w : World) (ht : t.size ≤ 9223372036854775807) (hk : kindB t = 0) :
    Calls Tryz.prog 13 #[.string t,.slice A n cap] w fun e w'=>e = .returned (.tuple #[.agg (valVC valV0),.int .i64 (checkB t)]) ∧ Below w.heap.size w w':=by
  have hB : Below w.heap.size w (w.alloc (.cells (valVC valV0) 25)):=(Below.refl _ _).alloc (Nat.le_refl _) _;have hg1 : (w.alloc (.cells (valVC valV0) 25)).heap[w.heap.size]? = some (.cells (valVC valV0) 25 (0,0)):=heap_alloc_new w _;have c1:=fun w=>check_any t w ht;have hcn : checkB t ≠ 0:=by unfold checkB;rw [if_pos hk];decide
  obtain ⟨E,hE⟩ : ∃ E,checkB t = E:=⟨_,rfl⟩
  rw [hE] at hcn c1 ⊢;have hcb : (E != 0) = true:=by simpa using hcn
  clear hcn hE hk;go_enter Tryz.func13,Tryz.ntmps13
  go_upto_region 1 with fail
  obtain ⟨ga,hga⟩ : ∃ ga,w.heap.size = ga:=⟨_,rfl⟩
  have Hga:=Lib.hid hga;rw [hga] at hg1 hB ⊢;obtain ⟨W,hW⟩ : ∃ W,W = w.alloc (.cells (valVC valV0) 25):=⟨_,rfl⟩
  rw [← hW] at hg1 hB ⊢;clear hW hga;(go_wp2_with fail);refine (c1 _).mono ?_;rintro e W4 ⟨rfl,hb1⟩;have hg4:=(hb1.block ga (Array.getElem?_eq_some_iff.1 hg1).1).trans hg1;have hB4 : Below ga w W4:=hB.trans (hb1.mono (by have:=hB.size;have:=Hga.out;omega));clear hg1 hB hb1 c1;have hsto:=run_stS_at (P:=Tryz.prog) infoValV W4 ga (valVC valV0) (valVC valV0) _ hg4 (by simp) (by simp) (valVC_one _ rfl);have hkf : Keep [ga] W4 (W4.setRow ga (valVC valV0)):=⟨rfl,rfl,rfl,by simp [World.setRow],fun x _ hx=>setRow_other W4 ga x _ (by simpa using hx)⟩
  have Hfin:=Lib.hid (setRow_heap W4 ga _ (valVC valV0) _ _ hg4);have HBf:=Lib.hid (hB4.trans (hkf.below (by have:=hB4.size;have:=Hga.out;omega) (by simp)));clear hkf hg4 hB4;(go_wp2_with fail);refine bodyPost_ret (results_cell_tmp Tryz.results13 _ _ ga 25 (valVC valV0) (0,0) _ rfl Hfin.out Tryz.underlying25 rfl (by rw [valVC_size];exact infoValV)) rfl ?_;exact ⟨rfl,by rw [Hga.out];exact HBf.out⟩
end
section
open Go.RowKit Stb
theorem stF_len (k : Int) (F : List MarkV) : (stF k F).len ≤ F.length:=by
  have : ∀ (F : List MarkV) (s : VSt),(F.foldl (fun s m=>doS m (oOf m) s) s).len ≤ s.len + F.length:=by
    intro F;induction F with
    | nil=>intro s;exact Nat.le_refl _
    | cons m F ih=>intro s;rw [List.foldl_cons];refine Nat.le_trans (ih _) ?_;have:=doS_len m (oOf m) s;rw [List.length_cons];omega
  have h0 : (VSt.new k).len = 0:=by unfold VSt.new;repeat' split
                                    all_goals rfl
  have:=this F (VSt.new k);unfold stF;omega
theorem means_plen {F : List MarkV} {s : VSt} (h1 : OneM F) (h : Means F s) : s.pairs.length ≤ s.len:=by
  cases s with
  | t n=>exact Nat.le_refl _
  | b L G=>show ((listB L).map pairV).length ≤ L.length;rw [List.length_map];exact listB_len L
  | l L=>show (L.map pairOf).length ≤ L.length;rw [List.length_map];exact Nat.le_refl _
  | m X O=>exact listM_len X
  | s N G=>exact listS_len (means_forest h1 h)
theorem fit_k {t : ByteArray} {m : MarkV} (h : fits t m) : belongs (oOf m).k = kindB t ∧ 1 ≤ (oOf m).k ∧ (oOf m).k ≤ 7:=⟨h.2,(opO_ok _ h.1).2.1,(opO_ok _ h.1).2.2.1⟩
theorem fit_kind {t : ByteArray} {m : MarkV} (h : fits t m) : (kindB t = 2 → (oOf m).k = 2 ∨ (oOf m).k = 3) ∧ (kindB t = 3 → (oOf m).k = 4) ∧ (kindB t = 5 → (oOf m).k = 6 ∨ (oOf m).k = 7):=by
  obtain ⟨h1,h2,h3⟩:=fit_k h;rw [belongs_k h2 h3] at h1;refine ⟨fun e=>?_,fun e=>?_,fun e=>?_⟩
  all_goals
    rw [e] at h1
    repeat' split at h1
    all_goals first | omega | (exact absurd h1 (by decide))
theorem fitM_len (t : ByteArray) (R : List MarkV) : (fitM t R).length ≤ (onceM R).length:=by
  unfold fitM;refine Nat.le_trans (List.length_filter_le _ _) ?_;rw [srtM_len];exact Nat.le_refl _
theorem fit_act {t : ByteArray} {R : List MarkV} {L : List ActM} (hLF : L.map ActM.m = fitM t R) {a : ActM} (ha : a ∈ L) : fits t a.m:=fitM_fit (by rw [← hLF];exact List.mem_map.2 ⟨a,ha,rfl⟩)
theorem fit_ok {t : ByteArray} {m : MarkV} (h : fits t m) : (oOf m).key.size ≤ 16 ∧ (oOf m).val.size ≤ 16 ∧ (oOf m).refs.length ≤ 8 ∧ -2147483648 ≤ (oOf m).n ∧ (oOf m).n < 2147483648:=by
  have h2:=opO_ok _ h.1;exact ⟨h2.2.2.2.1,h2.2.2.2.2.1,h2.2.2.2.2.2.1,opO_lo _ h.1,h2.2.2.2.2.2.2.2⟩
theorem denS_kind (t : ByteArray) (R : List MarkV) (hk : kindB t ≠ 0) : (denS t R).kind = kindB t:=by
  have:=kindB_range t;exact stF_kind (by omega) (by omega) _
theorem denS_plen (t : ByteArray) (R : List MarkV) : (denS t R).pairs.length ≤ (onceM R).length:=by
  have h1:=means_plen (fitM_one t R) (means_den t R);have h2 : (denS t R).len ≤ _:=stF_len (kindB t) (fitM t R);have h3:=fitM_len t R;omega
theorem dvalue (t : ByteArray) (A : Option Addr) (n cap : Nat) (R : List MarkV) (w : World) (hm : MarksIn w A n R) (hn : n ≤ 1000) (ho : (onceM R).length ≤ 30) (hs : ∀ m ∈ R,m.body.size ≤ 600) (hp : PartsVar w) (ht : t.size ≤ 9223372036854775807) (hk : kindB t ≠ 0) :
    Calls Tryz.prog 13 #[.string t,.slice A n cap] w fun e w'=>∃ A2 n2 cap2,e = .returned (.tuple #[.agg (valVC ⟨kindB t,(denS t R).num,.slice A2 n2 cap2⟩),.int .i64 0]) ∧ (PairsIn w' A2 n2 (denS t R).pairs ∧ n2 ≤ 1000000) ∧ Below w.heap.size w w':=by
  have hRl : R.length = n:=hm.len;have hFl : (fitM t R).length ≤ 30:=by have:=fitM_len t R;omega
  have hmean:=means_den t R;have hone:=fitM_one t R;have hkind:=denS_kind t R hk;have hpl:=denS_plen t R;have hfin : ∀ (K : Int),kindB t = K → (denS t R).num = 0 → ∀ Ps,Ps = (denS t R).pairs → (Calls Tryz.prog 13 #[.string t,.slice A n cap] w fun e w'=>∃ A2 n2 cap2,e = .returned (.tuple #[.agg (valVC ⟨K,0,.slice A2 n2 cap2⟩),.int .i64 0]) ∧ PairsIn w' A2 n2 Ps ∧ Below w.heap.size w w') →
      Calls Tryz.prog 13 #[.string t,.slice A n cap] w fun e w'=>∃ A2 n2 cap2,e = .returned (.tuple #[.agg (valVC ⟨kindB t,(denS t R).num,.slice A2 n2 cap2⟩),.int .i64 0]) ∧ (PairsIn w' A2 n2 (denS t R).pairs ∧ n2 ≤ 1000000) ∧ Below w.heap.size w w':=by
    intro K hK hnum Ps hPs c;refine c.mono ?_;rintro e w' ⟨A2,n2,cap2,rfl,hp2,hb⟩;rw [hPs] at hp2;have hl : (denS t R).pairs.length = n2:=by simpa using hp2.1
    exact ⟨A2,n2,cap2,by rw [hK,hnum],⟨hp2,by omega⟩,hb⟩
  rcases kindB_range t with e | e | e | e | e | e
  · exact absurd e hk
  · have hd : denS t R = .t (sumD (fitM t R)):=by unfold denS;rw [e];exact sumD_ok _
    rw [hd];refine (dval_1 t A n cap R w (sumD (fitM t R)) hm hn ho hs hp ht e hFl (fun w' A' cap' L B ha hL hLF=>?_)).mono ?_
    · rw [← hLF];exact total_any A' L.length cap' L B w' ha hL (fun a h=>⟨(fit_ok (fit_act hLF h)).2.2.2.1,(fit_ok (fit_act hLF h)).2.2.2.2⟩)
    · rintro e1 w' ⟨rfl,hb⟩;exact ⟨none,0,0,by rw [e];rfl,⟨SlR.nil_,by omega⟩,hb⟩
  · cases hd : denS t R with
    | b Lb G =>
      rw [hd] at hmean;have hps:=bagD_ok hmean (fun m hm=>(fit_kind (fitM_fit hm)).1 e);rw [← hd];refine hfin 2 e (by rw [hd];rfl) (sortC cmpPair (bagD (fitM t R))) (by rw [hd];exact hps) (dval_2 t A n cap R w _ hm hn ho hs hp ht e hFl (fun w' A' cap' L B ha hL hLF=>?_));rw [← hLF];refine (dbag A' L.length cap' L B w' ha hL (fun a h=>by have:=(fit_ok (fit_act hLF h)).2.2.1;omega)).mono ?_;rintro e1 w2 ⟨A2,c2,rfl,ho,hb⟩;exact ⟨A2,_,c2,rfl,ho,hb⟩
    | _=>rw [hd,e] at hkind;simp [VSt.kind] at hkind
  · cases hd : denS t R with
    | l Ll =>
      rw [hd] at hmean;rw [← hd];refine hfin 3 e (by rw [hd];rfl) _ (show Ll.map pairOf = _ by rw [hd];rfl) (dval_3 t A n cap R w _ hm hn ho hs hp ht e hFl (fun w' A' cap' L B ha hL hLF=>?_));refine (dlast A' L.length cap' L B w' ha hL (fun a h=>(fit_ok (fit_act hLF h)).1) (Ll.map pairOf) (fun M hM=>?_)).mono ?_
      · rw [hLF] at hM;exact lastD_ok hmean hone hM (fun m hm=>fit_check (fitM_fit hm).1 ((fit_kind (fitM_fit hm)).2.1 e))
      · rintro e1 w2 ⟨A2,c2,rfl,ho,hb⟩;exact ⟨A2,_,c2,rfl,ho,hb⟩
    | _=>rw [hd,e] at hkind;simp [VSt.kind] at hkind
  · cases hd : denS t R with
    | m X O =>
      rw [hd] at hmean;have hps:=multiD_ok hmean;rw [← hd];refine hfin 4 e (by rw [hd];rfl) (sortC cmpPair (multiD (fitM t R))) (by rw [hd];exact hps) (dval_4 t A n cap R w _ hm hn ho hs hp ht e hFl (fun w' A' cap' L B ha hL hLF=>?_));rw [← hLF];refine (dmulti A' L.length cap' L B w' ha hL (fun a h=>(fit_ok (fit_act hLF h)).2.2.1)).mono ?_;rintro e1 w2 ⟨A2,c2,rfl,ho,hb⟩;exact ⟨A2,_,c2,rfl,ho,hb⟩
    | _=>rw [hd,e] at hkind;simp [VSt.kind] at hkind
  · cases hd : denS t R with
    | s N G =>
      rw [hd] at hmean;have hps:=listD_ok hmean hone (fun m hm=>(fit_kind (fitM_fit hm)).2.2 e);rw [← hd];refine hfin 5 e (by rw [hd];rfl) (pS (orderN (nodD (fitM t R))) (goneD (fitM t R))) (by rw [hd];exact hps) (dval_5 t A n cap R w _ hm hn ho hs hp ht e hFl (fun w' A' cap' L B ha hL hLF=>?_));rw [← hLF];exact dlist A' L.length cap' L B w' ha hL (fun a h=>(fit_ok (fit_act hLF h)).2.1) (by rw [hLF];exact fitM_ris t R) (by rw [hLF];exact hone)
    | _=>rw [hd,e] at hkind;simp [VSt.kind] at hkind
def valK (t : ByteArray) : Int:=kindB t
def valN (t : ByteArray) (R : List MarkV) : Int:=if kindB t = 0 then 0 else (denS t R).num
def valP (t : ByteArray) (R : List MarkV) : List Pair:=if kindB t = 0 then [] else (denS t R).pairs
theorem dvalue_all (t : ByteArray) (A : Option Addr) (n cap : Nat) (R : List MarkV) (w : World) (hm : MarksIn w A n R) (hn : n ≤ 1000) (ho : (onceM R).length ≤ 30) (hs : ∀ m ∈ R,m.body.size ≤ 600) (hp : PartsVar w) (ht : t.size ≤ 9223372036854775807) :
    Calls Tryz.prog 13 #[.string t,.slice A n cap] w fun e w'=>∃ A2 n2 cap2,e = .returned (.tuple #[.agg (valVC ⟨valK t,valN t R,.slice A2 n2 cap2⟩),.int .i64 (checkB t)]) ∧ (PairsIn w' A2 n2 (valP t R) ∧ n2 ≤ 1000000) ∧ Below w.heap.size w w':=by
  by_cases hk : kindB t = 0
  · have e1 : valN t R = 0:=if_pos hk;have e2 : valP t R = []:=if_pos hk;have e3 : valK t = 0:=hk;rw [e1,e2,e3];refine (dval_0 t A n cap w ht hk).mono ?_;rintro e w' ⟨rfl,hb⟩;exact ⟨none,0,0,rfl,⟨SlR.nil_,by omega⟩,hb⟩
  · have e1 : valN t R = (denS t R).num:=if_neg hk;have e2 : valP t R = (denS t R).pairs:=if_neg hk;have e3 : checkB t = 0:=by unfold checkB;rw [if_neg hk]
    rw [e1,e2,e3];exact dvalue t A n cap R w hm hn ho hs hp ht hk
end
section
open Go.RowKit
structure RNode where
  id : Id32
  h : Int
  ref : Id32
  val : ByteArray
def rNodeC (x : RNode) : Array Value:=idC x.id ++ #[.int .i64 x.h] ++ idC x.ref ++ #[.string x.val]
@[simp] theorem rNodeC_size (x : RNode) : (rNodeC x).size = 66:=by simp [rNodeC]
@[go_sem] theorem rNodeC_e0 (x : RNode) : (rNodeC x).extract 0 32 = idC x.id:=by
  have h : rNodeC x = ((#[] : Array Value)) ++ idC x.id ++ (#[.int .i64 x.h] ++ idC x.ref ++ #[.string x.val]):=by first | (simp [rNodeC,Array.append_assoc];done) | (apply Array.ext';simp [rNodeC];done)
  rw [h];exact arr_mid _ _ _ _ _ (by simp) (by simp)
@[go_sem] theorem rNodeC_g32 (x : RNode) : (rNodeC x)[32]? = some (.int .i64 x.h):=by first | (simp [rNodeC,Array.getElem?_append];done) | (rw [show rNodeC x = (idC x.id) ++ #[.int .i64 x.h] ++ (idC x.ref ++ #[.string x.val]) from by apply Array.ext';simp [rNodeC]];exact arr_at _ _ _ _ (by simp))
@[go_sem] theorem rNodeC_gg32 (x : RNode) (h : 32 < (rNodeC x).size) : (rNodeC x)[32]'h = .int .i64 x.h:=Option.some.inj ((Array.getElem?_eq_getElem h).symm.trans (rNodeC_g32 x))
@[go_sem] theorem rNodeC_e33 (x : RNode) : (rNodeC x).extract 33 65 = idC x.ref:=by
  have h : rNodeC x = (idC x.id ++ #[.int .i64 x.h]) ++ idC x.ref ++ (#[.string x.val]):=by first | (simp [rNodeC,Array.append_assoc];done) | (apply Array.ext';simp [rNodeC];done)
  rw [h];exact arr_mid _ _ _ _ _ (by simp) (by simp)
@[go_sem] theorem rNodeC_g65 (x : RNode) : (rNodeC x)[65]? = some (.string x.val):=by first | (simp [rNodeC,Array.getElem?_append];done) | (rw [show rNodeC x = (idC x.id ++ #[.int .i64 x.h] ++ idC x.ref) ++ #[.string x.val] ++ ((#[] : Array Value)) from by apply Array.ext';simp [rNodeC]];exact arr_at _ _ _ _ (by simp))
@[go_sem] theorem rNodeC_gg65 (x : RNode) (h : 65 < (rNodeC x).size) : (rNodeC x)[65]'h = .string x.val:=Option.some.inj ((Array.getElem?_eq_getElem h).symm.trans (rNodeC_g65 x))
@[go_sem] theorem rNodeC_all (x : RNode) : (rNodeC x).extract 0 66 = rNodeC x:=by have:=Array.extract_size (xs:=rNodeC x);rwa [rNodeC_size] at this
theorem rNodeC_one (x : RNode) : ∀ u ∈ (rNodeC x).toList,u.oneCell' = true:=by
  intro u hu;simp only [rNodeC,Array.toList_append,List.mem_append] at hu;rcases hu with ((hu | hu) | hu) | hu
  · exact idC_one _ u hu
  · simp at hu;subst hu;rfl
  · exact idC_one _ u hu
  · simp at hu;subst hu;rfl
def rNode0 : RNode:=⟨id0,0,id0,⟨#[]⟩⟩
theorem RNode_ext {x y : RNode} (h : x.id = y.id ∧ x.h = y.h ∧ x.ref = y.ref ∧ x.val = y.val) : x = y:=by cases x;cases y;simp_all
instance : DecidableEq RNode:=fun x y=>if h : x.id = y.id ∧ x.h = y.h ∧ x.ref = y.ref ∧ x.val = y.val then isTrue (RNode_ext h) else isFalse (fun e=>h (by subst e;simp))
theorem infoRNode : (Tryz.prog.info? 213).map (·.size) = some 66:=by kernel_rfl
@[go_sem ↓] theorem zeroRNode_run (w : World) : (zeroValue 213).run Tryz.prog w = .ok (.agg (rNodeC rNode0)) w:=by
  have h : (Tryz.prog.info? 213).bind (·.zero) = some (.agg (rNodeC rNode0)):=by kernel_rfl
  cases hi : Tryz.prog.info? 213 with
  | none=>rw [hi] at h;cases h
  | some i =>
    rw [hi] at h;have hz : i.zero = some (.agg (rNodeC rNode0)):=h;simp [zeroValue,typeInfo,hi,hz]
@[go_sem ↓] theorem loadRNode_rw (a : Addr) : loadVar 213 a = ldS 213 a:=rfl
@[go_sem ↓] theorem storeRNode_rw (a : Addr) (v : Value) : storeVar 213 a v = stS 213 a v:=rfl
@[go_sem] theorem loadRNode_run (w : World) (g o : Nat) : (ldS 213 ⟨g,o,none⟩).run Tryz.prog w = match rowAt w g o 66 with | some cs=>.ok (.agg cs) w | none=>(loadVar 213 ⟨g,o,none⟩).run Tryz.prog w :=
  run_ldS Tryz.underlying213 rfl infoRNode w g o
@[go_sem] theorem storeRNode_run (w : World) (g : Nat) (hg : g = w.heap.size) (z : Array Value) (hz : z.size = 66) (x : RNode) (e : TypeId) : (stS 213 ⟨g,0,none⟩ (.agg (rNodeC x))).run Tryz.prog (w.alloc (.cells z e)) = .ok () (w.alloc (.cells (rNodeC x) e)) :=
  hg ▸ run_stS_new infoRNode w z (rNodeC x) hz (rNodeC_size x) (rNodeC_one x)
theorem fieldsRNode : Tryz.prog.underlying 213 = some (.struct (Tryz.prog.fieldsOf 213)):=by kernel_rfl
theorem placesRNode (w : World) : ((Tryz.prog.fieldsOf 213).mapM fun (f : Field)=>do pure (f.offset,← sizeOf f.type)).run Tryz.prog w = .ok #[(0,32),(32,1),(33,32),(65,1)] w:=by kernel_rfl
@[go_sem ↓] theorem buildRNode_rw (parts : Array (Nat × Value)) : Instr.build 213 parts = bdS 213 parts:=rfl
@[go_sem] theorem buildRNode (a0 : Id32) (a1 : Int) (a2 : Id32) (a3 : ByteArray) (w : World) : (bdS 213 #[(0,.agg (idC a0)),(1,.int .i64 a1),(2,.agg (idC a2)),(3,.string a3)]).run Tryz.prog w = .ok (.agg (rNodeC ⟨a0,a1,a2,a3⟩)) w:=by
  refine run_build w fieldsRNode _ (zeroRNode_run w) _ (placesRNode w) [(0,.agg (idC a0)),(1,.int .i64 a1),(2,.agg (idC a2)),(3,.string a3)] _ ?_;rw [show rNodeC rNode0 = (#[] : Array Value) ++ idC id0 ++ (#[.int .i64 0] ++ (idC id0 ++ (#[.string ⟨#[]⟩]))) from by first | (simp [rNodeC,rNode0,Array.append_assoc];done) | (apply Array.ext';simp [rNodeC,rNode0])];rw [fill_step (off:=0) (size:=32) rfl (by simp) (by simp) (by simp [Value.cells])];rw [show (#[] : Array Value) ++ (Value.agg (idC a0)).cells ++ (#[.int .i64 0] ++ (idC id0 ++ (#[.string ⟨#[]⟩]))) = (idC a0) ++ #[.int .i64 0] ++ (idC id0 ++ (#[.string ⟨#[]⟩])) from by first | (simp [Value.cells,Array.append_assoc];done) | (apply Array.ext';simp [Value.cells];done) | (apply Array.ext';simp only [Array.toList_append];simp [Value.cells])];rw [fill_step (off:=32) (size:=1) rfl (by simp) (by simp) (by simp [Value.cells])];rw [show (idC a0) ++ (Value.int .i64 a1).cells ++ (idC id0 ++ (#[.string ⟨#[]⟩])) = (idC a0 ++ (#[.int .i64 a1])) ++ idC id0 ++ (#[.string ⟨#[]⟩]) from by first | (simp [Value.cells,Array.append_assoc];done) | (apply Array.ext';simp [Value.cells];done) | (apply Array.ext';simp only [Array.toList_append];simp [Value.cells])];rw [fill_step (off:=33) (size:=32) rfl (by simp) (by simp) (by simp [Value.cells])];rw [show (idC a0 ++ (#[.int .i64 a1])) ++ (Value.agg (idC a2)).cells ++ (#[.string ⟨#[]⟩]) = (idC a0 ++ (#[.int .i64 a1] ++ (idC a2))) ++ #[.string ⟨#[]⟩] ++ (#[] : Array Value) from by first | (simp [Value.cells,Array.append_assoc];done) | (apply Array.ext';simp [Value.cells];done) | (apply Array.ext';simp only [Array.toList_append];simp [Value.cells])];rw [fill_step (off:=65) (size:=1) rfl (by simp) (by simp) (by simp [Value.cells])];first | (simp [Instr.fill,rNodeC,Array.append_assoc,Value.cells];done) | (simp only [Instr.fill,rNodeC];congr 1;apply Array.ext';simp [Value.cells];done) | (simp only [Instr.fill,rNodeC];congr 1;done) | (simp only [Instr.fill,rNodeC];done)
def nodeR (n : NodeV) : RNode:=⟨n.id,n.h,n.ref,n.val⟩
abbrev nodeC (n : NodeV) : Array Value:=rNodeC (nodeR n)
instance : Inhabited NodeV:=⟨⟨id0,0,id0,⟨#[]⟩⟩⟩
theorem einfoRN : ElemInfo Tryz.prog 65 213 66 88 :=
  .of (z:=.agg (rNodeC rNode0)) Tryz.underlying65 (by kernel_rfl) (by kernel_rfl) (by kernel_rfl) (rNodeC_size _) (by omega)
@[go_sem ↓] theorem bsRN_rw (n : Nat) (parts : Array (Nat × Value)) : Instr.buildSlice 65 n parts = bsS 65 n parts:=rfl
@[go_sem] theorem bsRN_run (w : World) (x : RNode) : (bsS 65 1 #[(0,.agg (rNodeC x))]).run Tryz.prog w = .ok (.slice (some ⟨w.heap.size,0,none⟩) 1 1) (w.alloc (.cells (rNodeC x) 213)) :=
  run_bsS1 einfoRN (by omega) w (rNodeC x) (rNodeC_size x)
@[go_sem] theorem bsRN0_run (w : World) : (bsS 65 0 #[]).run Tryz.prog w = .ok (.slice (some ⟨w.heap.size,0,none⟩) 0 0) (w.alloc (.cells #[] 213)):=run_bsS0 einfoRN w
@[go_sem ↓] theorem slRN_rw (x : Value) (lo hi mx : Option Value) : Instr.sliceAt 65 x lo hi mx = slS 65 x lo hi mx:=rfl
theorem nodeC_one (n : NodeV) : ∀ u ∈ (nodeC n).toList,u.oneCell' = true:=rNodeC_one _
abbrev NodesIn (w : World) (A : Option Addr) (n : Nat) (R : List NodeV) : Prop:=SlR w A n 66 (R.map nodeC)
theorem NodesIn.len {w : World} {A : Option Addr} {n : Nat} {R : List NodeV} (h : NodesIn w A n R) : R.length = n:=by simpa using h.1
theorem node_cells {w : World} {g o : Nat} {x : NodeV} (hr : rowAt w g o 66 = some (nodeC x)) :
    rowAt w g o 32 = some (idC x.id) ∧ w.cell? ⟨g,o + 32,none⟩ = some (.int .i64 x.h) ∧ rowAt w g (o + 33) 32 = some (idC x.ref) ∧ w.cell? ⟨g,o + 65,none⟩ = some (.string x.val):=by
  refine ⟨?_,?_,?_,?_⟩
  · have:=rowAt_sub hr (j:=0) (m:=32) (by omega)
    rwa [rNodeC_e0] at this
  · have:=rowAt_cell hr (j:=32) (by omega)
    rwa [rNodeC_g32] at this
  · have:=rowAt_sub hr (j:=33) (m:=32) (by omega)
    rwa [rNodeC_e33] at this
  · have:=rowAt_cell hr (j:=65) (by omega)
    rwa [rNodeC_g65] at this
theorem NodesIn.get {w : World} {A : Option Addr} {n : Nat} {R : List NodeV} (h : NodesIn w A n R) {i : Nat} (hi : i < n) (hR : i < R.length) :
    ∃ g o,A = some ⟨g,o,none⟩ ∧ rowAt w g (o + i * 66) 66 = some (nodeC R[i]):=by
  obtain ⟨g,o,e,hr⟩:=h.at_ hi;rw [List.getElem_map] at hr;exact ⟨g,o,e,hr⟩
theorem onesN (X : List NodeV) : ∀ r ∈ X.map nodeC,∀ u ∈ r.toList,u.oneCell' = true:=by
  intro r hr;obtain ⟨x,_,rfl⟩:=List.mem_map.1 hr;exact nodeC_one x
theorem rscheck (n : NodeV) (w : World) (hv : n.val.size ≤ 9223372036854775807) :
    Calls Tryz.prog 217 #[.agg (nodeC n)] w fun e w'=>e = .returned (.int .i64 (nodeE n)) ∧ Below w.heap.size w w':=by
  obtain ⟨d,h,ref,val⟩:=n;unfold nodeC nodeR;have hB : Below w.heap.size w (w.alloc (.cells (rNodeC ⟨d,h,ref,val⟩) 213)):=(Below.refl _ _).alloc (Nat.le_refl _) _;have hE : nodeE ⟨d,h,ref,val⟩ = if 16 < val.size then 3 else if h < 1 ∨ 1073741824 < h ∨ d = id0 then 5 else 0:=rfl;have HE:=Lib.hid hE;clear hE;dsimp only at *;obtain ⟨b,hb⟩ : ∃ b,(d == id0) = b:=⟨_,rfl⟩
  have Hb:=Lib.hid hb;cases b
  all_goals
    clear hb;go_enter Tryz.func217,Tryz.ntmps217
    go_wp2_with fail
    all_goals
      go_ret;exact ⟨ret_int (by rw [HE.out];have hdd:=Hb.out;(repeat' split) <;> first | rfl | omega | (simp_all;done) | (simp_all;omega)),hB⟩
theorem rahead (ah : Int) (a : Id32) (bh : Int) (b : Id32) (w : World) :
    Calls Tryz.prog 53 #[.int .i64 ah,.agg (idC a),.int .i64 bh,.agg (idC b)] w fun e w'=>e = .returned (.bool (aheadB ah a bh b)) ∧ Below w.heap.size w w':=by
  have hB : Below w.heap.size w ((w.alloc (.cells (idC a) 39)).alloc (.cells (idC b) 39)):=((Below.refl _ _).alloc (Nat.le_refl _) _).alloc (by simp) _;have hA : aheadB ah a bh b = if ah = bh then decide (cmpId a b < 0) else decide (ah < bh):=rfl;have HA:=Lib.hid hA;clear hA;by_cases h : ah = bh
  · subst h;have hlt : decide (ah < ah) = false:=by simp
    go_enter Tryz.func53,Tryz.ntmps53
    (go_wp2_with fail);refine (rcompare a b _).mono ?_;rintro e w1 ⟨rfl,hb1⟩;have hbb:=bel2 hB hb1;clear hB hb1;(go_wp2_with fail);go_ret;exact ⟨ret_bool (by rw [HA.out];simp),hbb⟩
  · have hn2 : (ah == bh) = false:=by simpa using h
    have Hh:=Lib.hid h;clear h;by_cases hlt : ah < bh
    · have hd : decide (ah < bh) = true:=decide_eq_true hlt;go_enter Tryz.func53,Tryz.ntmps53
      (go_wp2_with fail);go_ret;exact ⟨ret_bool (by rw [HA.out,if_neg Hh.out];simpa using hlt),hB⟩
    · have hd : decide (ah < bh) = false:=decide_eq_false hlt;go_enter Tryz.func53,Tryz.ntmps53
      (go_wp2_with fail);go_ret;exact ⟨ret_bool (by rw [HA.out,if_neg Hh.out];simpa using hlt),hB⟩
end
section
open Go.RowKit
def RefS (w : World) (g j : Nat) (L : List NodeV) (G : List Id32) : Prop :=
  ∃ A n cap A' n' cap',w.cell? ⟨g,j,none⟩ = some (.slice A n cap) ∧ w.cell? ⟨g,j + 1,none⟩ = some (.slice A' n' cap') ∧ NodesIn w A n L ∧ TagsIn w A' n' G
theorem RefS.below {w w' : World} {g j : Nat} {L : List NodeV} {G : List Id32} (h : RefS w g j L G) (k : Below w.heap.size w w') : RefS w' g j L G:=by
  obtain ⟨A,n,cap,A',n',cap',h1,h2,h3,h4⟩:=h;exact ⟨A,n,cap,A',n',cap',(k.cell (World.block_lt_of_cell? w _ h1)).trans h1,(k.cell (World.block_lt_of_cell? w _ h2)).trans h2,SlR.below h3 k,SlR.below h4 k⟩
theorem kids_take (L : List NodeV) (r : Id32) (k : Nat) (hk : k < L.length) : kids (L.take (k + 1)) r = if L[k].ref = r then insC cmpN (kids (L.take k) r) L[k] else kids (L.take k) r:=by
  unfold kids;rw [List.take_add_one,List.getElem?_eq_getElem hk,Option.toList_some,List.filter_append];by_cases h : L[k].ref = r
  · rw [if_pos h];simp only [List.filter_cons,h,decide_true,if_true,List.filter_nil];rw [sortC_snoc]
  · rw [if_neg h];simp [h]
theorem nodes_ids {L : List NodeV} (h : NodesOk L) : Ris cmpId (L.map NodeV.id):=by
  have h1:=sortN_ids h.one;have e : sortN L = L:=sortC_ris totM h.ris
  rwa [e] at h1
theorem kids_ne {L : List NodeV} (h : NodesOk L) {r : Id32} {k : Nat} (hk : k < L.length) {y : NodeV} (hy : y ∈ kids (L.take k) r) : L[k].id ≠ y.id:=by
  have hm:=(mem_kids.1 hy).1;obtain ⟨i,hi,e⟩:=List.mem_iff_getElem.1 hm;rw [List.length_take] at hi;rw [List.getElem_take] at e;have hr:=ris_get (nodes_ids h) (i:=i) (j:=k) (by omega) (by simpa using hk);rw [List.getElem_map,List.getElem_map,e] at hr;exact fun e'=>totId.ne hr e'.symm
set_option maxRecDepth 100000 in
set_option maxHeartbeats 4000000 in
theorem rsbehind (w : World) (g : Nat) (L : List NodeV) (G : List Id32) (r : Id32) (h : RefS w g 8 L G) (hok : NodesOk L) (hX : L.length ≤ 100000) :
    Calls Tryz.prog 221 #[.pointer (some ⟨g,8,none⟩),.agg (idC r)] w fun e w'=>∃ A n cap,e = .returned (.slice A n cap) ∧ Own w' w.heap.size 213 66 A n cap ((kids L r).map nodeC) ∧ Below w.heap.size w w':=by
  obtain ⟨XA,nx,xc,GA,ng,gc,hc0,hc1,hXr,hGr⟩:=h;have hnx : L.length = nx:=hXr.len;have Hnx:=Lib.hid hnx;have Hok:=Lib.hid hok;have hnx1 : nx ≤ 100000:=by omega
  have hb0 : Below w.heap.size w (w.alloc (.cells (idC r) 39)):=(Below.refl _ _).alloc (Nat.le_refl _) _;have hr0 : rowAt (w.alloc (.cells (idC r) 39)) w.heap.size 0 32 = some (idC r):=by simp [go_sem]
  have hc00:=(hb0.cell (p:=⟨g,8,none⟩) (World.block_lt_of_cell? w _ hc0)).trans hc0;have hXr0:=SlR.below hXr hb0;clear hnx hok hc1 hGr hc0 hXr;go_enter Tryz.func221,Tryz.ntmps221
  (go_wp2_with fail);obtain ⟨gr,hgr⟩ : ∃ gr,w.heap.size = gr:=⟨_,rfl⟩
  obtain ⟨W0,hW0⟩ : ∃ W0,w.alloc (.cells (idC r) 39) = W0:=⟨_,rfl⟩
  rw [hW0] at hb0 hr0 hc00 hXr0;rw [hW0];rw [hgr] at hr0 hb0 ⊢;have hgW : gr < W0.heap.size:=rowAt_lt hr0;have Hgr:=Lib.hid hgr;clear hW0 hgr;go_loopw [5,6] (fun out i wr=>∃ (k : Nat) (A1 : Option Addr) (n1 cap1 : Nat),k ≤ nx ∧ i = .int .i64 k ∧ out = .slice A1 n1 cap1 ∧ Own wr W0.heap.size 213 66 A1 n1 cap1 ((kids (L.take k) r).map nodeC) ∧ Below W0.heap.size W0 wr) (fun _ i _=>nx - (intOf i).toNat)
  case atStart=>exact ⟨0,none,0,0,Nat.zero_le _,rfl,rfl,Own.nil _ _ _ _,Below.refl _ _⟩
  case round =>
    obtain ⟨k,A1,n,cap1,hk,rfl,rfl,hown,hb⟩:=hrel;have hcr0:=(hb.cell (p:=⟨g,8,none⟩) (World.block_lt_of_cell? W0 _ hc00)).trans hc00;have hrr : rowAt wr gr 0 32 = some (idC r):=(rowAt_of_block (hb.block gr hgW) _ _).trans hr0;by_cases hlt : k < nx
    · have hltX : k < L.length:=by rw [Hnx.out];exact hlt
      obtain ⟨q,o,rfl,hrx0⟩:=NodesIn.get (SlR.below hXr0 hb) hlt hltX;have htk:=kids_take L r k hltX;have hne:=fun (y : NodeV) (hy : y ∈ kids (L.take k) r)=>kids_ne Hok.out hltX hy;have hOl : (kids (L.take k) r).length = n:=by simpa using hown.len
      have hol : n ≤ 100000:=by have:=kids_length (L.take k) r;simp at this;omega
      have hris : Ris cmpN (kids (L.take k) r):=ris_kids _ _;obtain ⟨O,hO⟩ : ∃ O,kids (L.take k) r = O:=⟨_,rfl⟩
      obtain ⟨x,hx⟩ : ∃ x,L[k]'hltX = x:=⟨_,rfl⟩
      rw [hx] at hrx0 htk hne;rw [hO] at htk hown hris hOl hne;have Htk0:=Lib.hid htk;have Hlen:=Lib.hid hOl;have Hris:=Lib.hid hris;have Hne:=Lib.hid hne;clear hx hO htk hOl hris hne;have hszr:=hb.size;have hbx : Below wr.heap.size wr (wr.alloc (.cells (nodeC x) 213)):=(Below.refl _ _).alloc (Nat.le_refl _) _;have hown1:=hown.below hbx;have hb1 : Below W0.heap.size W0 (wr.alloc (.cells (nodeC x) 213)):=hb.trans (hbx.mono hszr);have hrx1 : rowAt (wr.alloc (.cells (nodeC x) 213)) wr.heap.size 0 66 = some (nodeC x):=by simp [go_sem]
      have hrr1:=(rowAt_of_block (hbx.block gr (rowAt_lt hrr)) 0 32).trans hrr;have hgxr : wr.heap.size < (wr.alloc (.cells (nodeC x) 213)).heap.size:=rowAt_lt hrx1;go_upto_region 6 with fail
      obtain ⟨gx,hgx⟩ : ∃ gx,wr.heap.size = gx:=⟨_,rfl⟩
      obtain ⟨V,hV⟩ : ∃ V,wr.alloc (.cells (nodeC x) 213) = V:=⟨_,rfl⟩
      rw [hV] at hown1 hb1 hrx1 hrr1;rw [hV];rw [hgx] at hrx1 ⊢;obtain ⟨f1,f2,f3,f4⟩:=node_cells hrx1;rw [Nat.zero_add] at f2 f3 f4;clear hgx hV hown hb hbx hcr0 hrx0 hszr hrr hgxr;by_cases href : x.ref = r
      · have Htk : Hid (kids (L.take (k + 1)) r = insC cmpN O x):=(show _ = _ by rw [Htk0.out,if_pos href])
        have hrf : rowAt V gx 33 32 = some (idC r):=by rw [← href];exact f3
        clear href f3;have hsw2:=hown1.slw;(go_wp2_with fail);go_loopw [8] (fun j wj=>∃ m : Nat,m ≤ n ∧ j = .int .i64 m ∧ Hid (∀ i (hi : i < O.length),i < m → cmpN O[i] x < 0) ∧ Below V.heap.size V wj) (fun j _=>n - (intOf j).toNat)
        case atStart=>exact ⟨0,Nat.zero_le _,rfl,(show ∀ i (hi : i < O.length),i < 0 → _ from fun i _ h=>absurd h (by omega)),Below.refl _ _⟩
        case round =>
          obtain ⟨m,hmO,rfl,hlow,hbj⟩:=hrel;have hrj : rowAt wr gx 0 66 = some (nodeC x):=(rowAt_of_block (hbj.block gx (rowAt_lt hrx1)) _ _).trans hrx1;obtain ⟨j1,j2,_,_⟩:=node_cells hrj;rw [Nat.zero_add] at j2;have hswj:=hsw2.below hbj;by_cases hmlt : m < n
          · obtain ⟨q2,o2,rfl,hrO⟩:=NodesIn.get hswj.rd hmlt (by rw [Hlen.out];exact hmlt);obtain ⟨y1,y2,_,_⟩:=node_cells hrO;have hmem : O[m]'(by rw [Hlen.out];exact hmlt) ∈ O:=List.getElem_mem _;have hxy:=Hne.out _ hmem;obtain ⟨y,hy⟩ : ∃ y,O[m]'(by rw [Hlen.out];exact hmlt) = y:=⟨_,rfl⟩
            rw [hy] at y1 y2 hxy;have Hy:=Lib.hid hy;have c2:=rahead x.h x.id y.h y.id wr.drew;rw [← cmpN_ahead hxy] at c2;have Hxy:=Lib.hid hxy;clear hy hmem hrO hxy;by_cases hyx : cmpN y x < 0
            · rw [decide_eq_true hyx] at c2;have Hyx:=Lib.hid hyx;clear hyx;go_upto_region 8 with fail
              refine wp_region_lex (Bel wr) false (by kernel_rfl) (by kernel_rfl) (by kernel_rfl) (bel_drew wr) ?_;have hne:=bel_some wr;have hS:=bel_drew wr;have b1:=sub_row j1;have b2:=sub_cell j2;have b3:=sub_row y1;have b4:=sub_cell y2;repeat (refine wpLx_loose ?_ ?_;(focus (simp only [chainOp];done));intro K hK;go_simp;refine hK _ ?_;clear hK K)
              refine wpLx_chain ?_ ?_ ?_;(focus (exact hS));(focus (simp only [chainOp];done));intro K hK;go_simp;refine (c2).mono ?_;rintro e w' ⟨rfl,hb⟩;replace hS:=bel_next hS hb;refine ⟨_,rfl,hS,hK _ _ ?_⟩;clear hK K hb;repeat (refine wpLx_loose ?_ ?_;(focus (simp only [chainOp];done));intro K hK;go_simp;refine hK _ ?_;clear hK K)
              refine wpLx_nil ?_;intro hS;have hS' : Below wr.heap.size wr w':=hS;have hbz:=bel2 hbj hS';clear b1 b2 b3 b4 hne hS c2;(go_wp2_with fail);go_roundw
              case rel =>
                refine ⟨m + 1,by omega,by go_num,(show ∀ i (hi : i < O.length),i < m + 1 → cmpN O[i] x < 0 from fun i hi hlt=>?_),hbz⟩;by_cases e : i = m
                · subst e;rw [Hy.out];exact Hyx.out
                · exact hlow.out i hi (by omega)
              case measure=>simp [intOf];omega
            · rw [decide_eq_false hyx] at c2;have hat:=insC_at (c:=cmpN) O x m (by rw [Hlen.out];exact hmO) hlow.out (fun hk'=>by
                rw [Hy.out];have h1 : cmpN y x ≠ 0:=fun e'=>Hxy.out (by rw [(totN.zero _ _).1 e']);omega)
              have Hat:=Lib.hid hat;clear hyx hat;go_upto_region 8 with fail
              refine wp_region_lex (Bel wr) false (by kernel_rfl) (by kernel_rfl) (by kernel_rfl) (bel_drew wr) ?_;have hne:=bel_some wr;have hS:=bel_drew wr;have b1:=sub_row j1;have b2:=sub_cell j2;have b3:=sub_row y1;have b4:=sub_cell y2;repeat (refine wpLx_loose ?_ ?_;(focus (simp only [chainOp];done));intro K hK;go_simp;refine hK _ ?_;clear hK K)
              refine wpLx_chain ?_ ?_ ?_;(focus (exact hS));(focus (simp only [chainOp];done));intro K hK;go_simp;refine (c2).mono ?_;rintro e w' ⟨rfl,hb⟩;replace hS:=bel_next hS hb;refine ⟨_,rfl,hS,hK _ _ ?_⟩;clear hK K hb;repeat (refine wpLx_loose ?_ ?_;(focus (simp only [chainOp];done));intro K hK;go_simp;refine hK _ ?_;clear hK K)
              refine wpLx_nil ?_;intro hS;have hS' : Below wr.heap.size wr w':=hS;have hbz:=bel2 hbj hS';have hrx : rowAt w' gx 0 66 = some (nodeC x):=(rowAt_of_block (hS'.block gx (rowAt_lt hrj)) _ _).trans hrj;have hsw:=hsw2.below hbz;have hBw:=hb1.trans (hbz.mono hb1.size);clear b1 b2 b3 b4 hne hS c2 hS' hbj hrj hswj j1 j2 y1 y2 hrx1 hbz;obtain ⟨W,rfl⟩ : ∃ W,W = w':=⟨w',rfl⟩
              obtain ⟨A,hA1⟩ : ∃ A,(some ⟨q2,o2,none⟩ : Option Addr) = A:=⟨_,rfl⟩
              rw [hA1] at hsw ⊢;obtain ⟨d,hd⟩ : ∃ d,d = x:=⟨_,rfl⟩
              rw [← hd] at hrx Hat Htk ⊢;obtain ⟨cap,hcap⟩ : ∃ cap,cap = cap1:=⟨_,rfl⟩
              rw [← hcap] at hsw ⊢;clear hd hcap hA1;have hBx : Below W.heap.size W (W.alloc (.cells #[] 213)):=(Below.refl _ _).alloc (Nat.le_refl _) _;have hown0:=Own.empty W W.heap.size 213 66 (Nat.le_refl _);have hlo : ∀ w0 : World,(slS 65 (.slice A n cap) none (some (.int .i64 m)) none).run Tryz.prog w0 = .ok (.slice A m cap) w0:=fun w0=>SlW.lo einfoRN hsw hmO w0;obtain ⟨Ah,ch,hhi,hhs,hhf⟩:=hsw.hi (P:=Tryz.prog) einfoRN (m:=m) hmO;have hslo : SlR (W.alloc (.cells #[] 213)) A m 66 ((O.map nodeC).take m):=(hsw.rd.below hBx).take_ hmO;have hf1:=hsw.nil;have hrone : ∀ r ∈ (O.map nodeC).take m,∀ u ∈ r.toList,u.oneCell' = true:=fun r hr=>(by obtain ⟨y',_,rfl⟩:=List.mem_map.1 (List.mem_of_mem_take hr);exact nodeC_one _);have hrone2 : ∀ r ∈ (O.map nodeC).drop m,∀ u ∈ r.toList,u.oneCell' = true:=fun r hr=>(by obtain ⟨y',_,rfl⟩:=List.mem_map.1 (List.mem_of_mem_drop hr);exact nodeC_one _);go_upto_region 11 with (at_builtin;refine L_appends einfoRN rfl hown0 rfl hslo hf1 hrone (by omega) (by omega) (by simp) ?_;intro A2 cap2 w2 hown2 hk2 hsub2)
              simp only [Nat.zero_add,List.nil_append] at hown2;have hwW : Below W.heap.size W w2:=hBx.trans (hk2.below (by simp) (by simp [blk]));have hrw2 : rowAt w2 gx (0) 66 = some (nodeC d):=(rowAt_of_block (hwW.block gx (rowAt_lt hrx)) _ _).trans hrx;have hB3 : Below w2.heap.size w2 (w2.alloc (.cells (nodeC d) 213)):=(Below.refl _ _).alloc (Nat.le_refl _) _;have hown3:=hown2.below hB3;have hrow3 : rowAt (w2.alloc (.cells (nodeC d) 213)) w2.heap.size 0 66 = some (nodeC d):=by simp [go_sem]
              have hsz2:=hwW.size;go_upto_region 12 with (at_builtin;refine L_append einfoRN rfl hown3 rfl hrow3 (nodeC_one _) (by omega) (by omega) (by simp;omega) ?_;intro A4 cap4 w4 hown4 hk4 hsub4)
              have hwW4 : Below W.heap.size W w4:=(hwW.trans (hB3.mono hsz2)).trans (hk4.below (by simp;omega) (fun x hx=>(hown2.at_base hx).1));have hs4:=hhs w4 (hsw.rd.below hwW4);have hsz4:=hwW4.size;clear hown3 hrow3 hB3 hown0 hBx hslo hrw2 hlo;go_upto_region 13 with (at_builtin;refine L_appends einfoRN rfl hown4 rfl hs4 hhf hrone2 (by omega) (by omega) (by omega) ?_;intro A5 cap5 w5 hown5 hk5 hsub5)
              have hwW5 : Below W.heap.size W w5:=hwW4.trans (hk5.below (by omega) (fun x hx=>(hown4.at_base hx).1));have hO5 : (O.map nodeC).take m ++ [nodeC d] ++ (O.map nodeC).drop m = (O.take m ++ d :: O.drop m).map nodeC:=by simp [List.map_take,List.map_drop]
              rw [hO5] at hown5;clear hown4 hown2 hO5 hs4 hhi hhs hrone hrone2 hf1;have hBw5:=hBw.trans (hwW5.mono hBw.size);have hL5 : (O.take m ++ d :: O.drop m).length = m + 1 + (n - m):=by simp [Hlen.out];omega
              have hOe : O.take m ++ d :: O.drop m = kids (L.take (k + 1)) r:=by rw [Htk.out,Hat.out]
              rw [hOe] at hown5 hL5;have hown6:=hown5.mono hBw.size;have HL:=Lib.hid hL5;clear hown5 hOe hL5;(go_wp2_with fail);go_roundw
              case rel=>exact ⟨k + 1,A5,m + 1 + (n - m),cap5,by omega,by go_num,rfl,hown6,hBw5⟩
              case measure=>simp [intOf];omega
          · have hd : decide (m < n) = false:=by simpa using hmlt
            have hat:=insC_at (c:=cmpN) O x m (by rw [Hlen.out];exact hmO) hlow.out (fun hk'=>absurd (by rw [← Hlen.out];exact hk') hmlt);have Hat:=Lib.hid hat;clear hat;go_upto_region 8 with fail
            refine wp_region_lex (Bel wr) false (by kernel_rfl) (by kernel_rfl) (by kernel_rfl) (bel_drew wr) ?_;have hne:=bel_some wr;have hS:=bel_drew wr;repeat (refine wpLx_loose ?_ ?_;(focus (simp only [chainOp];done));intro K hK;go_simp;refine hK _ ?_;clear hK K)
            refine wpLx_chain ?_ ?_ ?_;(focus (exact hS));(focus (simp only [chainOp];done));intro K hK;go_simp;refine hK _ _ ?_;clear hK K;repeat (refine wpLx_loose ?_ ?_;(focus (simp only [chainOp];done));intro K hK;go_simp;refine hK _ ?_;clear hK K)
            refine wpLx_nil ?_;intro hS;have hbz : Below V.heap.size V wr.drew:=hbj.drew;have hrx : rowAt wr.drew gx 0 66 = some (nodeC x):=hrj;have hsw:=hsw2.below hbz;have hBw:=hb1.trans (hbz.mono hb1.size);clear hne hS hbz hrj hbj hmlt hd hswj j1 j2 hrx1;obtain ⟨W,hW⟩ : ∃ W,wr.drew = W:=⟨_,rfl⟩
            rw [hW] at hrx hsw hBw ⊢;clear hW;obtain ⟨A,hA1⟩ : ∃ A,A = A1:=⟨_,rfl⟩
            rw [← hA1] at hsw ⊢;obtain ⟨d,hd⟩ : ∃ d,d = x:=⟨_,rfl⟩
            rw [← hd] at hrx Hat Htk ⊢;obtain ⟨cap,hcap⟩ : ∃ cap,cap = cap1:=⟨_,rfl⟩
            rw [← hcap] at hsw ⊢;clear hd hcap hA1;have hBx : Below W.heap.size W (W.alloc (.cells #[] 213)):=(Below.refl _ _).alloc (Nat.le_refl _) _;have hown0:=Own.empty W W.heap.size 213 66 (Nat.le_refl _);have hlo : ∀ w0 : World,(slS 65 (.slice A n cap) none (some (.int .i64 m)) none).run Tryz.prog w0 = .ok (.slice A m cap) w0:=fun w0=>SlW.lo einfoRN hsw hmO w0;obtain ⟨Ah,ch,hhi,hhs,hhf⟩:=hsw.hi (P:=Tryz.prog) einfoRN (m:=m) hmO;have hslo : SlR (W.alloc (.cells #[] 213)) A m 66 ((O.map nodeC).take m):=(hsw.rd.below hBx).take_ hmO;have hf1:=hsw.nil;have hrone : ∀ r ∈ (O.map nodeC).take m,∀ u ∈ r.toList,u.oneCell' = true:=fun r hr=>(by obtain ⟨y',_,rfl⟩:=List.mem_map.1 (List.mem_of_mem_take hr);exact nodeC_one _);have hrone2 : ∀ r ∈ (O.map nodeC).drop m,∀ u ∈ r.toList,u.oneCell' = true:=fun r hr=>(by obtain ⟨y',_,rfl⟩:=List.mem_map.1 (List.mem_of_mem_drop hr);exact nodeC_one _);go_upto_region 11 with (at_builtin;refine L_appends einfoRN rfl hown0 rfl hslo hf1 hrone (by omega) (by omega) (by simp) ?_;intro A2 cap2 w2 hown2 hk2 hsub2)
            simp only [Nat.zero_add,List.nil_append] at hown2;have hwW : Below W.heap.size W w2:=hBx.trans (hk2.below (by simp) (by simp [blk]));have hrw2 : rowAt w2 gx (0) 66 = some (nodeC d):=(rowAt_of_block (hwW.block gx (rowAt_lt hrx)) _ _).trans hrx;have hB3 : Below w2.heap.size w2 (w2.alloc (.cells (nodeC d) 213)):=(Below.refl _ _).alloc (Nat.le_refl _) _;have hown3:=hown2.below hB3;have hrow3 : rowAt (w2.alloc (.cells (nodeC d) 213)) w2.heap.size 0 66 = some (nodeC d):=by simp [go_sem]
            have hsz2:=hwW.size;go_upto_region 12 with (at_builtin;refine L_append einfoRN rfl hown3 rfl hrow3 (nodeC_one _) (by omega) (by omega) (by simp;omega) ?_;intro A4 cap4 w4 hown4 hk4 hsub4)
            have hwW4 : Below W.heap.size W w4:=(hwW.trans (hB3.mono hsz2)).trans (hk4.below (by simp;omega) (fun x hx=>(hown2.at_base hx).1));have hs4:=hhs w4 (hsw.rd.below hwW4);have hsz4:=hwW4.size;clear hown3 hrow3 hB3 hown0 hBx hslo hrw2 hlo;go_upto_region 13 with (at_builtin;refine L_appends einfoRN rfl hown4 rfl hs4 hhf hrone2 (by omega) (by omega) (by omega) ?_;intro A5 cap5 w5 hown5 hk5 hsub5)
            have hwW5 : Below W.heap.size W w5:=hwW4.trans (hk5.below (by omega) (fun x hx=>(hown4.at_base hx).1));have hO5 : (O.map nodeC).take m ++ [nodeC d] ++ (O.map nodeC).drop m = (O.take m ++ d :: O.drop m).map nodeC:=by simp [List.map_take,List.map_drop]
            rw [hO5] at hown5;clear hown4 hown2 hO5 hs4 hhi hhs hrone hrone2 hf1;have hBw5:=hBw.trans (hwW5.mono hBw.size);have hL5 : (O.take m ++ d :: O.drop m).length = m + 1 + (n - m):=by simp [Hlen.out];omega
            have hOe : O.take m ++ d :: O.drop m = kids (L.take (k + 1)) r:=by rw [Htk.out,Hat.out]
            rw [hOe] at hown5 hL5;have hown6:=hown5.mono hBw.size;have HL:=Lib.hid hL5;clear hown5 hOe hL5;(go_wp2_with fail);go_roundw
            case rel=>exact ⟨k + 1,A5,m + 1 + (n - m),cap5,by omega,by go_num,rfl,hown6,hBw5⟩
            case measure=>simp [intOf];omega
      · have Htk : Hid (kids (L.take (k + 1)) r = O):=(show _ = _ by rw [Htk0.out,if_neg href])
        have hrf : (x.ref != r) = true:=by simpa using href
        have hrf2 : (x.ref == r) = false:=by simpa using href
        clear href;(go_wp2_with fail);go_roundw
        case rel=>exact ⟨k + 1,A1,n,cap1,by omega,by go_num,rfl,(by rw [Htk.out];exact hown1),hb1⟩
        case measure=>simp [intOf];omega
    · have e : L.take k = L:=List.take_of_length_le (by rw [Hnx.out];omega);rw [e] at hown;clear e;(go_wp2_with fail);go_ret;exact ⟨A1,n,cap1,rfl,hown.mono (by rw [Hgr.out];omega),by rw [Hgr.out];exact hb0.trans (hb.mono (by omega))⟩
end
section
open Go.RowKit
@[go_sem] theorem bsIdN_run (w : World) : (bsS 50 0 #[]).run Tryz.prog w = .ok (.slice (some ⟨w.heap.size,0,none⟩) 0 0) (w.alloc (.cells #[] 39)):=run_bsS0 einfoId w
@[go_sem ↓] theorem slId_rw (x : Value) (lo hi mx : Option Value) : Instr.sliceAt 50 x lo hi mx = slS 50 x lo hi mx:=rfl
abbrev IdsW (w : World) (A : Option Addr) (n cap : Nat) (R : List Id32) : Prop:=SlW w A n cap 32 (R.map idC)
set_option maxRecDepth 100000 in
set_option maxHeartbeats 4000000 in
theorem rwith (w : World) (A : Option Addr) (n cap : Nat) (O : List Id32) (d : Id32) (h : IdsW w A n cap O) (hn : n ≤ 1000000) (hris : Ris cmpId O) :
    Calls Tryz.prog 72 #[.slice A n cap,.agg (idC d)] w fun e w'=>∃ A' cap',e = .returned (.slice A' (insC cmpId O d).length cap') ∧ IdsW w' A' (insC cmpId O d).length cap' (insC cmpId O d) ∧ (∀ x ∈ blk A',x ∈ blk A ∨ w.heap.size ≤ x) ∧ Below w.heap.size w w':=by
  have hlen : O.length = n:=by simpa using h.len
  have hB : Below w.heap.size w (w.alloc (.cells (idC d) 39)):=(Below.refl _ _).alloc (Nat.le_refl _) _;have hd0 : rowAt (w.alloc (.cells (idC d) 39)) w.heap.size 0 32 = some (idC d):=by simp [go_sem]
  have h0:=h.below hB;have c1:=rhas6 (w.alloc (.cells (idC d) 39)) A n cap O d h0.rd (by omega);have Hlen:=Lib.hid hlen;clear hlen;by_cases hin : d ∈ O
  · rw [decide_eq_true hin] at c1;have hat:=insC_old totId hris hin;have Hat:=Lib.hid hat;clear hat hin;go_enter Tryz.func72,Tryz.ntmps72
    (go_wp2_with fail);refine c1.mono ?_;rintro e w1 ⟨rfl,hb1⟩;have h1:=h0.below hb1;have hbb:=bel2 hB hb1;clear c1;(go_wp2_with fail);go_ret;refine ⟨A,cap,by rw [Hat.out,Hlen.out];rfl,by rw [Hat.out,Hlen.out];exact h1,fun x hx=>.inl hx,hbb⟩
  · rw [decide_eq_false hin] at c1;have Hin:=Lib.hid hin;clear hin;go_enter Tryz.func72,Tryz.ntmps72
    go_upto_region 1 with fail
    obtain ⟨gx,hgx⟩ : ∃ gx,w.heap.size = gx:=⟨_,rfl⟩
    have Hgx:=Lib.hid hgx;rw [hgx] at hd0 hB ⊢;obtain ⟨W0,hW0⟩ : ∃ W0,W0 = w.alloc (.cells (idC d) 39):=⟨_,rfl⟩
    rw [← hW0] at h0 hd0 hB c1 ⊢;clear hW0 hgx;(go_wp2_with fail);refine c1.mono ?_;rintro e w1 ⟨rfl,hb1⟩;have h1:=h0.below hb1;have hbb : Below gx w w1:=hB.trans (hb1.mono (by have:=hB.size;have:=Hgx.out;omega));have hr1 : rowAt w1 gx 0 32 = some (idC d):=(rowAt_of_block (hb1.block gx (rowAt_lt hd0)) _ _).trans hd0;clear c1 hd0 hb1 hB h0;(go_wp2_with fail);go_loopw [5] (fun j wj=>∃ m : Nat,m ≤ n ∧ j = .int .i64 m ∧ Hid (∀ i (hi : i < O.length),i < m → cmpId O[i] d < 0) ∧ Below w1.heap.size w1 wj) (fun j _=>n - (intOf j).toNat)
    case atStart=>exact ⟨0,Nat.zero_le _,rfl,(show ∀ i (hi : i < O.length),i < 0 → _ from fun i _ h=>absurd h (by omega)),Below.refl _ _⟩
    case round =>
      obtain ⟨m,hmO,rfl,hlow,hbj⟩:=hrel;have hrj : rowAt wr gx 0 32 = some (idC d):=(rowAt_of_block (hbj.block gx (rowAt_lt hr1)) _ _).trans hr1;have hswj:=h1.below hbj;by_cases hmlt : m < n
      · obtain ⟨q,o,rfl,hrO⟩:=TagsIn.get hswj.rd hmlt (by rw [Hlen.out];exact hmlt);have hmem : O[m]'(by rw [Hlen.out];exact hmlt) ∈ O:=List.getElem_mem _;obtain ⟨y,hy⟩ : ∃ y,O[m]'(by rw [Hlen.out];exact hmlt) = y:=⟨_,rfl⟩
        rw [hy] at hrO hmem;have Hy:=Lib.hid hy;have Hmem:=Lib.hid hmem;clear hy hmem;have c2:=rcompare y d wr.drew;obtain ⟨c,hc⟩ : ∃ c,cmpId y d = c:=⟨_,rfl⟩
        rw [hc] at c2;have Hc:=Lib.hid hc;clear hc;go_upto_region 4 with fail
        refine wp_region_lex (Bel wr) false (by kernel_rfl) (by kernel_rfl) (by kernel_rfl) (bel_drew wr) ?_;have hne:=bel_some wr;have hS:=bel_drew wr;have b1:=sub_row hrj;have b2:=sub_row hrO;repeat (refine wpLx_loose ?_ ?_;(focus (simp only [chainOp];done));intro K hK;go_simp;refine hK _ ?_;clear hK K)
        refine wpLx_chain ?_ ?_ ?_;(focus (exact hS));(focus (simp only [chainOp];done));intro K hK;go_simp;refine (c2).mono ?_;rintro e w' ⟨rfl,hb⟩;replace hS:=bel_next hS hb;refine ⟨_,rfl,hS,hK _ _ ?_⟩;clear hK K hb;repeat (refine wpLx_loose ?_ ?_;(focus (simp only [chainOp];done));intro K hK;go_simp;refine hK _ ?_;clear hK K)
        refine wpLx_nil ?_;intro hS;have hS' : Below wr.heap.size wr w':=hS;have hbz:=bel2 hbj hS';clear b1 b2 hne hS c2;by_cases hyx : c < 0
        · (go_wp2_with fail);go_roundw
          case rel =>
            refine ⟨m + 1,by omega,by go_num,(show ∀ i (hi : i < O.length),i < m + 1 → cmpId O[i] d < 0 from fun i hi hlt=>?_),hbz⟩;by_cases e : i = m
            · subst e;rw [Hy.out,Hc.out];exact hyx
            · exact hlow.out i hi (by omega)
          case measure=>simp [intOf];omega
        · have hat:=insC_at (c:=cmpId) O d m (by rw [Hlen.out];exact hmO) hlow.out (fun hk'=>by
            rw [Hy.out,Hc.out];have h1 : c ≠ 0:=fun e=>Hin.out (by rw [← (totId.zero _ _).1 (Hc.out.trans e)];exact Hmem.out);omega)
          have Hat:=Lib.hid hat;have hsw:=h1.below hbz;have hrx : rowAt w' gx 0 32 = some (idC d):=(rowAt_of_block (hbz.block gx (rowAt_lt hr1)) _ _).trans hr1;have hBw : Below gx w w':=hbb.trans (hbz.mono (by have:=rowAt_lt hr1;omega));clear hat hrO hrj hbj hbz hS' hswj;obtain ⟨W,rfl⟩ : ∃ W,W = w':=⟨w',rfl⟩
          obtain ⟨A,hA1⟩ : ∃ A,(some ⟨q,o,none⟩ : Option Addr) = A:=⟨_,rfl⟩
          rw [hA1] at hsw ⊢;clear hA1;have hBx : Below W.heap.size W (W.alloc (.cells #[] 39)):=(Below.refl _ _).alloc (Nat.le_refl _) _;have hown0:=Own.empty W W.heap.size 39 32 (Nat.le_refl _);have hlo : ∀ w0 : World,(slS 50 (.slice A n cap) none (some (.int .i64 m)) none).run Tryz.prog w0 = .ok (.slice A m cap) w0:=fun w0=>SlW.lo einfoId hsw hmO w0;obtain ⟨Ah,ch,hhi,hhs,hhf⟩:=hsw.hi (P:=Tryz.prog) einfoId (m:=m) hmO;have hslo : SlR (W.alloc (.cells #[] 39)) A m 32 ((O.map idC).take m):=(hsw.rd.below hBx).take_ hmO;have hf1:=hsw.nil;have hrone : ∀ r ∈ (O.map idC).take m,∀ u ∈ r.toList,u.oneCell' = true:=fun r hr=>(by obtain ⟨y',_,rfl⟩:=List.mem_map.1 (List.mem_of_mem_take hr);exact idC_one _);have hrone2 : ∀ r ∈ (O.map idC).drop m,∀ u ∈ r.toList,u.oneCell' = true:=fun r hr=>(by obtain ⟨y',_,rfl⟩:=List.mem_map.1 (List.mem_of_mem_drop hr);exact idC_one _);go_upto_region 7 with (at_builtin;refine L_appends einfoId rfl hown0 rfl hslo hf1 hrone (by omega) (by omega) (by simp) ?_;intro A2 cap2 w2 hown2 hk2 hsub2)
          simp only [Nat.zero_add,List.nil_append] at hown2;have hwW : Below W.heap.size W w2:=hBx.trans (hk2.below (by simp) (by simp [blk]));have hrw2 : rowAt w2 gx (0) 32 = some (idC d):=(rowAt_of_block (hwW.block gx (rowAt_lt hrx)) _ _).trans hrx;have hB3 : Below w2.heap.size w2 (w2.alloc (.cells (idC d) 39)):=(Below.refl _ _).alloc (Nat.le_refl _) _;have hown3:=hown2.below hB3;have hrow3 : rowAt (w2.alloc (.cells (idC d) 39)) w2.heap.size 0 32 = some (idC d):=by simp [go_sem]
          have hsz2:=hwW.size;go_upto_region 8 with (at_builtin;refine L_append einfoId rfl hown3 rfl hrow3 (idC_one _) (by omega) (by omega) (by simp;omega) ?_;intro A4 cap4 w4 hown4 hk4 hsub4)
          have hwW4 : Below W.heap.size W w4:=(hwW.trans (hB3.mono hsz2)).trans (hk4.below (by simp;omega) (fun x hx=>(hown2.at_base hx).1));have hs4:=hhs w4 (hsw.rd.below hwW4);have hsz4:=hwW4.size;clear hown3 hrow3 hB3 hown0 hBx hslo hrw2 hlo;go_upto_region 9 with (at_builtin;refine L_appends einfoId rfl hown4 rfl hs4 hhf hrone2 (by omega) (by omega) (by omega) ?_;intro A5 cap5 w5 hown5 hk5 hsub5)
          have hwW5 : Below W.heap.size W w5:=hwW4.trans (hk5.below (by omega) (fun x hx=>(hown4.at_base hx).1));have hO5 : (O.map idC).take m ++ [idC d] ++ (O.map idC).drop m = (O.take m ++ d :: O.drop m).map idC:=by simp [List.map_take,List.map_drop]
          rw [hO5] at hown5;clear hown4 hown2 hO5 hs4 hhi hhs hrone hrone2 hf1;have hL5 : (O.take m ++ d :: O.drop m).length = m + 1 + (n - m):=by simp [Hlen.out];omega
          have hLn : (insC cmpId O d).length = m + 1 + (n - m):=by rw [Hat.out,hL5]
          rw [← Hat.out] at hown5;have HLn:=Lib.hid hLn;have hBf:=hBw.trans (hwW5.mono (by have:=rowAt_lt hrx;omega));have hbase : ∀ x ∈ blk A5,w.heap.size ≤ x:=fun x hx=>(by have h1:=(hown5.at_base hx).1;have h2:=hBw.size;have h3:=Hgx.out;omega);have HB:=Lib.hid hBf;have Hbase:=Lib.hid hbase;have Hown5:=Lib.hid hown5;clear hL5 hLn hBf hbase hown5;(go_wp2_with fail);go_ret;exact ⟨A5,cap5,by rw [HLn.out];rfl,by rw [HLn.out];exact Hown5.out.slw,fun x hx=>.inr (Hbase.out x hx),by rw [Hgx.out];exact HB.out⟩
      · have hd : decide (m < n) = false:=by simpa using hmlt
        have hat:=insC_at (c:=cmpId) O d m (by rw [Hlen.out];exact hmO) hlow.out (fun hk'=>absurd (by rw [← Hlen.out];exact hk') hmlt);have Hat:=Lib.hid hat;clear hat;go_upto_region 4 with fail
        refine wp_region_lex (Bel wr) false (by kernel_rfl) (by kernel_rfl) (by kernel_rfl) (bel_drew wr) ?_;have hne:=bel_some wr;have hS:=bel_drew wr;repeat (refine wpLx_loose ?_ ?_;(focus (simp only [chainOp];done));intro K hK;go_simp;refine hK _ ?_;clear hK K)
        refine wpLx_chain ?_ ?_ ?_;(focus (exact hS));(focus (simp only [chainOp];done));intro K hK;go_simp;refine hK _ _ ?_;clear hK K;repeat (refine wpLx_loose ?_ ?_;(focus (simp only [chainOp];done));intro K hK;go_simp;refine hK _ ?_;clear hK K)
        refine wpLx_nil ?_;intro hS;have hbz:=hbj.drew;have hsw:=h1.below hbz;have hrx : rowAt wr.drew gx 0 32 = some (idC d):=hrj;have hBw : Below gx w wr.drew:=hbb.trans (hbz.mono (by have:=rowAt_lt hr1;omega));clear hne hS hbz hrj hbj hmlt hd hswj;obtain ⟨W,hW⟩ : ∃ W,wr.drew = W:=⟨_,rfl⟩
        rw [hW] at hsw hBw hrx ⊢;clear hW;have hBx : Below W.heap.size W (W.alloc (.cells #[] 39)):=(Below.refl _ _).alloc (Nat.le_refl _) _;have hown0:=Own.empty W W.heap.size 39 32 (Nat.le_refl _);have hlo : ∀ w0 : World,(slS 50 (.slice A n cap) none (some (.int .i64 m)) none).run Tryz.prog w0 = .ok (.slice A m cap) w0:=fun w0=>SlW.lo einfoId hsw hmO w0;obtain ⟨Ah,ch,hhi,hhs,hhf⟩:=hsw.hi (P:=Tryz.prog) einfoId (m:=m) hmO;have hslo : SlR (W.alloc (.cells #[] 39)) A m 32 ((O.map idC).take m):=(hsw.rd.below hBx).take_ hmO;have hf1:=hsw.nil;have hrone : ∀ r ∈ (O.map idC).take m,∀ u ∈ r.toList,u.oneCell' = true:=fun r hr=>(by obtain ⟨y',_,rfl⟩:=List.mem_map.1 (List.mem_of_mem_take hr);exact idC_one _);have hrone2 : ∀ r ∈ (O.map idC).drop m,∀ u ∈ r.toList,u.oneCell' = true:=fun r hr=>(by obtain ⟨y',_,rfl⟩:=List.mem_map.1 (List.mem_of_mem_drop hr);exact idC_one _);go_upto_region 7 with (at_builtin;refine L_appends einfoId rfl hown0 rfl hslo hf1 hrone (by omega) (by omega) (by simp) ?_;intro A2 cap2 w2 hown2 hk2 hsub2)
        simp only [Nat.zero_add,List.nil_append] at hown2;have hwW : Below W.heap.size W w2:=hBx.trans (hk2.below (by simp) (by simp [blk]));have hrw2 : rowAt w2 gx (0) 32 = some (idC d):=(rowAt_of_block (hwW.block gx (rowAt_lt hrx)) _ _).trans hrx;have hB3 : Below w2.heap.size w2 (w2.alloc (.cells (idC d) 39)):=(Below.refl _ _).alloc (Nat.le_refl _) _;have hown3:=hown2.below hB3;have hrow3 : rowAt (w2.alloc (.cells (idC d) 39)) w2.heap.size 0 32 = some (idC d):=by simp [go_sem]
        have hsz2:=hwW.size;go_upto_region 8 with (at_builtin;refine L_append einfoId rfl hown3 rfl hrow3 (idC_one _) (by omega) (by omega) (by simp;omega) ?_;intro A4 cap4 w4 hown4 hk4 hsub4)
        have hwW4 : Below W.heap.size W w4:=(hwW.trans (hB3.mono hsz2)).trans (hk4.below (by simp;omega) (fun x hx=>(hown2.at_base hx).1));have hs4:=hhs w4 (hsw.rd.below hwW4);have hsz4:=hwW4.size;clear hown3 hrow3 hB3 hown0 hBx hslo hrw2 hlo;go_upto_region 9 with (at_builtin;refine L_appends einfoId rfl hown4 rfl hs4 hhf hrone2 (by omega) (by omega) (by omega) ?_;intro A5 cap5 w5 hown5 hk5 hsub5)
        have hwW5 : Below W.heap.size W w5:=hwW4.trans (hk5.below (by omega) (fun x hx=>(hown4.at_base hx).1));have hO5 : (O.map idC).take m ++ [idC d] ++ (O.map idC).drop m = (O.take m ++ d :: O.drop m).map idC:=by simp [List.map_take,List.map_drop]
        rw [hO5] at hown5;clear hown4 hown2 hO5 hs4 hhi hhs hrone hrone2 hf1;have hL5 : (O.take m ++ d :: O.drop m).length = m + 1 + (n - m):=by simp [Hlen.out];omega
        have hLn : (insC cmpId O d).length = m + 1 + (n - m):=by rw [Hat.out,hL5]
        rw [← Hat.out] at hown5;have HLn:=Lib.hid hLn;have hBf:=hBw.trans (hwW5.mono (by have:=rowAt_lt hrx;omega));have hbase : ∀ x ∈ blk A5,w.heap.size ≤ x:=fun x hx=>(by have h1:=(hown5.at_base hx).1;have h2:=hBw.size;have h3:=Hgx.out;omega);have HB:=Lib.hid hBf;have Hbase:=Lib.hid hbase;have Hown5:=Lib.hid hown5;clear hL5 hLn hBf hbase hown5;(go_wp2_with fail);go_ret;exact ⟨A5,cap5,by rw [HLn.out];rfl,by rw [HLn.out];exact Hown5.out.slw,fun x hx=>.inr (Hbase.out x hx),by rw [Hgx.out];exact HB.out⟩
set_option maxHeartbeats 1000000 in
theorem rset (w : World) (A : Option Addr) (n cap : Nat) (R : List Id32) (h : TagsIn w A n R) (hn : n ≤ 1000000) :
    Calls Tryz.prog 165 #[.slice A n cap] w fun e w'=>∃ A' cap',e = .returned (.slice A' (sortC cmpId R).length cap') ∧ IdsW w' A' (sortC cmpId R).length cap' (sortC cmpId R) ∧ (∀ x ∈ blk A',w.heap.size ≤ x) ∧ Below w.heap.size w w':=by
  have hlen:=h.len;have Hlen:=Lib.hid hlen;clear hlen;go_enter Tryz.func165,Tryz.ntmps165
  (go_wp2_with fail);go_loopw [3,4] (fun out i wr=>∃ (k : Nat) (A1 : Option Addr) (n1 cap1 : Nat) (O : List Id32),k ≤ n ∧ i = .int .i64 k ∧ out = .slice A1 n1 cap1 ∧ Hid (O = sortC cmpId (R.take k)) ∧ IdsW wr A1 n1 cap1 O ∧ (∀ x ∈ blk A1,w.heap.size ≤ x) ∧ Below w.heap.size w wr) (fun _ i _=>n - (intOf i).toNat)
  case atStart=>exact ⟨0,none,0,0,[],Nat.zero_le _,rfl,rfl,rfl,SlW.none_,by simp [blk],Below.refl _ _⟩
  case round =>
    obtain ⟨k,A1,n1,cap1,O,hk,rfl,rfl,hO,hsw,hbs,hb⟩:=hrel;have hn1 : O.length = n1:=by simpa using hsw.len
    by_cases hlt : k < n
    · obtain ⟨q,o,rfl,hr⟩:=TagsIn.get (SlR.below h hb) hlt (by rw [Hlen.out];exact hlt);have htk : sortC cmpId (R.take (k + 1)) = insC cmpId O (R[k]'(by rw [Hlen.out];exact hlt)):=by
        rw [List.take_add_one,List.getElem?_eq_getElem (by rw [Hlen.out];exact hlt),Option.toList_some,sortC_snoc,hO.out]
      have hol : n1 ≤ 1000000:=by have:=sortC_length (c:=cmpId) (R.take k);rw [← hO.out] at this;simp at this;have:=Hlen.out;omega
      have hris : Ris cmpId O:=by rw [hO.out];exact ris_sortC totId _
      obtain ⟨d,hd⟩ : ∃ d,R[k]'(by rw [Hlen.out];exact hlt) = d:=⟨_,rfl⟩
      rw [hd] at hr htk;have Htk:=Lib.hid htk;have Hol:=Lib.hid hol;have Hris:=Lib.hid hris;clear hd htk hn1 hol hris;have c1:=rwith wr A1 n1 cap1 O d hsw Hol.out Hris.out;(go_wp2_with fail);refine c1.mono ?_;rintro e w1 ⟨A2,cap2,rfl,hsw2,hsub2,hb1⟩;have hbb:=hb.trans (hb1.mono hb.size);have hsz:=hb.size;clear c1;(go_wp2_with fail);go_roundw
      case rel=>exact ⟨k + 1,A2,_,cap2,_,by omega,by go_num,rfl,(show _ = _ from Htk.out.symm),hsw2,fun x hx=>(hsub2 x hx).elim (hbs x) (fun h=>by omega),hbb⟩
      case measure=>simp [intOf];omega
    · have e : R.take k = R:=List.take_of_length_le (by rw [Hlen.out];omega);have hO':=hO.out;rw [e] at hO';subst hO';subst hn1;clear hO e;(go_wp2_with fail);go_ret;exact ⟨A1,cap1,rfl,hsw,hbs,hb⟩
set_option maxHeartbeats 1000000 in
theorem rboth (w : World) (A B : Option Addr) (n m cap cap' : Nat) (X Y : List Id32) (hx : TagsIn w A n X) (hy : TagsIn w B m Y) (hn : n ≤ 500000) (hm : m ≤ 500000) :
    Calls Tryz.prog 216 #[.slice A n cap,.slice B m cap'] w fun e w'=>∃ A' cap',e = .returned (.slice A' (sortC cmpId (X ++ Y)).length cap') ∧ IdsW w' A' (sortC cmpId (X ++ Y)).length cap' (sortC cmpId (X ++ Y)) ∧ (∀ x ∈ blk A',w.heap.size ≤ x) ∧ Below w.heap.size w w':=by
  have hlx:=hx.len;have hlen:=hy.len;have hXl:=sortC_length (c:=cmpId) X;rw [hlx] at hXl;have Hlen:=Lib.hid hlen;have Hlx:=Lib.hid hlx;clear hlen hlx;have c0:=rset w A n cap X hx (by omega);go_enter Tryz.func216,Tryz.ntmps216
  (go_wp2_with fail);refine c0.mono ?_;rintro e w1 ⟨A1,cap1,rfl,hs1,hbs1,hb1⟩;clear c0;(go_wp2_with fail);go_loopw [5,6] (fun out i wr=>∃ (k : Nat) (A2 : Option Addr) (n2 cap2 : Nat) (O : List Id32),k ≤ m ∧ i = .int .i64 k ∧ out = .slice A2 n2 cap2 ∧ Hid (O = sortC cmpId (X ++ Y.take k)) ∧ IdsW wr A2 n2 cap2 O ∧ (∀ x ∈ blk A2,w.heap.size ≤ x) ∧ Below w.heap.size w wr) (fun _ i _=>m - (intOf i).toNat)
  case atStart=>exact ⟨0,A1,_,cap1,_,Nat.zero_le _,rfl,rfl,(show _ = _ by simp),hs1,hbs1,hb1⟩
  case round =>
    obtain ⟨k,A2,n2,cap2,O,hk,rfl,rfl,hO,hsw,hbs,hb⟩:=hrel;have hn1 : O.length = n2:=by simpa using hsw.len
    by_cases hlt : k < m
    · obtain ⟨q,o,rfl,hr⟩:=TagsIn.get (SlR.below hy hb) hlt (by rw [Hlen.out];exact hlt);have htk : sortC cmpId (X ++ Y.take (k + 1)) = insC cmpId O (Y[k]'(by rw [Hlen.out];exact hlt)):=by
        rw [List.take_add_one,List.getElem?_eq_getElem (by rw [Hlen.out];exact hlt),Option.toList_some,← List.append_assoc,sortC_snoc,hO.out]
      have hol : n2 ≤ 1000000:=by have:=sortC_length (c:=cmpId) (X ++ Y.take k);rw [← hO.out] at this;simp at this;have:=Hlen.out;have:=Hlx.out;omega
      have hris : Ris cmpId O:=by rw [hO.out];exact ris_sortC totId _
      obtain ⟨d,hd⟩ : ∃ d,Y[k]'(by rw [Hlen.out];exact hlt) = d:=⟨_,rfl⟩
      rw [hd] at hr htk;have Htk:=Lib.hid htk;have Hol:=Lib.hid hol;have Hris:=Lib.hid hris;clear hd htk hn1 hol hris;have c1:=rwith wr A2 n2 cap2 O d hsw Hol.out Hris.out;(go_wp2_with fail);refine c1.mono ?_;rintro e w2 ⟨A3,cap3,rfl,hsw2,hsub2,hb2⟩;have hbb:=hb.trans (hb2.mono hb.size);have hsz:=hb.size;clear c1;(go_wp2_with fail);go_roundw
      case rel=>exact ⟨k + 1,A3,_,cap3,_,by omega,by go_num,rfl,(show _ = _ from Htk.out.symm),hsw2,fun x hx=>(hsub2 x hx).elim (hbs x) (fun h=>by omega),hbb⟩
      case measure=>simp [intOf];omega
    · have e : Y.take k = Y:=List.take_of_length_le (by rw [Hlen.out];omega);have hO':=hO.out;rw [e] at hO';subst hO';subst hn1;clear hO e;(go_wp2_with fail);go_ret;exact ⟨A2,cap2,rfl,hsw,hbs,hb⟩
end
end Go.Proofs.YtgfpjjppeldhbaaGreatDoor
