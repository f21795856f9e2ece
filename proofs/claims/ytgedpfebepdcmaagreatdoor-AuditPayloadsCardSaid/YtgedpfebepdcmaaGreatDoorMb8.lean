/- Part 8 of the texts that lead to this claim: the walks of the functions and the plain law, in order. -/
import Derived.Test.YtgedpfebepdcmaaGreatDoorMb7
import Derived.Test.YtgedpfebepdcmaaGreatDoorLayGrowA
import Derived.WideKeyEntry
import Derived.RangeFuncNested
import Derived.RangeFuncBound
import Derived.RangeFuncCalls
import Derived.RangeFuncLeaves
import Derived.Shelf.Abstract
import Derived.Shelf.RegionOpen
import Derived.WalkKit
import Derived.OwnWalkIn
import Derived.TacticsInMore
import Derived.LoopNIn
import Derived.LoopIn
namespace Go.Proofs.YtgedpfebepdcmaaGreatDoor
open Go.RowKit
set_option maxRecDepth 100000
set_option maxHeartbeats 8000000
section
open Go.RowKit Go.Shelf Stb
theorem onesA (R:List yE):∀r∈R.map yK,∀u∈r.toList,u.oneCell'=true:=fun r hr=>by
  obtain⟨x,_,rfl⟩:=List.mem_map.1 hr;exact pN x
theorem KC (w:World) (A:Option Addr) (n cap:Nat) (R:List yE) (h:q6 w A n R) (hn:n<=1000) (hA:A=none->cap=0) :
    Calls Tryz.prog 98 #[.slice A n cap] w fun e w'=>∃A' cap',e = .returned (.slice A' n cap')/\Own w' w.heap.size 168 70 A' n cap' (R.map yK)/\Below w.heap.size w w':=by
  have hnil:∀(w:World) (a:Option Addr) (n c n' c':Nat),(binOp .eql 116 (.slice a n c) (.slice none n' c') ).run Tryz.prog w = .ok (.bool a.isNone) w:=fun w a n c n' c'=>Lib.run_eql_slice_nil w _ _ a n c n' c' Tryz.underlying116;have hlen:R.length=n:=by simpa using h.1
  cases A with
  | none =>
    have hn0:n=0:=by
      rcases Nat.eq_zero_or_pos n with e | e
      · exact e
      · obtain⟨g,o,e',_⟩:=h.2 e;cases e'
    subst hn0;have hR:R = []:=List.eq_nil_of_length_eq_zero hlen;subst hR;clear h hlen;go_enter Tryz.func98,Tryz.ntmps98
    (go_wp2_with fail);go_ret;exact⟨none,0,rfl,Own.nil _ _ _ _,Below.refl _ _⟩
  | some a =>
    have hb0:Below w.heap.size w (w.alloc (.cells #[] 168)):=(Below.refl _ _).alloc (Nat.le_refl _) _;have hown0:=Own.empty w w.heap.size 168 70 (Nat.le_refl _);have hs0:SlR (w.alloc (.cells #[] 168)) (some a) n 70 (R.map yK):=SlR.below h hb0;have hone:=onesA R;have hbs0:=fun w=>gK k9 w;clear hlen;go_enter Tryz.func98,Tryz.ntmps98
    go_wp2_with (at_builtin;refine yD k9 rfl hown0 rfl hs0 hA hone (by omega) (by omega) (by simp) ?_;intro A2 cap2 w2 hown2 hk2 hsub2)
    simp only[Nat.zero_add,List.nil_append]at hown2;have hb2:Below w.heap.size w w2:=hb0.trans (hk2.below (by simp) (by simp[blk]));clear hown0 hs0 hk2 hsub2 h;(go_wp2_with fail);go_ret;exact⟨A2,cap2,by simp,hown2,hb2⟩
theorem growA0 (w:World) (n:Nat) (h0:0<n) (hn:n<=1000) :
    Calls Tryz.prog 139 #[.slice none 0 0,.int .i64 n] w fun e w'=>∃A cap,e = .returned (.slice A 0 cap)/\Own w' w.heap.size 168 70 A 0 cap []/\Below w.heap.size w w':=by
  obtain⟨i,z,hi,hz,hsz,hby,hzs⟩:=k9.info;have c:=Any8.slices_Grow_grow Tryz.layGrowAct i z hi hz (by omega) none 0 0 n [] w (Nat.le_refl _) (by omega) (by rw[hby];omega) (by omega) (by simp) (fun _=>rfl) (by simp);have e25:Tryz.layGrowAct_ren.t 25=168:=rfl;have hG:=grownCap_ge w (0+n) 0 168;have hM:=grownCap_le_maxLen w (0+n) 0 168 (by unfold maxLen;omega);rw[e25]at c;obtain⟨G,hGe⟩:∃G,grownCap w (0+n) 0 168=G:=⟨_,rfl⟩
  rw[hGe]at c hG hM;clear hGe e25;refine c.mono ?_;rintro e w' ⟨rfl,rfl⟩;obtain⟨cs,hcs⟩:∃cs,(#[]++Builtin.zeroCells z.cells (0+n-0)++Builtin.zeroCells z.cells (G-(0+n)):Array Value)=cs:=⟨_,rfl⟩
  have hsz2:cs.size=G*70:=by
    rw[<-hcs,Array.size_append,Array.size_append,size_zeroCells,size_zeroCells,hzs];simp only[List.size_toArray,List.length_nil,Nat.zero_add,Nat.sub_zero];rw[<-Nat.add_mul,show n+(G-n)=G from by omega]
  have hcs':(([]:List Value).toArray++Builtin.zeroCells z.cells (0+n-0)++Builtin.zeroCells z.cells (G-(0+n)):Array Value)=cs:=hcs;rw[hcs'];refine⟨some ⟨w.heap.size,0,none⟩,G,rfl,⟨⟨rfl,.inr ⟨w.heap.size,G,cs,rfl,Nat.le_refl _,heap_alloc_new w.drew _,Nat.zero_le _,hM,hsz2,rfl⟩⟩,rfl,by simp⟩,((Below.refl _ _).drew).alloc (Nat.le_refl _) _⟩
theorem qc (w:World) (n:Nat) (hn:n<=1000) :
    Calls Tryz.prog 139 #[.slice none 0 0,.int .i64 n] w fun e w'=>∃A cap,e = .returned (.slice A 0 cap)/\Own w' w.heap.size 168 70 A 0 cap []/\Below w.heap.size w w':=by
  rcases Nat.eq_zero_or_pos n with rfl | h0
  · go_enter Tryz.func139,Tryz.ntmps139
    (go_wp2_with fail);go_ret;exact⟨none,0,rfl,Own.nil _ _ _ _,Below.refl _ _⟩
  · exact growA0 w n h0 hn
theorem BN (w:World) (q c0:Nat) (A1 A2:Option Addr) (n1 n2 c1 c2:Nat) (R1 R2:List yE) (h1:q6 w A1 n1 R1) (h2:q6 w A2 n2 R2) (f1:A1=none->c1=0) (f2:A2=none->c2=0)
    (k0:w.cell? ⟨q,0,none⟩=some (.slice A1 n1 c1)) (k1:w.cell? ⟨q,1,none⟩=some (.slice A2 n2 c2)) (hn:n1+n2<=1000) :
    Calls Tryz.prog 99 #[.slice (some ⟨q,0,none⟩) 2 c0] w fun e w'=>∃A cap,e = .returned (.slice A (n1+n2) cap)/\Own w' w.heap.size 168 70 A (n1+n2) cap ((R1++R2).map yK)/\Below w.heap.size w w':=by
  have cg:=qc w (n1+n2) hn;rw[show((n1+n2:Nat):Int)=(n1:Int)+(n2:Int)from by omega]at cg;go_enter Tryz.func99,Tryz.ntmps99
  (go_wp2_with fail);refine wp_loop_rounds 3 ?_;rw[rounds_succ];(go_wp2_with fail);rw[rounds_succ];(go_wp2_with fail);rw[rounds_succ];(go_wp2_with fail);refine cg.mono ?_;rintro e w1 ⟨A,cap,rfl,hown,hb⟩;have k0':=(hb.cell (World.block_lt_of_cell? w _ k0)).trans k0;have k1':=(hb.cell (World.block_lt_of_cell? w _ k1)).trans k1;have t1:q6 w1 A1 n1 R1:=SlR.below h1 hb;have hq:q<w.heap.size:=World.block_lt_of_cell? w _ k0;have hone:=onesA;have hsz:=hb.size;have Hone:=Lib.hid hone;clear cg hone;(go_wp2_with fail);refine wp_loop_rounds 3 ?_;rw[rounds_succ];go_wp2_with (at_builtin;refine yD k9 rfl hown rfl t1 f1 (Hone.out _) (by omega) (by omega) (by omega) ?_;intro B1 d1 w2 hown2 hk2 hsub2)
  simp only[Nat.zero_add,List.nil_append]at hown2;have hb2:Below w.heap.size w w2:=hb.trans (hk2.below (by have:=hb.size;omega) (fun x hx=>(hown.at_base hx).1));have hsz2:=hb2.size;have k12:=(hb2.cell (World.block_lt_of_cell? w _ k1)).trans k1;have k02:=(hb2.cell (World.block_lt_of_cell? w _ k0)).trans k0;have t22:q6 w2 A2 n2 R2:=SlR.below h2 hb2;clear hk2 hsub2 hown k0' k1';rw[rounds_succ];go_wp2_with (at_builtin;refine yD k9 rfl hown2 rfl t22 f2 (Hone.out _) (by omega) (by omega) (by omega) ?_;intro B3 d3 w3 hown3 hk3 hsub3)
  simp only[<-List.map_append]at hown3;have hb3:Below w.heap.size w w3:=hb2.trans (hk3.below (by have:=hb2.size;omega) (fun x hx=>(hown2.at_base hx).1));have k03:=(hb3.cell (World.block_lt_of_cell? w _ k0)).trans k0;have Hown3:=Lib.hid hown3;clear hk3 hsub3 hown2 k02 k12 hown3;rw[rounds_succ];(go_wp2_with fail);go_ret;exact⟨B3,d3,rfl,Hown3.out,hb3⟩
end
section
open Go.RowKit
section
variable {κ ν:Type} {P:Program} {K T E':TypeId} {kv:κ->Value} {vv:ν->Value} {ok:κ->Prop} {w:World} {b:Nat} {M:List (κ×ν)} {es:Array MapEntry} {clk:Nat}
theorem qT.at_heap {w':World} (h:qT w b kv vv ok M es clk) (hw:w'.heap[b]? = some (.map es clk)):qT w' b kv vv ok M es clk:={ h with heap:=hw }
theorem qT.entry [DecidableEq κ] (h:qT w b kv vv ok M es clk) (E:dW P K kv ok) (ht:P.underlying T=some (.map K E')) {z0:ν} (hz:∀w,(zeroValue E').run P w = .ok (vv z0) w) {k:κ} (hk:ok k) :
    ∃(v0:ν) (st:Int) (w1:World),(Instr.mapEntry T (.map (some b)) (kv k)).run P w = .ok (.tuple #[vv v0,.int .i64 st]) w1/\((k,v0)∈M\/(k∉M.map (·.1)/\v0=z0))/\z4 [b] w w1/\w1.heap.size=w.heap.size /\
      ∀(w2:World) (v:ν),w2.heap[b]? = w1.heap[b]?->∃(w3:World) (es3:Array MapEntry) (clk3:Nat),(Instr.entryStore T (.map (some b)) (.int .i64 st) (vv v)).run P w2 = .ok () w3/\qT w3 b kv vv ok (gB M k v) es3 clk3/\z4 [b] w2 w3/\w3.heap.size=w2.heap.size:=by
  obtain⟨l,hl⟩:=E.key k hk;rcases h.find E hk with⟨hf,hno⟩ | ⟨j,p,hf,hp,hpk⟩
  · refine⟨z0,clk,_,?_,.inr ⟨hno,rfl⟩,bI w b (.map (es.push { key:=kv k,val:=vv z0,born:=clk }) (clk+1)),by simp,fun w2 v hw2=>?_⟩
    · simp only[Instr.mapEntry,Sem.run_bind,run_underlying ht,Result.andThen_ok,qM h.heap,E.law.check w false hl,hf,hz,vU h.heap,goInt,Sem.run_pure]
    · rw[vW _ h.lt]at hw2;obtain⟨w',es',clk',hrun,hm',_⟩:=h.update E ht hk (v:=v);have hrun2:(Instr.mapUpdate T (.map (some b)) (kv k) (vv v)).run P w = .ok () { w with heap:=w.heap.setIfInBounds b (.map (es.push { key:=kv k,val:=vv v,born:=clk }) (clk+1)) }:=by
        simp only[Instr.mapUpdate,Sem.run_bind,run_underlying ht,Result.andThen_ok,qM h.heap,E.law.check w false hl,hf,vU h.heap]
      rw[hrun2]at hrun;injection hrun with _ hw'
      subst hw';have hh:=hm'.heap;rw[vW _ h.lt]at hh;injection hh with hh
      injection hh with e1 e2
      subst e1;subst e2;have hidx:(es.push { key:=kv k,val:=vv z0,born:=clk }).findIdx? (fun e=>((e.born:Nat):Int)==((clk:Nat):Int))=some es.size:=by
        rw[WideElems.findIdx_arr];exact WideElems.findIdx_born (l:=(es.push { key:=kv k,val:=vv z0,born:=clk }).toList) (j:=es.size) (e0:={ key:=kv k,val:=vv z0,born:=clk }) (by
          simp only[Array.toList_push,List.map_append,List.map_cons,List.map_nil];refine List.nodup_append.2 ⟨h.born,by simp,fun a ha c hc e1=>?_⟩;simp only[List.mem_singleton]at hc;obtain⟨x,hx,rfl⟩:=List.mem_map.1 ha;have:=h.clock x hx;omega) (by simp)
      have hmod:(es.push { key:=kv k,val:=vv z0,born:=clk }).modify es.size (fun e=>{ e with val:=vv v })=es.push { key:=kv k,val:=vv v,born:=clk }:=by
        apply Array.ext';rw[Array.toList_modify,Array.toList_push,Array.toList_push,<-Array.length_toList,WideElems.modify_last]
      have hb2:b<w2.heap.size:=(Array.getElem?_eq_some_iff.1 hw2).1;refine⟨_,_,_,?_,hm'.at_heap (vW (w:=w2) _ hb2),bI w2 b _,by simp⟩;simp only[Instr.entryStore,Sem.run_bind,qM hw2,Result.andThen_ok,asInt,asIntOf,Sem.run_pure,hidx,hmod,vU hw2]
  · obtain⟨e0,he0,hek,hev⟩:=h.at_ hp;have hj:es[j]? = some e0:=by simpa using he0
    have hold:((es[j]?).map (·.key)).getD (kv k)=kv k:=by rw[hj];simp[hek,hpk]
    have hborn:((es[j]?).map fun x=>((x.born:Nat):Int)).getD 0=((e0.born:Nat):Int):=by rw[hj];rfl
    have hsame:es.modify j (fun e=>{ e with key:=kv k })=es:=by
      apply Array.ext';rw[Array.toList_modify,ChangeMaps.modify_eq_set _ _ _ _ he0];have e1:({ e0 with key:=kv k }:MapEntry)=e0:=by rw[<-hpk,<-hek]
      rw[e1];exact WideElems.set_self _ _ _ he0
    refine⟨p.2,e0.born,_,?_,.inl ?_,bI w b (.map es clk),by simp,fun w2 v hw2=>?_⟩
    · simp only[Instr.mapEntry,Sem.run_bind,run_underlying ht,Result.andThen_ok,qM h.heap,E.law.check w false hl,hf,hold,hborn,E.law.stays w hl,hsame,vU h.heap,goInt,Sem.run_pure]
    · rw[<-hpk];exact List.mem_of_getElem? hp
    · rw[vW _ h.lt]at hw2;obtain⟨w',es',clk',hrun,hm',_⟩:=h.update E ht hk (v:=v);have hrun2:(Instr.mapUpdate T (.map (some b)) (kv k) (vv v)).run P w = .ok () { w with heap:=w.heap.setIfInBounds b (.map (es.modify j fun e=>{ e with key:=kv k,val:=vv v }) clk) }:=by
        simp only[Instr.mapUpdate,Sem.run_bind,run_underlying ht,Result.andThen_ok,qM h.heap,E.law.check w false hl,hf,hold,E.law.stays w hl,vU h.heap]
      rw[hrun2]at hrun;injection hrun with _ hw'
      subst hw';have hh:=hm'.heap;rw[vW _ h.lt]at hh;injection hh with hh
      injection hh with e1 e2
      subst e1;subst e2;have hidx:es.findIdx? (fun e=>((e.born:Nat):Int)==((e0.born:Nat):Int))=some j:=by
        rw[WideElems.findIdx_arr];exact WideElems.findIdx_born h.born he0
      have hmod:es.modify j (fun e=>{ e with val:=vv v })=es.modify j (fun e'=>{ e' with key:=kv k,val:=vv v }):=by
        apply Array.ext';have e1:e0.key=kv k:=by rw[hek,hpk]
        rw[Array.toList_modify,Array.toList_modify,ChangeMaps.modify_eq_set _ _ _ _ he0,ChangeMaps.modify_eq_set _ _ _ _ he0,<-e1]
      have hb2:b<w2.heap.size:=(Array.getElem?_eq_some_iff.1 hw2).1;refine⟨_,_,_,?_,hm'.at_heap (vW (w:=w2) _ hb2),bI w2 b _,by simp⟩;simp only[Instr.entryStore,Sem.run_bind,qM hw2,Result.andThen_ok,asInt,asIntOf,Sem.run_pure,hidx,hmod,vU hw2]
end
end
section
open Go.RowKit Go.Shelf Stb
attribute [local go_sem] Oper.semAt_some
def Kq (n0 gm:Nat) (W W':World):Prop:=W.heap.size<=W'.heap.size/\∀x,x<n0->x≠gm->W'.heap[x]? = W.heap[x]?
theorem Kq.refl (n0 gm:Nat) (W:World):Kq n0 gm W W:=⟨Nat.le_refl _,fun _ _ _=>rfl⟩
theorem Kq.trans {n0 gm:Nat} {A B C:World} (h:Kq n0 gm A B) (k:Kq n0 gm B C):Kq n0 gm A C:=⟨Nat.le_trans h.1 k.1,fun x h1 h2=>(k.2 x h1 h2).trans (h.2 x h1 h2)⟩
theorem kq_acts {n0 gm:Nat} {W W':World} {A:Option Addr} {n:Nat} {zs:List yE} (k:Kq n0 gm W W') (h:q6 W A n zs) (hA:∀x∈blk A,x<n0/\x≠gm):q6 W' A n zs :=
  ⟨h.1,fun h0=>by
    obtain⟨q,o,e,hc⟩:=h.2 h0;refine⟨q,o,e,fun i hi=>?_⟩;have hq:=hA q (by simp[blk,e]);rw[zB (k.2 q hq.1 hq.2)];exact hc i hi⟩
def ZR (zs:List yE) (k:Nat):Nat×yE:=(zs.length-1-k,zs[zs.length-1-k]?.getD ⟨r7,none,0⟩)
def wL (zs:List yE) (k:Nat):List (Nat×yE):=(List.range k).map (ZR zs)
theorem KH (zs:List yE) (k:Nat):wL zs (k+1)=wL zs k ++ [ZR zs k]:=by simp[wL,List.range_succ]
theorem YY (zs:List yE) (k:Nat):(wL zs k).length=k:=by simp[wL]
theorem qy (zs:List yE):(wL zs zs.length).map (·.2)=zs.reverse:=by
  apply List.ext_getElem
  · simp[wL]
  · intro i h1 h2;simp[wL]at h1;have hl:zs.length-1-i<zs.length:=by omega
    simp only[wL,ZR,List.map_map,List.getElem_map,List.getElem_range,Function.comp_apply,List.getElem_reverse];rw[List.getElem?_eq_getElem hl];rfl
theorem back1_in (n:Nat) (hn:1<=n) (l Bs n0 gm:Nat) (A:Option Addr) (zs:List yE) (cap:Nat) (J Jx:List (Nat×yE)->World->Prop)
    (hY:∀pre x W,J pre W->pre.length<zs.length->YieldAt Fence.wide (n-1) Tryz.prog l #[.int .i64 (x.1:Nat),.agg (yK x.2)] W fun e W' =>
      (e = .returned (.bool true)/\J (pre ++ [x]) W'/\Kq n0 gm W W')\/(e = .returned (.bool false)/\Jx (pre ++ [x]) W'))
    (W:World) (hBs:W.cell? ⟨Bs,0,none⟩=some (.slice A zs.length cap)) (hBl:Bs<n0/\Bs≠gm) (hz:q6 W A zs.length zs) (hA:∀x∈blk A,x<n0/\x≠gm) (hzl:zs.length<=1000) (h0:J [] W) :
    CallsIn Fence.wide n Tryz.prog 164 #[.func (.yield l) #[] #[],.pointer (some ⟨Bs,0,none⟩)] W fun e W'=>(∃v,e = .returned v) /\
      ((∃ys,ys=wL zs zs.length/\J ys W')\/(∃pre,True/\Jx pre W')):=by
  refine callsIn_of_wp Tryz.func164 rfl trivial ?_ rfl;simp only[Tryz.ntmps164,List.size_toArray,List.length_cons,List.length_nil,Nat.reduceAdd,Nat.reduceSub,Array.replicate_succ,Array.replicate_zero,List.push_toArray,List.append_toArray,List.nil_append,List.cons_append]
  gi_wp2
  gi_loopw [3] (fun i wr=>∃k:Nat,k<=zs.length/\i = .int .i64 ((zs.length:Int)-1-k)/\J (wL zs k) wr/\Kq n0 gm W wr)
    (fun i _=>(intOf i+1).toNat)
  case atStart=>exact⟨0,Nat.zero_le _,by simp,h0,Kq.refl _ _ _⟩
  case round =>
    obtain⟨k,hk,rfl,hJs,hnx⟩:=hrel;have hBr:wr.cell? ⟨Bs,0,none⟩=some (.slice A zs.length cap):=(World.cell?_of_block (w:=W) (hnx.2 Bs hBl.1 hBl.2)).trans hBs;by_cases hlt:k<zs.length
    · have hzr:=kq_acts hnx hz hA;obtain⟨q,o,rfl,hrow⟩:=q6.get hzr (i:=zs.length-1-k) (by omega) (by omega);have hx:ZR zs k=(zs.length-1-k,zs[zs.length-1-k]'(by omega)):=by unfold ZR;rw[List.getElem?_eq_getElem (by omega)];rfl
      obtain⟨fn,tmps,assign,body,hy,hR⟩:=hY _ (ZR zs k) wr hJs (by rw[YY];exact hlt);rw[<-KH]at hR;rw[hx]at hy;dsimp only at hy;obtain⟨x,hxx⟩:∃x,zs[zs.length-1-k]'(by omega)=x:=⟨_,rfl⟩
      rw[hxx]at hrow hy;obtain⟨m,hm⟩:∃m,zs.length-1-k=m:=⟨_,rfl⟩
      have hmi:((zs.length:Int)-1-(k:Int))=(m:Int):=by omega
      rw[hm]at hrow hy;rw[hmi];have Hm:=Lib.hid hm;have hml:m<zs.length:=by omega
      clear hx hxx hm hmi hzr
      gi_wp2
      refine hR.mono ?_;rintro e W3 (⟨rfl,hJ3,hk3⟩ | ⟨rfl,hJx3⟩)
      · have hk4:=hnx.trans hk3;clear hR hy hrow hBr hJs hnx hk3
        gi_wp2
        go_roundw
        case rel=>exact⟨k+1,by omega,by have:=Hm.out;go_num,hJ3,hk4⟩
        case measure=>simp[intOf]
      · clear hR hy hrow hBr hJs hnx
        gi_wp2
        refine bodyPost_ret (results_none rfl _ _ _) rfl ?_;exact⟨⟨_,rfl⟩,.inr ⟨_,trivial,hJx3⟩⟩
    · obtain rfl:k=zs.length:=by omega
      have hmi:((zs.length:Int)-1-(zs.length:Int)) = -1:=by omega
      rw[hmi]
      gi_wp2
      go_end0;exact⟨⟨_,rfl⟩,.inl ⟨_,rfl,hJs⟩⟩
theorem back_any (A:Option Addr) (n cap:Nat) (w:World):Calls Tryz.prog 138 #[.slice A n cap] w fun e w'=>e = .returned (.func (.func 164) #[] #[.pointer (some ⟨w.heap.size,0,none⟩)])/\w'=w.alloc (.cells #[.slice A n cap] 116):=by
  go_enter Tryz.func138,Tryz.ntmps138
  (go_wp2_with fail);go_ret;exact⟨rfl,rfl⟩
theorem KG (n:Nat) (hn:1<=n) (Bs n0 gm:Nat) (A:Option Addr) (zs:List yE) (cap:Nat) (w:World) (hBs:w.cell? ⟨Bs,0,none⟩=some (.slice A zs.length cap)) (hBl:Bs<n0/\Bs≠gm) (hz:q6 w A zs.length zs) (hA:∀x∈blk A,x<n0/\x≠gm) (hzl:zs.length<=1000) (hn0:n0<=w.heap.size) :
    SeqStopsK Fence.wide n Tryz.prog 164 #[.pointer (some ⟨Bs,0,none⟩)] (fun x:Nat×yE=>#[.int .i64 (x.1:Nat),.agg (yK x.2)]) (Kq n0 gm) (fun ys=>ys=wL zs zs.length) (fun _=>True) zs.length w:=fun l J Jx W hW _ _ hY h0 =>
  back1_in n hn l Bs n0 gm A zs cap J Jx hY W ((hW.cell (p:=⟨Bs,0,none⟩) (by show Bs<_;omega)).trans hBs) hBl (SlR.below hz hW) hA hzl h0
theorem KL {F:Fence} {fu:Nat} {P:Program} {ops:Array Oper} {Q:Exit->Act->World->Prop} {a:Act} {w:World} {rest:List Oper} {dst:Option Tmp} {s x:Operand} {ty:TypeId} {pos:String} {after:Array Edge} {T E:TypeId} {k bytes:Nat} (I:yY P T E k bytes)
    {B:Nat} {A:Option Addr} {n cap:Nat} {L:List (Array Value)} (hs:a.eval s = .slice A n cap) (hown:Own w B E k A n cap L)
    {q o c:Nat} {cs:Array Value} (hx:a.eval x = .slice (some ⟨q,o,none⟩) 1 c) (hrow:z9 w q o k=some cs) (hone:∀u∈cs.toList,u.oneCell'=true) (hbytes:(n+1)*bytes<=140737488355328) (hn:n+1<=9223372036854775807) (hB:B<=w.heap.size)
    (h:∀A' cap' w',Own w' B E k A' (n+1) cap' (L ++ [cs])->z4 (blk A) w w'->(∀x∈blk A',x∈blk A\/w.heap.size<=x)->wpListIn F fu P ops Q rest (a.put dst (.slice A' (n+1) cap')) w') :
    wpListIn F fu P ops Q ({ dst:=dst,op:=.call { callee:=.builtin .append,args:=#[s,x],argTypes:=#[T,T] },type:=ty,pos:=pos,after:=after,guard:=none } :: rest) a w:=by
  refine wpListIn_plain rfl fun K hK'=>?_;obtain⟨A',cap',w',hrun,h1,h2,h3⟩:=wZ I hown hrow hone hbytes hn hB ty;unfold Oper.wpIn;refine⟨?_,?_⟩
  · simp[Oper.about,resolve,Target.leads,Sem.run_pure]
  · rw[Oper.semAt_plain F _ _ (by intro c hc';cases hc')];simp[execOp,resolve,invoke,builtin,hs,hx,Result.andThen];rw[hrun];exact hK' _ _ (h A' cap' w' h1 h2 h3)
def bO (P:List yE) (r:zJ):List yE:=P.filter fun a=>decide ((oOf a.m).ref=r)
theorem pT (P:List yE) (a:yE) (r:zJ):bO (P ++ [a]) r=if(oOf a.m).ref=r then bO P r ++ [a]else bO P r:=by
  unfold bO;rw[List.filter_append];by_cases h:(oOf a.m).ref=r <;> simp[h]
structure TreeIn (w:World) (b B:Nat) (P:List yE) (BM:List (zJ×Sl)) (es:Array MapEntry) (clk:Nat):Prop where
  map:qT w b idV slV VN BM es clk
  own:∀p∈BM,Own w B 168 70 p.2.A p.2.n p.2.c ((bO P p.1).map yK)
  dis:∀p∈BM,∀q∈BM,p.1≠q.1->∀x∈blk p.2.A,x∉blk q.2.A
  no:∀r,r∉BM.map (·.1)->bO P r = []
def f7 (w:World) (b B:Nat) (P:List yE):Prop:=∃BM es clk,TreeIn w b B P BM es clk
theorem yl {w w':World} {B:Nat} {E:TypeId} {k:Nat} {A:Option Addr} {n cap:Nat} {L:List (Array Value)} {row:Option Nat} (h:Own w B E k A n cap L) (hg:w.grownBy w' row) (hr:∀r,row=some r->∃o:Obj,w.heap[r]? = some o/\o.isCells=false):Own w' B E k A n cap L:=by
  refine h.kept (z4.grown hg) fun x hx hm=>?_;cases row with
  | none=>simp at hm
  | some r =>
    have e:x=r:=by simpa using hm
    subst e;obtain⟨o,ho,hc⟩:=hr x rfl;rcases h.row.2 with⟨hv,_⟩ | ⟨g,c,cur,hv,_,hgc,_⟩
    · injection hv with h1;subst h1;simp[blk]at hx
    · injection hv with h1 h2 h3
      subst h1;have e:x=g:=by simpa[blk]using hx
      subst e;rw[hgc]at ho;injection ho with ho
      subst ho;simp[Obj.isCells]at hc
theorem f7.grown {w w':World} {b B:Nat} {P:List yE} {row:Option Nat} (h:f7 w b B P) (hb:b<B) (hg:w.grownBy w' row) (hr:∀r,row=some r->B<=r/\∃o:Obj,w.heap[r]? = some o/\o.isCells=false):f7 w' b B P:=by
  obtain⟨BM,es,clk,h⟩:=h;refine⟨BM,es,clk,h.map.kept (z4.grown hg) ?_,fun p hp=>yl (h.own p hp) hg (fun r e=>(hr r e).2),h.dis,h.no⟩;intro hm;cases row with
  | none=>simp at hm
  | some r =>
    have e:b=r:=by simpa using hm
    have:=(hr r rfl).1;omega
theorem sU (w:World):(zeroValue 116).run Tryz.prog w = .ok (.slice none 0 0) w:=by kernel_rfl
theorem f7.new (w:World) (b B:Nat) (hb:b=w.heap.size):f7 (w.alloc (.map #[] 0)) b B [] :=
  ⟨[],#[],0,qT.new w b hb,by simp,by simp,fun r _=>rfl⟩
theorem f7.below {w w':World} {b B:Nat} {P:List yE} (h:f7 w b B P) (hb:Below w.heap.size w w'):f7 w' b B P:=by
  obtain⟨BM,es,clk,h⟩:=h;exact⟨BM,es,clk,h.map.kept (z4.of_below hb) (by simp),fun p hp=>(h.own p hp).below hb,h.dis,h.no⟩
theorem f7.entry {w:World} {b B:Nat} {P:List yE} (h:f7 w b B P) (hbB:b<B) (a:yE) :
    ∃(s:Sl) (st:Int) (w1:World),(Instr.mapEntry 177 (.map (some b)) (.agg (idC (oOf a.m).ref))).run Tryz.prog w = .ok (.tuple #[.slice s.A s.n s.c,.int .i64 st]) w1 /\
      Own w1 B 168 70 s.A s.n s.c ((bO P (oOf a.m).ref).map yK)/\z4 [b] w w1/\w1.heap.size=w.heap.size /\
      ∀(w2:World) (s2:Sl),z4 (blk s.A) w1 w2->Own w2 B 168 70 s2.A s2.n s2.c ((bO P (oOf a.m).ref ++ [a]).map yK)->(∀x∈blk s2.A,x∈blk s.A\/w1.heap.size<=x) ->
        ∃w3,(Instr.entryStore 177 (.map (some b)) (.int .i64 st) (.slice s2.A s2.n s2.c)).run Tryz.prog w2 = .ok () w3/\f7 w3 b B (P ++ [a])/\z4 [b] w2 w3/\w3.heap.size=w2.heap.size:=by
  obtain⟨BM,es,clk,hm,hown,hdis,hno⟩:=h;obtain⟨s,st,w1,hrun,hs,hk,hsz,hst⟩:=hm.entry (P:=Tryz.prog) (z0:=(⟨none,0,0⟩:Sl)) p6 Tryz.underlying177 (fun w=>sU w) (k:=(oOf a.m).ref) trivial;have hnb:∀ {p:zJ×Sl},p∈BM->∀x∈blk p.2.A,x∉[b]:=fun hp x hx=>(by have:=((hown _ hp).at_base hx).1;simp;omega);have hown1:Own w1 B 168 70 s.A s.n s.c ((bO P (oOf a.m).ref).map yK):=by
    rcases hs with hs | ⟨hs,rfl⟩
    · exact(hown _ hs).kept hk (hnb hs)
    · rw[hno _ hs];exact Own.nil _ _ _ _
  have hsb:b∉blk s.A:=fun hx=>(by have:=(hown1.at_base hx).1;omega);have hbl:b<w1.heap.size:=by have:=hm.lt;omega
  refine⟨s,st,w1,hrun,hown1,hk,hsz,fun w2 s2 hk2 ho2 hsub=>?_⟩;obtain⟨w3,es3,clk3,hrun3,hm3,hk3,hsz3⟩:=hst w2 s2 (hk2.block b hbl hsb);have hdx:∀q∈BM,q.1≠(oOf a.m).ref->∀x∈blk q.2.A,x∉blk s.A:=fun q hq hne x hx=>by
    rcases hs with hs | ⟨_,rfl⟩
    · exact hdis q hq _ hs hne x hx
    · simp[blk]
  refine⟨w3,hrun3,⟨_,es3,clk3,hm3,fun p hp=>?_,fun p hp q hq hne x hx=>?_,fun r hr=>?_⟩,hk3,hsz3⟩
  · rcases eJ hp with e | ⟨hp,hne⟩
    · subst e;dsimp only;rw[pT,if_pos rfl];exact ho2.kept hk3 (fun x hx=>by have:=(ho2.at_base hx).1;simp;omega)
    · rw[pT,if_neg (fun e=>hne e.symm)];refine(((hown p hp).kept hk (hnb hp)).kept hk2 (hdx p hp hne)).kept hk3 (hnb hp)
  · have hlt:∀q∈BM,∀x∈blk q.2.A,x<w1.heap.size:=fun q hq x hx=>(by have:=((hown q hq).at_base hx).2;omega);rcases eJ hp with e | ⟨hp,hpn⟩ <;> rcases eJ hq with e' | ⟨hq,hqn⟩
    · subst e;subst e';exact absurd rfl hne
    · subst e;intro hm;rcases hsub x hx with h1 | h1
      · exact hdx q hq hqn x hm h1
      · have:=hlt q hq x hm;omega
    · subst e';intro hm;rcases hsub x hm with h1 | h1
      · exact hdx p hp hpn x hx h1
      · have:=hlt p hp x hx;omega
    · exact hdis p hp q hq hne x hx
  · obtain⟨h1,h2⟩:=xx hr;rw[pT,if_neg (fun e=>h2 e.symm)];exact hno r h1
theorem yn {w:World} {B:Nat} {E:TypeId} {k:Nat} {A:Option Addr} {n cap:Nat} {L:List (Array Value)} (h:Own w B E k A n cap L) {x:Nat} (hx:x∈blk A):∃o:Obj,w.heap[x]? = some o/\o.isCells=true:=by
  rcases h.row.2 with⟨hv,_⟩ | ⟨g,c,cur,hv,_,hgc,_⟩
  · injection hv with h1;subst h1;simp[blk]at hx
  · injection hv with h1 h2 h3
    subst h1;have e:x=g:=by simpa[blk]using hx
    subst e;exact⟨_,hgc,rfl⟩
end
section
open Go.RowKit Go.Shelf Stb
attribute [local go_sem] Oper.semAt_some
def wT (a:yE):Bool:=decide (a.m.id≠id0)&&(decide (1<=a.m.h)&&decide (a.m.h<=1073741824))
def rR (L:List yE):List yE:=((L.filter fun a=>decide ((kM a:Int)=6)).reverse).filter wT
theorem dtree (A:Option Addr) (n cap:Nat) (L:List yE) (B:Nat) (w:World) (h:jA w B A n cap L) (hn:n<=30) :
    Calls Tryz.prog 97 #[.slice A n cap] w fun e w'=>∃gm BT,e = .returned (.map (some gm))/\f7 w' gm BT (rR L)/\w.heap.size<=gm/\gm<BT/\Below w.heap.size w w':=by
  have hmm:=@run_makeMap Tryz.prog;have hlen:L.length=n:=by simpa using h.own.len
  obtain⟨L6,hL6⟩:∃L6,(L.filter fun a=>decide ((kM a:Int)=6))=L6:=⟨_,rfl⟩
  have hl6:L6.length<=30:=by rw[<-hL6];exact Nat.le_trans (List.length_filter_le _ _) (by omega)
  have c6:=fun w' (hb:Below w.heap.size w w')=>YG 6 A n cap L B w' (h.below hb) hn;have htl:rR L=L6.reverse.filter wT:=by unfold rR;rw[hL6]
  simp only[hL6]at c6;rw[htl];have k1:=fun B=>f7.new w w.heap.size B rfl;have hb0:Below w.heap.size w ((w.alloc (.map #[] 0)).alloc (.cells #[.map (some w.heap.size)] 177)):=((Below.refl _ _).alloc (Nat.le_refl _) _).alloc (by simp) _;have k2:=fun B=>(k1 B).below ((Below.refl _ (w.alloc (.map #[] 0))).alloc (Nat.le_refl _) (.cells #[.map (some w.heap.size)] 177));have kc:((w.alloc (.map #[] 0)).alloc (.cells #[.map (some w.heap.size)] 177)).cell? ⟨w.heap.size+1,0,none⟩=some (.map (some w.heap.size)):=by simp[go_sem]
  have hz0:((w.alloc (.map #[] 0)).alloc (.cells #[.map (some w.heap.size)] 177)).heap.size=w.heap.size+2:=by simp
  clear k1 hL6 htl;refine(callsIn_wide (n:=6)).1 ?_;refine callsIn_of_wp_marks Tryz.func97 rfl trivial ?_ rfl;simp only[Tryz.ntmps97,List.size_toArray,List.length_cons,List.length_nil,Nat.reduceAdd,Nat.reduceSub,Array.replicate_succ,Array.replicate_zero,List.push_toArray,List.append_toArray,List.nil_append,List.cons_append]
  gi_wp2_with fail
  refine⟨trivial,(callsIn_wide.2 (c6 _ hb0)).mono ?_⟩;rintro e w1 ⟨A6,cap6,rfl,h6,hb1⟩;obtain⟨gm,hgm⟩:∃gm,w.heap.size=gm:=⟨_,rfl⟩
  have Hgm:=Lib.hid hgm;simp only[hgm]at k2;rw[hgm]at hz0 kc hb0 h6 hb1 |-;obtain⟨W0,hW0⟩:∃W0,(w.alloc (.map #[] 0)).alloc (.cells #[.map (some gm)] 177)=W0:=⟨_,rfl⟩
  simp only[hW0]at k2;rw[hW0]at hz0 kc hb0 h6 hb1;have kc1:=(hb1.cell (p:=⟨gm+1,0,none⟩) (by show gm+1<_;omega)).trans kc;have k3:=fun B=>(k2 B).below hb1;have hb2:Below gm w w1:=hb0.trans (hb1.mono (by omega));have hsz1:=hb1.size;have hA6:∀x∈blk A6,gm+2<=x/\x<w1.heap.size:=fun x hx=>(by have:=h6.own.at_base hx;omega);have hz6:q6 w1 A6 L6.length L6:=h6.own.slr;clear hW0 hgm c6 k2 kc hb0 hb1 h6;have hbx:Below w1.heap.size w1 (w1.alloc (.cells #[.slice A6 L6.length cap6] 116)):=(Below.refl _ _).alloc (Nat.le_refl _) _;have kc2:=(hbx.cell (p:=⟨gm+1,0,none⟩) (by show gm+1<_;omega)).trans kc1;have k4:=fun B=>(k3 B).below hbx;have hb3:Below gm w (w1.alloc (.cells #[.slice A6 L6.length cap6] 116)):=hb2.trans (hbx.mono (by omega));have hz7:q6 (w1.alloc (.cells #[.slice A6 L6.length cap6] 116)) A6 L6.length L6:=SlR.below hz6 hbx;have hbs:(w1.alloc (.cells #[.slice A6 L6.length cap6] 116)).cell? ⟨w1.heap.size,0,none⟩=some (.slice A6 L6.length cap6):=by simp[go_sem]
  have hsz2:(w1.alloc (.cells #[.slice A6 L6.length cap6] 116)).heap.size=w1.heap.size+1:=by simp
  gi_wp2_with fail
  refine⟨trivial,(callsIn_wide.2 (back_any A6 L6.length cap6 w1)).mono ?_⟩;rintro e w2 ⟨rfl,rfl⟩;obtain⟨Bs,hBs⟩:∃Bs,w1.heap.size=Bs:=⟨_,rfl⟩
  obtain⟨W2,hW2⟩:∃W2,(w1.alloc (.cells #[.slice A6 L6.length cap6] 116))=W2:=⟨_,rfl⟩
  simp only[hW2]at k4;rw[hW2]at kc2 hb3 hz7 hbs hsz2 |-;rw[hBs]at hbs hsz1 hsz2 hA6 |-;clear hW2 hBs hbx kc1 k3 hb2 hz6
  gi_wp2_with fail
  have hI:OwnFrom W2.heap.size (fun (pre:List (Nat×yE)) (W:World)=>((W.cell? ⟨gm+1,0,none⟩=some (.map (some gm))/\f7 W gm W2.heap.size ((pre.map fun x=>x.2).filter wT))/\W2.heap.size<=W.heap.size)/\Below gm w W) :=
    OwnFrom.and (fun s X Y row hs hg hr=>⟨⟨cell_kept hs.1.1 hg (fun r e=>(hr r e).2),hs.1.2.grown (B:=W2.heap.size) (by omega) hg hr⟩,Nat.le_trans hs.2 hg.size⟩) (ownFrom_below (by rw[Hgm.out];exact Nat.le_refl _) (by omega))
  refine wpIn_rangeFunc_ownH rfl (by omega) (gf:=164) (lb:=#[.pointer (some ⟨Bs,0,none⟩)]) rfl trivial (enters_of Tryz.func164 (by kernel_rfl) rfl)
    (KG 5 (by omega) Bs W2.heap.size gm A6 L6 cap6 W2 hbs (by omega) hz7 (fun x hx=>by have:=hA6 x hx;omega) (by omega) (Nat.le_refl _)) Kq.trans (fun W l o o' hl _ _ _=>⟨by simp[World.putObj],fun x hx _=>World.putObj_heap_other (by omega)⟩) (Below.refl _ _) (fun _=>rfl)
    (fun (pre:List (Nat×yE)) (W:World)=>((W.cell? ⟨gm+1,0,none⟩=some (.map (some gm))/\f7 W gm W2.heap.size ((pre.map fun x=>x.2).filter wT))/\W2.heap.size<=W.heap.size)/\Below gm w W)
    (fun _ _ _=>False)
    hI
    (fun _ _ _ _ _ hs _ _=>hs)
    ⟨⟨⟨kc2,k4 _⟩,Nat.le_refl _⟩,hb3⟩
    (fun x a' W=>∃Bx,W2.heap.size<=Bx/\W.heap[Bx]? = some (.cells (yK x.2) 168 (0,0))/\a' = { tmps:=#[.slice A n cap,undef,.map none,.pointer (some ⟨gm+1,0,none⟩),undef,.pointer (some ⟨Bx,0,none⟩),.map (some gm),.slice A n cap,.slice A6 L6.length cap6,.func (.func 164) #[] #[.pointer (some ⟨Bs,0,none⟩)],.int .i64 (x.1:Nat),.agg (yK x.2),undef,undef,undef,undef,undef,undef,undef,undef,undef,undef,undef,undef,undef,undef,undef,undef,undef,undef,undef,undef,undef,undef,undef,undef,undef],defers:=[] })
    (fun x a' _ X Y row hs hg hr=>by
      obtain⟨Bx,h1,h2,h3⟩:=hs;refine⟨Bx,h1,(hg.block Bx (Array.getElem?_eq_some_iff.1 h2).1 (fun e=>?_)).trans h2,h3⟩;obtain⟨_,o,ho,hc⟩:=hr Bx e.symm;rw[h2]at ho;injection ho with ho
      subst ho;simp[Obj.isCells]at hc)
    ?assign ?body ?done ?stop
  case assign =>
    rintro l pre ⟨xi,xa⟩ W K ⟨⟨⟨hc,ht⟩,hsW⟩,hb⟩ hK;have hbn:Below W.heap.size W (W.alloc (.cells (yK xa) 168)):=(Below.refl _ _).alloc (Nat.le_refl _) _;have hfin:=hK { tmps:=#[.slice A n cap,undef,.map none,.pointer (some ⟨gm+1,0,none⟩),undef,.pointer (some ⟨W.heap.size,0,none⟩),.map (some gm),.slice A n cap,.slice A6 L6.length cap6,.func (.func 164) #[] #[.pointer (some ⟨Bs,0,none⟩)],.int .i64 (xi:Nat),.agg (yK xa),undef,undef,undef,undef,undef,undef,undef,undef,undef,undef,undef,undef,undef,undef,undef,undef,undef,undef,undef,undef,undef,undef,undef,undef,undef],defers:=[] } (W.alloc (.cells (yK xa) 168)) ((KeepsOthers.alloc _ _).from _) ⟨hbn.size,fun x hx _=>hbn.block x (by omega)⟩ ⟨⟨⟨(hbn.cell (p:=⟨gm+1,0,none⟩) (by show gm+1<_;omega)).trans hc,ht.below hbn⟩,Nat.le_trans hsW hbn.size⟩,hb.trans (hbn.mono (by omega))⟩ ⟨W.heap.size,hsW,heap_alloc_new _ _,rfl⟩;clear hK hb ht hc
    gi_wp2
    exact hfin
  case body =>
    rintro l pre ⟨xi,xa⟩ a' W hl ⟨r,hr⟩ ⟨⟨⟨hc,ht⟩,hsW⟩,hb⟩ ⟨Bx,hBx,hx,rfl⟩ hlt;have hsn:(((pre ++ [(xi,xa)]).map fun x=>x.2).filter wT)=((pre.map fun x=>x.2).filter wT)++if wT xa then[xa]else[]:=by
      rw[List.map_append,List.filter_append];congr 1
      cases h:wT xa <;> simp[h]
    obtain⟨P,hP⟩:∃P,((pre.map fun x=>x.2).filter wT)=P:=⟨_,rfl⟩
    have hPl:P.length<=30:=by rw[<-hP];refine Nat.le_trans (List.length_filter_le _ _) ?_;rw[List.length_map];omega
    rw[hP]at hsn ht;have Hsn:=Lib.hid hsn;have hok:wT xa=(decide (xa.m.id≠id0)&&(decide (1<=xa.m.h)&&decide (xa.m.h<=1073741824))):=rfl;have Hok:=Lib.hid hok;clear hsn hP hok hlt;have hrx:z9 W Bx 0 70=some (yK xa):=by unfold z9;rw[hx];simp
    have hBl:=zI hrx;have f37:z9 W Bx 37 32=some (idC xa.m.id):=by have:=zV hrx (j:=37) (m:=32) (by omega);rwa [bV,Nat.zero_add]at this
    have f69:W.cell? ⟨Bx,69,none⟩=some (.int .i64 xa.m.h):=by have:=z8 hrx (j:=69) (by omega);rwa [iM,Nat.zero_add]at this
    have f4:z9 W Bx 4 32=some (idC (oOf xa.m).ref):=by have:=zV hrx (j:=4) (m:=32) (by omega);rwa [sT,Nat.zero_add]at this
    have hsW':Bs+1<=W.heap.size:=by omega
    have hskip:wT xa=false->KeepsFrom (Bs+1) W W/\Kq (Bs+1) gm W W/\((W.cell? ⟨gm+1,0,none⟩=some (.map (some gm))/\f7 W gm (Bs+1) (((pre ++ [(xi,xa)]).map fun x=>x.2).filter wT))/\Bs+1<=W.heap.size)/\Below gm w W:=fun h=>by
      refine⟨KeepsFrom.refl _ _,Kq.refl _ _ _,⟨⟨hc,?_⟩,hsW'⟩,hb⟩;have h2:=Hsn.out;rw[h,if_neg (by simp),List.append_nil]at h2;rw[h2,<-hsz2];exact ht
    have Hskip:=Lib.hid hskip;clear hskip;by_cases hid0:xa.m.id=id0
    · have hb1:(xa.m.id==id0)=true:=by simpa using hid0
      have hno:wT xa=false:=by rw[Hok.out];simp[hid0]
      have Hno:=Lib.hid hno;clear hid0 hno
      gi_wp2
      exact Hskip.out Hno.out
    · have hb1:(xa.m.id==id0)=false:=by simpa using hid0
      by_cases hh1:1<=xa.m.h
      · by_cases hh2:xa.m.h<=1073741824
        · have hyes:wT xa=true:=by rw[Hok.out];simp[hid0,hh1,hh2]
          have h2:=Hsn.out;rw[hyes,if_pos rfl]at h2;have Hsn2:=Lib.hid h2;clear hyes h2 hid0 Hskip;have hbn:Below W.heap.size W (W.alloc (.cells (yK xa) 168)):=(Below.refl _ _).alloc (Nat.le_refl _) _;have hrow1:z9 (W.alloc (.cells (yK xa) 168)) W.heap.size 0 70=some (yK xa):=by simp[go_sem]
          have hz1:(W.alloc (.cells (yK xa) 168)).heap.size=W.heap.size+1:=by simp
          obtain⟨s,st,w5,hrunE,hownE,hkE,hszE,hst⟩:=(ht.below hbn).entry (by omega) xa;have hrow5:z9 w5 W.heap.size 0 70=some (yK xa):=(hkE.row (by omega) (by simp;omega) _ _).trans hrow1;have hPl2:s.n<=30:=by
            have h3:=hownE.len;have h4:(bO P (oOf xa.m).ref).length<=P.length:=List.length_filter_le _ _;simp at h3;omega
          have Hst:=Lib.hid hst;have HszE:=Lib.hid hszE;have Hz1:=Lib.hid hz1;clear hst hszE hz1
          gi_wp2_with (gi_at_builtin;refine KL k9 rfl hownE rfl hrow5 (pN _) (by omega) (by omega) (by have:=HszE.out;have:=Hz1.out;omega) ?_;intro A7 cap7 w6 hown6 hk6 hsub6;obtain⟨w7,hrun7,ht7,hk7,hsz7⟩:=Hst.out w6 ⟨A7,s.n+1,cap7⟩ hk6 (by simpa using hown6) hsub6)
          have hz7:=hsz7;have hz5:=HszE.out;have hz1:=Hz1.out;have hz6:=hk6.size;have hbB:=fun x (hx:x∈blk s.A)=>(hownE.at_base hx).1;have hkAll:∀x,x<W.heap.size->x≠gm->x∉blk s.A->w7.heap[x]? = W.heap[x]?:=fun x h1 h2 h3=>by
            rw[hk7.block x (by omega) (by simpa using h2),hk6.block x (by omega) h3,hkE.block x (by omega) (by simpa using h2),hbn.block x h1]
          refine⟨⟨by omega,fun k o hk ho hno=>?_⟩,⟨by omega,fun x hx hne=>hkAll x (by omega) hne (fun hm=>by have:=hbB x hm;omega)⟩,⟨⟨?_,?_⟩,by omega⟩,?_⟩
          · have hkl:k<W.heap.size:=(Array.getElem?_eq_some_iff.1 ho).1;rw[hkAll k hkl (by omega) (fun hm=>?_),ho];obtain⟨o',ho',hc'⟩:=yn hownE hm;rw[hkE.block k (by omega) (by simp;omega),hbn.block k hkl,ho]at ho';injection ho' with ho'
            rw[<-ho',hno]at hc';cases hc'
          · rw[<-hc];exact World.cell?_of_block (w:=W) (hkAll (gm+1) (by omega) (by omega) (fun hm=>by have:=hbB _ hm;omega))
          · rw[Hsn2.out,<-hsz2];exact ht7
          · exact hb.trans ⟨(hk7.os.trans hk6.os).trans (hkE.os.trans hbn.os),(hk7.tape.trans hk6.tape).trans (hkE.tape.trans hbn.tape),(hk7.output.trans hk6.output).trans (hkE.output.trans hbn.output),by omega,fun k hk=>hkAll k (by omega) (by omega) (fun hm=>by have:=hbB _ hm;omega)⟩
        · have hno:wT xa=false:=by rw[Hok.out];simp[hh2]
          have Hno:=Lib.hid hno;clear hid0 hno
          gi_wp2
          exact Hskip.out Hno.out
      · have hno:wT xa=false:=by rw[Hok.out];simp[hh1]
        have Hno:=Lib.hid hno;clear hid0 hno
        gi_wp2
        exact Hskip.out Hno.out
  case done =>
    rintro D ys W hD rfl ⟨⟨⟨hc,ht⟩,hsW⟩,hb⟩ hK;have e1:((wL L6 L6.length).map fun x=>x.2)=L6.reverse:=qy L6;rw[e1]at ht
    gi_wp2
    refine⟨by simp,.inl ⟨_,_,rfl,run_takeDeferred hK,?_⟩⟩;exact⟨_,results_tmp rfl _ _ _,⟨gm,Bs+1,rfl,by rw[<-hsz2];exact ht.grown (B:=W2.heap.size) (by omega) (grownBy_putObj' W D _) (fun r e=>by cases e;exact⟨hD,_,hK,rfl⟩),by rw[Hgm.out];exact Nat.le_refl _,by omega,by rw[Hgm.out];exact hb.trans (belowK_b (w:=w) (by rw[Hgm.out];exact Nat.le_refl _) W D _ _ (by have:=Hgm.out;omega) hK rfl rfl)⟩⟩
  case stop =>
    rintro D c pre W _ _ h _;exact h.elim
end
theorem infoMem:(Tryz.prog.info? 239).map (·.size)=some 32:=by kernel_rfl
@[go_sem ↓] theorem loadMem_rw (a:Addr):loadVar 239 a=ldS 239 a:=rfl
@[go_sem] theorem loadMem_run (w:World) (g o:Nat):(ldS 239 ⟨g,o,none⟩).run Tryz.prog w=match z9 w g o 32 with | some cs=>.ok (.agg cs) w | none=>(loadVar 239 ⟨g,o,none⟩).run Tryz.prog w :=
  vD Tryz.underlying239 rfl infoMem w g o
@[go_sem ↓] theorem storeMem_rw (a:Addr) (v:Value):storeVar 239 a v=stS 239 a v:=rfl
theorem msame (d x:zJ) (w:World):Calls Tryz.prog 159 #[.agg (idC d),.agg (idC x)] w fun e w'=>e = .returned (.bool (d==x))/\Below w.heap.size w w':=by
  have hb:Below w.heap.size w ((w.alloc (.cells (idC d) 239)).alloc (.cells (idC x) 24)):=((Below.refl _ _).alloc (Nat.le_refl _) _).alloc (by simp) _;go_enter Tryz.func159,Tryz.ntmps159
  (go_wp2_with fail);go_ret;exact⟨rfl,hb⟩
theorem index_id (d:zJ) (A:Option Addr) (n cap:Nat) (R:List zJ) (w:World) (h:y8 w A n R) (hn:n<=1000000) :
    Calls Tryz.prog 175 #[.slice A n cap,.func (.func 159) #[.agg (idC d)] #[]] w fun e w'=>∃j:Int,e = .returned (.int .i64 j)/\(0<=j↔d∈R)/\Below w.heap.size w w':=by
  have hlen:R.length=n:=by simpa using h.1
  go_enter Tryz.func175,Tryz.ntmps175
  (go_wp2_with fail);go_loopw [8] (fun iv wr=>∃i:Nat,i<=n/\iv = .int .i64 i/\Hid (d∉R.take i)/\Below w.heap.size w wr) (fun iv _=>n-(intOf iv).toNat)
  case atStart=>exact⟨0,Nat.zero_le _,rfl,(show d∉R.take 0 by simp),Below.refl _ _⟩
  case round =>
    obtain⟨i,hi,rfl,hno,hb⟩:=hrel;by_cases hlt:i<n
    · obtain⟨q,o,rfl,hrow⟩:=y8.get (SlR.below h hb) hlt (by omega);have hmem:=List.getElem_mem (l:=R) (n:=i) (by omega);have htk:R.take (i+1)=R.take i ++ [R[i]'(by omega)]:=by rw[List.take_succ_eq_append_getElem (by omega)]
      obtain⟨x,hx⟩:∃x,R[i]'(by omega)=x:=⟨_,rfl⟩
      rw[hx]at hrow hmem htk;have Htk:=Lib.hid htk;have Hmem:=Lib.hid hmem;clear hx htk hmem;have c1:=msame d x wr;obtain⟨bb,hbb⟩:∃bb,(d==x)=bb:=⟨_,rfl⟩
      rw[hbb]at c1;have Hbb:=Lib.hid hbb;clear hbb;(go_wp2_with fail);refine c1.mono ?_;rintro e w1 ⟨rfl,hb1⟩;have hb2:=hb.trans (hb1.mono hb.size);clear c1 hb1 hb;cases bb with
      | true =>
        have e:d=x:=by simpa using Hbb.out
        have hin:d∈R:=by rw[e];exact Hmem.out
        have Hin:=Lib.hid hin;clear e hin;(go_wp2_with fail);go_ret;exact⟨_,rfl,⟨fun _=>Hin.out,fun _=>by omega⟩,hb2⟩
      | false =>
        have e:d≠x:=by simpa using Hbb.out
        have hno2:d∉R.take (i+1):=by rw[Htk.out,List.mem_append,List.mem_singleton];exact fun h=>h.elim hno.out e
        have Hno2:=Lib.hid hno2;clear hno2 e;(go_wp2_with fail);go_roundw
        case rel=>exact⟨i+1,by omega,by go_num,Hno2,hb2⟩
        case measure=>simp[intOf];omega
    · have e2:R.take i=R:=List.take_of_length_le (by omega);have hno2:=hno.out;rw[e2]at hno2;have Hno2:=Lib.hid hno2;clear e2 hno2;(go_wp2_with fail);go_ret;exact⟨_,rfl,⟨fun h=>by omega,fun h=>absurd h Hno2.out⟩,hb⟩
theorem ihas (d:zJ) (A:Option Addr) (n cap:Nat) (R:List zJ) (w:World) (h:y8 w A n R) (hn:n<=1000000) :
    Calls Tryz.prog 131 #[.slice A n cap,.agg (idC d)] w fun e w'=>e = .returned (.bool (decide (d∈R)))/\Below w.heap.size w w':=by
  have hb:Below w.heap.size w (w.alloc (.cells (idC d) 24)):=(Below.refl _ _).alloc (Nat.le_refl _) _;have c2:=index_id d A n cap R (w.alloc (.cells (idC d) 24)) (SlR.below h hb) hn;have c1:Calls Tryz.prog 158 #[.slice A n cap,.func (.func 159) #[.agg (idC d)] #[]] (w.alloc (.cells (idC d) 24)) fun e w'=>e = .returned (.bool (decide (d∈R)))/\Below (w.alloc (.cells (idC d) 24)).heap.size (w.alloc (.cells (idC d) 24)) w':=by
    clear hb
    revert c2
    generalize w.alloc (.cells (idC d) 24)=W;intro c2;go_enter Tryz.func158,Tryz.ntmps158
    (go_wp2_with fail);refine c2.mono ?_;rintro e w1 ⟨j,rfl,hj,hb1⟩;have Hj:=Lib.hid hj;clear c2 hj;(go_wp2_with fail);go_ret;exact⟨zS (by rw[decide_eq_decide];exact Hj.out),hb1⟩
  clear c2;go_enter Tryz.func131,Tryz.ntmps131
  (go_wp2_with fail);refine c1.mono ?_;rintro e w1 ⟨rfl,hb1⟩;clear c1;(go_wp2_with fail);go_ret;exact⟨rfl,xM hb hb1⟩
section
open Go.RowKit Stb
theorem sP (L:List yE) (k:Nat):ofK k (L.map yE.m)=(L.filter fun a=>decide ((kM a:Int)=(k:Int))).map yE.m:=by
  unfold ofK;rw[List.filter_map];congr 1
  refine List.filter_congr fun a _=>?_;show decide ((oOf a.m).k=k)=decide (((oOf a.m).k:Int)=(k:Int));rw[decide_eq_decide];omega
def g0 (a r:yE):Bool:=decide ((oOf r.m).val=(oOf a.m).val)&&decide (a.m.id∈(oOf r.m).refs)
theorem vt (r a:yE) (g:Nat) (w:World) (hr:g4 w r) (hl:(oOf r.m).refs.length<=1000000) (hc:z9 w g 0 70=some (yK a)) :
    Calls Tryz.prog 130 #[.agg (yK r),.pointer (some ⟨g,0,none⟩)] w fun e w'=>e = .returned (.bool (g0 a r))/\Below w.heap.size w w':=by
  have hb:Below w.heap.size w (w.alloc (.cells (yK r) 168)):=(Below.refl _ _).alloc (Nat.le_refl _) _;have hgl:=zI hc;have hc1:=(zB (hb.block g hgl) 0 70).trans hc;have hr1:z9 (w.alloc (.cells (yK r) 168)) w.heap.size 0 70=some (yK r):=by simp[go_sem]
  have hrf:=hr.below hb;have hP:g0 a r=(decide ((oOf r.m).val=(oOf a.m).val)&&decide (a.m.id∈(oOf r.m).refs)):=rfl;have HP:=Lib.hid hP;clear hP hc hr;go_enter Tryz.func130,Tryz.ntmps130
  go_upto_region 1 with fail
  obtain⟨gx,hgx⟩:∃gx,w.heap.size=gx:=⟨_,rfl⟩
  obtain⟨W,hW⟩:∃W,W=w.alloc (.cells (yK r) 168):=⟨_,rfl⟩
  have Hgx:=Lib.hid hgx;rw[hgx]at hr1 hb |-;rw[<-hW]at hr1 hrf hb hc1 |-;clear hW hgx;have f3:W.cell? ⟨gx,3,none⟩=some (.string (oOf r.m).val):=by have:=z8 hr1 (j:=3) (by omega);rwa [dM,Nat.zero_add]at this
  have f36:W.cell? ⟨gx,36,none⟩=some (.slice r.A (oOf r.m).refs.length r.c):=by have:=z8 hr1 (j:=36) (by omega);rwa [JE,Nat.zero_add]at this
  have k3:W.cell? ⟨g,3,none⟩=some (.string (oOf a.m).val):=by have:=z8 hc1 (j:=3) (by omega);rwa [dM,Nat.zero_add]at this
  have k37:z9 W g 37 32=some (idC a.m.id):=by have:=zV hc1 (j:=37) (m:=32) (by omega);rwa [bV,Nat.zero_add]at this
  have cc:=ihas a.m.id r.A (oOf r.m).refs.length r.c (oOf r.m).refs W hrf hl;obtain⟨b2,hb2⟩:∃b2,decide (a.m.id∈(oOf r.m).refs)=b2:=⟨_,rfl⟩
  rw[hb2]at cc;have Hb2:=Lib.hid hb2;clear hb2 hr1 hc1;obtain⟨v1,hv1⟩:∃v1,(oOf r.m).val=v1:=⟨_,rfl⟩
  obtain⟨v2,hv2⟩:∃v2,(oOf a.m).val=v2:=⟨_,rfl⟩
  rw[hv1]at f3;rw[hv2]at k3;have Hv1:=Lib.hid hv1;have Hv2:=Lib.hid hv2;clear hv1 hv2;obtain⟨b1,hb1⟩:∃b1:Bool,(v1.toList==v2.toList)=b1:=⟨_,rfl⟩
  have Hb1:=Lib.hid hb1;cases b1 with
  | true =>
    have hv:v1=v2:=toList_inj.1 (by simpa using Hb1.out);have hfin:g0 a r=b2:=by rw[HP.out,Hv1.out,Hv2.out,hv,Hb2.out];simp
    have Hfin:=Lib.hid hfin;clear hv hfin;(go_wp2_with fail);refine cc.mono ?_;rintro e w1 ⟨rfl,hbw⟩;clear cc;(go_wp2_with fail);go_ret;exact⟨zS Hfin.out.symm,by rw[Hgx.out];exact hb.trans (hbw.mono (by have:=hb.size;have:=Hgx.out;omega))⟩
  | false =>
    have hv:v1≠v2:=fun h=>(by have:=Hb1.out;rw[h]at this;simp at this);have hfin:g0 a r=false:=by rw[HP.out,Hv1.out,Hv2.out];simp[hv]
    have Hfin:=Lib.hid hfin;clear hv hfin cc;(go_wp2_with fail);go_ret;exact⟨zS Hfin.out.symm,by rw[Hgx.out];exact hb⟩
theorem xz (a:yE) (g:Nat) (A:Option Addr) (n cap:Nat) (L:List yE) (B:Nat) (w:World) (h:jA w B A n cap L) (hn:n<=30) (hl:∀r∈L,(oOf r.m).refs.length<=1000000) (hc:z9 w g 0 70=some (yK a)) :
    Calls Tryz.prog 157 #[.slice A n cap,.func (.func 130) #[] #[.pointer (some ⟨g,0,none⟩)]] w fun e w'=>∃j:Int,e = .returned (.int .i64 j)/\(0<=j↔L.any (g0 a)=true)/\Below w.heap.size w w':=by
  have hlen:L.length=n:=by simpa using h.own.len
  go_enter Tryz.func157,Tryz.ntmps157
  (go_wp2_with fail);go_loopw [8] (fun iv wr=>∃i:Nat,i<=n/\iv = .int .i64 i/\Hid ((L.take i).any (g0 a)=false)/\Below w.heap.size w wr) (fun iv _=>n-(intOf iv).toNat)
  case atStart=>exact⟨0,Nat.zero_le _,rfl,(show(L.take 0).any (g0 a)=false by simp),Below.refl _ _⟩
  case round =>
    obtain⟨i,hi,rfl,hno,hb⟩:=hrel;by_cases hlt:i<n
    · have hLr:=h.below hb;obtain⟨q,o,rfl,hrow⟩:=q6.get hLr.own.slr hlt (by omega);have hmem:=List.getElem_mem (l:=L) (n:=i) (by omega);have hrf:=(hLr.refs _ hmem).1;have hlx:=hl _ hmem;have htk:(L.take (i+1)).any (g0 a)=g0 a (L[i]'(by omega)):=by
        rw[List.take_succ_eq_append_getElem (by omega),List.any_append,hno.out];simp
      have hany:g0 a (L[i]'(by omega))=true->L.any (g0 a)=true:=fun h=>List.any_eq_true.2 ⟨_,hmem,h⟩;obtain⟨x,hx⟩:∃x,L[i]'(by omega)=x:=⟨_,rfl⟩
      rw[hx]at hrow hrf hlx htk hany;have hcr:=(zB (hb.block g (zI hc)) 0 70).trans hc;have c1:=vt x a g wr hrf hlx hcr;obtain⟨bb,hbb⟩:∃bb,g0 a x=bb:=⟨_,rfl⟩
      rw[hbb]at c1 htk hany;have Htk:=Lib.hid htk;have Hany:=Lib.hid hany;clear hbb htk hany hx hmem hrf hLr;(go_wp2_with fail);refine c1.mono ?_;rintro e w1 ⟨rfl,hb1⟩;have hb2:=hb.trans (hb1.mono hb.size);clear c1 hb1 hb hcr;cases bb with
      | true =>
        (go_wp2_with fail);go_ret;exact⟨_,rfl,⟨fun _=>Hany.out trivial,fun _=>by omega⟩,hb2⟩
      | false =>
        (go_wp2_with fail);go_roundw
        case rel=>exact⟨i+1,by omega,by go_num,Htk,hb2⟩
        case measure=>simp[intOf];omega
    · have e2:L.take i=L:=List.take_of_length_le (by omega);have hno2:=hno.out;rw[e2]at hno2;have Hno2:=Lib.hid hno2;clear e2 hno2;(go_wp2_with fail);go_ret;exact⟨_,rfl,⟨fun h=>by omega,fun h=>by rw[Hno2.out]at h;cases h⟩,hb⟩
theorem XW (a:yE) (A:Option Addr) (n cap:Nat) (L:List yE) (B:Nat) (w:World) (h:jA w B A n cap L) (hn:n<=30) (hl:∀r∈L,(oOf r.m).refs.length<=1000000) :
    Calls Tryz.prog 92 #[.slice A n cap,.agg (yK a)] w fun e w'=>e = .returned (.bool (L.any (g0 a)))/\Below w.heap.size w w':=by
  have hb:Below w.heap.size w (w.alloc (.cells (yK a) 168)):=(Below.refl _ _).alloc (Nat.le_refl _) _;have c2:=xz a w.heap.size A n cap L B (w.alloc (.cells (yK a) 168)) (h.below hb) hn hl (by simp[go_sem]);have c1:Calls Tryz.prog 129 #[.slice A n cap,.func (.func 130) #[] #[.pointer (some ⟨w.heap.size,0,none⟩)]] (w.alloc (.cells (yK a) 168)) fun e w'=>e = .returned (.bool (L.any (g0 a)))/\Below (w.alloc (.cells (yK a) 168)).heap.size (w.alloc (.cells (yK a) 168)) w':=by
    clear hb
    revert c2
    generalize w.alloc (.cells (yK a) 168)=W;intro c2;go_enter Tryz.func129,Tryz.ntmps129
    (go_wp2_with fail);refine c2.mono ?_;rintro e w1 ⟨j,rfl,hj,hb1⟩;have Hj:=Lib.hid hj;clear c2 hj;(go_wp2_with fail);go_ret;exact⟨zS (by have h:=Hj.out;generalize L.any (g0 a)=b at h;cases b <;> simp at h |- <;> omega),hb1⟩
  clear c2;go_enter Tryz.func92,Tryz.ntmps92
  (go_wp2_with fail);refine c1.mono ?_;rintro e w1 ⟨rfl,hb1⟩;clear c1;(go_wp2_with fail);go_ret;exact⟨rfl,xM hb hb1⟩
theorem dbag (A:Option Addr) (n cap:Nat) (L:List yE) (B:Nat) (w:World) (h:jA w B A n cap L) (hn:n<=30) (hl:∀r∈L,(oOf r.m).refs.length<=1000000) :
    Calls Tryz.prog 56 #[.slice A n cap] w fun e w'=>∃A' cap',e = .returned (.slice A' (yF yG (J8 (L.map yE.m))).length cap')/\Own w' w.heap.size 122 2 A' (yF yG (J8 (L.map yE.m))).length cap' ((yF yG (J8 (L.map yE.m))).map zN)/\Below w.heap.size w w':=by
  have hlen:L.length=n:=by simpa using h.own.len
  obtain⟨L3,hL3⟩:∃L3,(L.filter fun a=>decide ((kM a:Int)=3))=L3:=⟨_,rfl⟩
  obtain⟨L2,hL2⟩:∃L2,(L.filter fun a=>decide ((kM a:Int)=2))=L2:=⟨_,rfl⟩
  have c3:=YG 3 A n cap L B w h hn;have c2:=fun w' (hb:Below w.heap.size w w')=>YG 2 A n cap L B w' (h.below hb) hn;rw[hL3]at c3;simp only[hL2]at c2;have hl3:L3.length<=30:=by rw[<-hL3];exact Nat.le_trans (List.length_filter_le _ _) (by omega)
  have hl2:L2.length<=30:=by rw[<-hL2];exact Nat.le_trans (List.length_filter_le _ _) (by omega)
  have hlr:∀r∈L3,(oOf r.m).refs.length<=1000000:=fun r hr=>hl r (by rw[<-hL3]at hr;exact(List.mem_filter.1 hr).1);have hD:J8 (L.map yE.m)=((L2.filter fun a=>!L3.any (g0 a)).map fun a=>gM (oOf a.m).val):=by
    have e3:ofK 3 (L.map yE.m)=L3.map yE.m:=by
      rw[<-hL3];exact sP L 3
    have e2:ofK 2 (L.map yE.m)=L2.map yE.m:=by
      rw[<-hL2];exact sP L 2
    unfold J8;rw[e2,e3,List.filter_map,List.map_map];have e4:∀a:yE,V7 (L3.map yE.m) a.m=L3.any (g0 a):=fun a=>by
      unfold V7;rw[List.any_map];rfl
    have e5:((fun a=>!V7 (L3.map yE.m) a) ∘ yE.m)=fun a=>!L3.any (g0 a):=by funext a;simp only[Function.comp_apply,e4]
    rw[e5];rfl
  rw[hD];have HL:Hid (L2.length<=30):=hl2;clear hD hL3 hL2 hl h hlen;go_enter Tryz.func56,Tryz.ntmps56
  (go_wp2_with fail);refine c3.mono ?_;rintro e w1 ⟨A3,cap3,rfl,h3,hb1⟩;have c2':=c2 w1 hb1;clear c3 c2;(go_wp2_with fail);refine c2'.mono ?_;rintro e w2 ⟨A2,cap2,rfl,h2,hb2⟩;have h32:=h3.below hb2;have hb02:=xM hb1 hb2;have hz12:=hb2.size;have hz01:=hb1.size;clear c2' h3 hb1 hb2;(go_wp2_with fail);go_loopw [4,12] (fun out iv wr=>∃(i:Nat) (A4:Option Addr) (n4 cap4:Nat),i<=L2.length/\iv = .int .i64 i/\out = .slice A4 n4 cap4/\n4<=i/\Own wr w2.heap.size 122 2 A4 n4 cap4 ((((L2.take i).filter fun a=>!L3.any (g0 a)).map fun a=>gM (oOf a.m).val).map zN)/\Below w2.heap.size w2 wr) (fun _ iv _=>L2.length-(intOf iv).toNat)
  case atStart=>exact⟨0,none,0,0,Nat.zero_le _,rfl,rfl,Nat.le_refl _,Own.nil _ _ _ _,Below.refl _ _⟩
  case round =>
    obtain⟨i,A4,n4,cap4,hi,rfl,rfl,hni,hown,hb⟩:=hrel;by_cases hlt:i<L2.length
    · have hLr:=h2.below hb;obtain⟨q,o,rfl,hrow⟩:=q6.get hLr.own.slr hlt (by omega);have htk:((L2.take (i+1)).filter fun a=>!L3.any (g0 a))=((L2.take i).filter fun a=>!L3.any (g0 a))++if L3.any (g0 (L2[i]'hlt))=true then[]else[L2[i]'hlt]:=by
        rw[List.take_succ_eq_append_getElem hlt,List.filter_append];congr 1
        cases h:L3.any (g0 (L2[i]'hlt)) <;> simp[h]
      obtain⟨x,hx⟩:∃x,L2[i]'hlt=x:=⟨_,rfl⟩
      rw[hx]at hrow htk;obtain⟨P,hP⟩:∃P,((L2.take i).filter fun a=>!L3.any (g0 a))=P:=⟨_,rfl⟩
      rw[hP]at htk hown;have Htk:=Lib.hid htk;clear hx htk hP;have hb0:Below wr.heap.size wr (wr.alloc (.cells (yK x) 168)):=(Below.refl _ _).alloc (Nat.le_refl _) _;have hr0:z9 (wr.alloc (.cells (yK x) 168)) wr.heap.size 0 70=some (yK x):=by simp[go_sem]
      have ho0:=hown.below hb0;have hw0:Below w2.heap.size w2 (wr.alloc (.cells (yK x) 168)):=hb.trans (hb0.mono hb.size);go_upto_region 6 with fail
      obtain⟨gx,hgx⟩:∃gx,wr.heap.size=gx:=⟨_,rfl⟩
      obtain⟨W0,hW0⟩:∃W0,W0=wr.alloc (.cells (yK x) 168):=⟨_,rfl⟩
      rw[<-hW0]at hr0 ho0 hw0 |-;rw[hgx]at hr0 |-;clear hW0 hgx hb0 hown hb hrow hLr;have c1:=XW x A3 L3.length cap3 L3 _ W0 (h32.below hw0) hl3 hlr;obtain⟨bb,hbb⟩:∃bb,L3.any (g0 x)=bb:=⟨_,rfl⟩
      rw[hbb]at c1;have Hbb:=Lib.hid hbb;clear hbb;(go_wp2_with fail);refine c1.mono ?_;rintro e W1 ⟨rfl,hb1⟩;have hr1:z9 W1 gx 0 70=some (yK x):=(zB (hb1.block gx (zI hr0)) _ _).trans hr0;have ho1:=ho0.below hb1;have hw1:=hw0.trans (hb1.mono hw0.size);have f3:W1.cell? ⟨gx,3,none⟩=some (.string (oOf x.m).val):=by have:=z8 hr1 (j:=3) (by omega);rwa [dM,Nat.zero_add]at this
      have hws:=hw1.size;clear c1 hb1 hr0 ho0 hw0;cases bb with
      | true =>
        have htk:=Htk.out;rw[if_pos Hbb.out,List.append_nil]at htk;have Htk2:=Lib.hid htk;clear htk;(go_wp2_with fail);go_roundw
        case rel=>exact⟨i+1,A4,n4,cap4,by omega,by go_num,rfl,by omega,by rw[Htk2.out];exact ho1,hw1⟩
        case measure=>simp[intOf];omega
      | false =>
        have htk:=Htk.out;rw[if_neg (by rw[Hbb.out];simp)]at htk;have Htk2:=Lib.hid htk;clear htk;have hbx:Below W1.heap.size W1 (W1.alloc (.cells (zN ⟨(oOf x.m).val,⟨#[]⟩⟩) 122)):=(Below.refl _ _).alloc (Nat.le_refl _) _;have hown2:=ho1.below hbx;have hrow2:z9 (W1.alloc (.cells (zN ⟨(oOf x.m).val,⟨#[]⟩⟩) 122)) W1.heap.size 0 2=some (zN ⟨(oOf x.m).val,⟨#[]⟩⟩):=by simp[go_sem]
        go_upto_region 8 with(at_builtin;refine yX yL rfl hown2 rfl hrow2 (xQ _) (by omega) (by omega) (by simp;omega) ?_;intro A6 cap6 w6 hown6 hk6 hsub6)
        have hb6:Below w2.heap.size w2 w6:=(hw1.trans (hbx.mono hws)).trans (hk6.below (by simp;omega) (fun y hy=>(ho1.at_base hy).1));clear hk6 hsub6 hown2 hrow2 hbx ho1 hw1;(go_wp2_with fail);go_roundw
        case rel=>exact⟨i+1,A6,n4+1,cap6,by omega,by go_num,rfl,by omega,by rw[Htk2.out];simpa[gM]using hown6,hb6⟩
        case measure=>simp[intOf];omega
    · have e2:L2.take i=L2:=List.take_of_length_le (by omega);rw[e2]at hown;have cp:=K5 wr w2.heap.size A4 n4 cap4 _ hown (by omega) hb.size;have hb0:Below w.heap.size w wr:=xM hb02 hb;clear e2;(go_wp2_with fail);refine cp.mono ?_;rintro e w5 ⟨A5,cap5,rfl,ho5,hb5⟩;have hb05:=hb0.trans (hb5.mono (by omega));have ho6:=ho5.mono (B':=w.heap.size) (by omega);clear cp ho5 hb5 hown;(go_wp2_with fail);go_ret;exact⟨A5,cap5,rfl,ho6,hb05⟩
end
section
open Go.RowKit Stb
abbrev qZ (a:yE):zT:=jU a.m
theorem yz {a:yE} (hv:(oOf a.m).val.size<=16):wT a=okN a.m:=by
  unfold wT okN g6 jU;dsimp only;rw[if_neg (by omega)];by_cases h1:a.m.id=id0
  · simp[h1]
  · by_cases h2:1<=a.m.h
    · by_cases h3:a.m.h<=1073741824
      · have hno:¬(a.m.h<1\/1073741824<a.m.h\/a.m.id=id0):=fun h=>h.elim (fun h=>by omega) fun h=>h.elim (fun h=>by omega) h1;rw[if_neg hno];simp[h1,h2,h3]
      · rw[if_pos (.inr (.inl (by omega)))];simp[h3]
    · rw[if_pos (.inl (by omega))];simp[h2]
theorem BV {L:List yE} (hv:∀a∈L,(oOf a.m).val.size<=16):(rR L).map yE.m=(QI (L.map yE.m)).reverse:=by
  unfold rR QI;have e6:=sP L 6;rw[e6];obtain⟨L6,hL6⟩:∃L6,(L.filter fun a=>decide ((kM a:Int)=(6:Nat)))=L6:=⟨_,rfl⟩
  have hs:∀a∈L6,(oOf a.m).val.size<=16:=fun a ha=>(by rw[<-hL6]at ha;exact hv a (List.mem_filter.1 ha).1);show((L.filter fun a=>decide ((kM a:Int)=(6:Nat))).reverse.filter wT).map yE.m=_;rw[hL6,List.filter_map,<-List.map_reverse,<-List.filter_reverse];congr 1
  refine List.filter_congr fun a ha=>?_;exact yz (hs a (List.mem_reverse.1 ha))
theorem yd {L:List yE} (hv:∀a∈L,(oOf a.m).val.size<=16) (hr:Ris tY (L.map yE.m)) (h1:kL (L.map yE.m)) (r:zJ):(bO (rR L) r).map qZ=xY (sK (L.map yE.m)) r:=by
  rw[<-qx hr h1 r];have e:(bO (rR L) r).map yE.m=behD (L.map yE.m) r:=by
    unfold behD;rw[<-BV hv,List.filter_map];rfl
  rw[<-e,List.map_map];rfl
theorem jd {a b:yE} (h:yK a=yK b):qZ a=qZ b:=by
  have e1:idC a.m.id=idC b.m.id:=by rw[<-bV,<-bV,h]
  have e2:some (Value.int .i64 a.m.h)=some (.int .i64 b.m.h):=by rw[<-iM,<-iM,h]
  have e3:idC (oOf a.m).ref=idC (oOf b.m).ref:=by rw[<-sT,<-sT,h]
  have e4:some (Value.string (oOf a.m).val)=some (.string (oOf b.m).val):=by rw[<-dM,<-dM,h]
  injection e2 with e2;injection e2 with _ e2
  injection e4 with e4;injection e4 with e4
  exact zT.ext' (YN e1) e2 (YN e3) e4
theorem jc {w:World} {A:Option Addr} {n:Nat} {R S:List yE} (h:q6 w A n R) (h':q6 w A n S):R.map qZ=S.map qZ:=by
  have l1:=h.len;have l2:=h'.len;apply List.ext_getElem
  · simp[l1,l2]
  · intro i h1 h2;simp at h1 h2;obtain⟨q,o,e,hr⟩:=q6.get h (i:=i) (by omega) h1;obtain⟨q',o',e',hr'⟩:=q6.get h' (i:=i) (by omega) h2;rw[e]at e';injection e' with e'
    injection e' with e1 e2
    subst e1;subst e2;rw[hr]at hr';injection hr' with hr'
    rw[List.getElem_map,List.getElem_map];exact jd hr'
open Classical in
noncomputable def leftA (N:List zT) (w:World) (v:Value):Nat :=
  if h:∃R:List yE,∃A n c,v = .slice A n c/\q6 w A n R then(jW (xY N) zT.id (N.length+1) ((Classical.choose h).map qZ)).length else 0
theorem eO {N:List zT} {w:World} {A:Option Addr} {n c:Nat} {R:List yE} (h:q6 w A n R):leftA N w (.slice A n c)=(jW (xY N) zT.id (N.length+1) (R.map qZ)).length:=by
  have hex:∃R:List yE,∃A' n' c',Value.slice A n c = .slice A' n' c'/\q6 w A' n' R:=⟨R,A,n,c,rfl,h⟩
  unfold leftA;rw[dif_pos hex];obtain⟨A',n',c',e,h'⟩:=Classical.choose_spec hex;injection e with e1 e2 e3
  subst e1;subst e2;rw[jc h' h]
theorem f7.look {w:World} {b B:Nat} {P:List yE} (h:f7 w b B P) (r:zJ) :
    ∃s:Sl,SlW w s.A s.n s.c 70 ((bO P r).map yK)/\∀w',Below w.heap.size w w'->(Instr.lookup 177 (.map (some b)) (.agg (idC r)) false).run Tryz.prog w' = .ok (.slice s.A s.n s.c) w':=by
  obtain⟨BM,es,clk,hm,hown,_,hno⟩:=h;by_cases hr:r∈BM.map (·.1)
  · obtain⟨p,hp,rfl⟩:=List.mem_map.1 hr;exact⟨p.2,(hown p hp).slw,fun w' hb=>(hm.kept (z4.of_below hb) (by simp)).hit p6 Tryz.underlying177 trivial hp false⟩
  · refine⟨⟨none,0,0⟩,?_,fun w' hb=>(hm.kept (z4.of_below hb) (by simp)).miss p6 Tryz.underlying177 (sU w') trivial hr false⟩;rw[hno r hr];exact SlW.none_
@[go_sem ↓] theorem slAct_rw (x:Value) (lo hi mx:Option Value):Instr.sliceAt 116 x lo hi mx=slS 116 x lo hi mx:=rfl
@[go_sem] theorem bsActs2_run (w:World) (A B:Option Addr) (n m a b:Nat):(Instr.buildSlice 218 2 #[(0,.slice A n a),(1,.slice B m b)]).run Tryz.prog w = .ok (.slice (some ⟨w.heap.size,0,none⟩) 2 2) (w.alloc (.cells #[.slice A n a,.slice B m b] 116)):=by kernel_rfl
theorem dlist (A:Option Addr) (n cap:Nat) (L:List yE) (B:Nat) (w:World) (h:jA w B A n cap L) (hn:n<=30) (hv:∀a∈L,(oOf a.m).val.size<=16) (hr:Ris tY (L.map yE.m)) (h1:kL (L.map yE.m)) :
    Calls Tryz.prog 59 #[.slice A n cap] w fun e w'=>∃A' n' cap',e = .returned (.slice A' n' cap')/\Own w' w.heap.size 122 2 A' n' cap' ((pS (j4 (sK (L.map yE.m))) (s8 (L.map yE.m))).map zN)/\Below w.heap.size w w':=by
  have hlen:L.length=n:=by simpa using h.own.len
  have hmm:=@run_makeMap Tryz.prog;have k1:=qQ.new (kv:=idV) (ok:=VN) w w.heap.size rfl;have hb0:Below w.heap.size w (w.alloc (.map #[] 0)):=(Below.refl _ _).alloc (Nat.le_refl _) _;have h0:=h.below hb0;have hkids:=fun r=>yd hv hr h1 r;have hf:=rX h1;obtain⟨N,hN⟩:∃N,sK (L.map yE.m)=N:=⟨_,rfl⟩
  have hNl:N.length<=30:=by rw[<-hN];refine Nat.le_trans (ku _) ?_;rw[List.length_map];omega
  obtain⟨L7,hL7⟩:∃L7,(L.filter fun a=>decide ((kM a:Int)=7))=L7:=⟨_,rfl⟩
  have hG:s8 (L.map yE.m)=L7.map fun a=>(oOf a.m).ref:=by
    unfold s8;have e7:=sP L 7;rw[e7,List.map_map,<-hL7];rfl
  have hl7:L7.length<=30:=by rw[<-hL7];exact Nat.le_trans (List.length_filter_le _ _) (by omega)
  have c7:=fun w' (hb:Below w.heap.size w w')=>YG 7 A n cap L B w' (h.below hb) hn;have ct:=fun w' (hb:Below w.heap.size w w')=>dtree A n cap L B w' (h.below hb) hn;simp only[hL7]at c7;obtain⟨P,hP⟩:∃P,rR L=P:=⟨_,rfl⟩
  simp only[hP]at ct hkids;simp only[hN]at hkids;obtain⟨G,hGG⟩:∃G,s8 (L.map yE.m)=G:=⟨_,rfl⟩
  rw[hGG]at hG |-;rw[hN]at hf |-;have hdeep:=hf.deep;have hord:j4 N=jW (xY N) zT.id (N.length+1) (xY N id0):=e9 hdeep;have hD0:∀c∈xY N id0,Deep (xY N) zT.id (N.length+1) c.id:=fun c hc=>lS (hdeep c hc);have Hf:=Lib.hid hf;have Hord:=Lib.hid hord;have HD0:=Lib.hid hD0;have Hkids:=Lib.hid hkids;have HG:=Lib.hid hG;clear hN hL7 hGG hP hdeep hord hD0 hf hkids hG hv hr h1 h hlen;go_enter Tryz.func59,Tryz.ntmps59
  go_upto_region 2 with fail
  obtain⟨gm,hgm⟩:∃gm,w.heap.size=gm:=⟨_,rfl⟩
  have hgs:(w.alloc (.map #[] 0)).heap.size=gm+1:=by simp[hgm]
  have c7':=c7 _ hb0;obtain⟨W,hW⟩:∃W,w.alloc (.map #[] 0)=W:=⟨_,rfl⟩
  rw[hW]at k1 hb0 hgs h0 c7';rw[hW,hgm];rw[hgm]at k1 hb0;simp only[hgm]at ct;have Hgm:=Lib.hid hgm;clear hW hgm c7;(go_wp2_with fail);refine c7'.mono ?_;rintro e w1 ⟨A7,cap7,rfl,h7,hb1⟩;have k2:=qQ.below k1 hb1;have hb01:Below gm w w1:=hb0.trans (hb1.mono (by omega));have h7o:=h7.own;have hA7:∀x∈blk A7,W.heap.size<=x:=fun x hx=>(h7o.at_base hx).1;have hz1:=hb1.size;clear c7' h7 k1 hb0 hb1 h0;(go_wp2_with fail);go_loopw [14] (fun iv wr=>∃(i:Nat),i<=L7.length/\iv = .int .i64 i/\lF wr gm ((L7.take i).map fun a=>(oOf a.m).ref)/\z4 [gm] w1 wr) (fun iv _=>L7.length-(intOf iv).toNat)
  case atStart=>exact⟨0,Nat.zero_le _,rfl,k2,z4.refl _ _⟩
  case round =>
    clear k2;obtain⟨i,hi,rfl,hset,hk⟩:=hrel;by_cases hlt:i<L7.length
    · obtain⟨q,o,rfl,hrow⟩:=q6.get (h7o.kept hk (fun x hx=>by have:=hA7 x hx;simp;omega)).slr hlt hlt;have htk:((L7.take (i+1)).map fun a=>(oOf a.m).ref)=((L7.take i).map fun a=>(oOf a.m).ref) ++ [(oOf (L7[i]'hlt).m).ref]:=by rw[List.take_succ_eq_append_getElem hlt,List.map_append];rfl
      obtain⟨x,hx⟩:∃x,L7[i]'hlt=x:=⟨_,rfl⟩
      rw[hx]at hrow htk;have Htk:=Lib.hid htk;obtain⟨X,hX⟩:∃X,((L7.take i).map fun a=>(oOf a.m).ref)=X:=⟨_,rfl⟩
      rw[hX]at Htk hset;clear hx htk hX;have hba:Below wr.heap.size wr (wr.alloc (.cells (yK x) 168)):=(Below.refl _ _).alloc (Nat.le_refl _) _;have hra:z9 (wr.alloc (.cells (yK x) 168)) wr.heap.size 0 70=some (yK x):=by simp[go_sem]
      have hsa:=qQ.below hset hba;have hka:z4 [gm] w1 (wr.alloc (.cells (yK x) 168)):=z4.trans hk (z4.of_below hba) (by simp);go_upto_region 5 with fail
      obtain⟨gx,hgx⟩:∃gx,wr.heap.size=gx:=⟨_,rfl⟩
      obtain⟨W0,hW0⟩:∃W0,W0=wr.alloc (.cells (yK x) 168):=⟨_,rfl⟩
      rw[<-hW0]at hra hsa hka |-;rw[hgx]at hra |-;clear hW0 hgx hba hset hk hrow;have f4:z9 W0 gx 4 32=some (idC (oOf x.m).ref):=by have:=zV hra (j:=4) (m:=32) (by omega);rwa [sT,Nat.zero_add]at this
      obtain⟨w5,hrun,hs5,hk5⟩:=iput (x:=(oOf x.m).ref) hsa;have hkd:z4 [gm] w1 w5:=z4.trans hka hk5 (fun y hy=>.inl hy);have hs6:lF w5 gm (((L7.take (i+1)).map fun a=>(oOf a.m).ref)):=qQ.congr hs5 (fun y=>by rw[Htk.out,List.mem_append,List.mem_singleton,List.mem_cons];exact Or.comm);clear hsa hka hs5 hk5 hra;(go_wp2_with fail);go_roundw
      case rel=>exact⟨i+1,by omega,by go_num,hs6,hkd⟩
      case measure=>simp[intOf];omega
    · have e2:L7.take i=L7:=List.take_of_length_le (by omega);rw[e2,<-HG.out]at hset;have hbw:Below gm w wr:=hb01.trans (hk.below (B:=gm) (by omega) (by simp));have ct':=ct wr hbw;have hsw:=hk.size;clear e2 hk h7o ct;(go_wp2_with fail);refine ct'.mono ?_;rintro e w2 ⟨gt,BT,rfl,ht,hgt,hgBT,hb2⟩;have hbw2:Below gm w w2:=hbw.trans (hb2.mono (by omega));have hset2:=qQ.below hset hb2;have hz2:=hb2.size;obtain⟨s0,hs0,hl0⟩:=ht.look id0;have hl0':=hl0 w2 (Below.refl _ _);have hs0n:(bO P id0).length=s0.n:=by have:=hs0.len;simpa using this
      have hkl0:(bO P id0).length<=30:=by have e:=congrArg List.length (Hkids.out id0);rw[List.length_map]at e;have:=fV N id0;omega
      have cc:=KC w2 s0.A s0.n s0.c (bO P id0) hs0.rd (by omega) hs0.nil;clear ct' hset hb2 hl0;(go_wp2_with fail);refine cc.mono ?_;rintro e V ⟨A0,cap0,rfl,ho0,hbV⟩;have htV:=ht.below hbV;have hsetV:=qQ.below hset2 hbV;have hbwV:Below gm w V:=hbw2.trans (hbV.mono (by omega));have hzV:=hbV.size;have hA0:∀x∈blk A0,x<V.heap.size:=fun x hx=>(ho0.at_base hx).2;have hsl0:=ho0.slw;have hR0:(bO P id0).map qZ=xY N id0:=Hkids.out id0;have HR0:=Lib.hid hR0;clear cc ht hset2 hbw2 hbV ho0 hl0' hs0 hR0;(go_wp2_with fail);go_loopw [7,8] (fun todo out wr=>∃(X:List zT) (R:List yE) (A1:Option Addr) (n1 cap1:Nat) (A2:Option Addr) (n2 cap2:Nat),out = .slice A1 n1 cap1/\todo = .slice A2 n2 cap2/\Own wr V.heap.size 122 2 A1 n1 cap1 ((pS X G).map zN)/\SlW wr A2 n2 cap2 70 (R.map yK)/\(∀x∈blk A2,x∉blk A1)/\Hid (X++jW (xY N) zT.id (N.length+1) (R.map qZ)=j4 N)/\Hid (∀c∈R.map qZ,Deep (xY N) zT.id (N.length+1) c.id)/\Below V.heap.size V wr) (fun todo _ wr=>leftA N wr todo)
      case atStart=>exact⟨[],bO P id0,none,0,0,A0,s0.n,cap0,rfl,rfl,Own.nil _ _ _ _,hsl0,by simp[blk],(show _=_ by rw[HR0.out,Hord.out];rfl),(show ∀c∈_,_ by rw[HR0.out];exact HD0.out),Below.refl _ _⟩
      case round =>
        clear hsl0;obtain⟨X,R,A1,n1,cap1,A2,n2,cap2,rfl,rfl,hown,hsw2,hdis,hinv,hdp,hb⟩:=hrel;have hn1:(pS X G).length=n1:=by simpa using hown.len
        have hn2:R.length=n2:=by simpa using hsw2.len
        have hpx:=ki X G;have hrl:=fL Hf.out;rw[<-hinv.out,List.length_append]at hrl;have hn1b:n1<=30:=by omega
        have hrr:R.length<=(jW (xY N) zT.id (N.length+1) (R.map qZ)).length:=by
          have:∀row:List zT,row.length<=(jW (xY N) zT.id (N.length+1) row).length:=by
            intro row;induction row with
            | nil=>exact Nat.zero_le _
            | cons d row ih =>
              unfold jW at ih |-;rw[List.flatMap_cons,List.length_append,List.length_cons,List.length_cons];omega
          simpa using this (R.map qZ)
        have hn2b:n2<=30:=by omega
        have hms:leftA N wr (.slice A2 n2 cap2)=(jW (xY N) zT.id (N.length+1) (R.map qZ)).length:=eO hsw2.rd;have Hms:=Lib.hid hms;have hzr:=hb.size;cases R with
        | nil =>
          have hn0:n2=0:=by simpa using hn2.symm
          subst hn0;have hX2:X=j4 N:=by have:=hinv.out;simpa[jW]using this
          subst hX2;clear hinv hdp hrl hrr hn1 hn2 hpx hms;(go_wp2_with fail);go_ret;exact⟨A1,n1,cap1,rfl,by rw[Hgm.out];exact hown.mono (by omega),by rw[Hgm.out];exact hbwV.trans (hb.mono (by omega))⟩
        | cons d R' =>
          have hn2p:n2=R'.length+1:=by simpa using hn2.symm
          subst hn2p;obtain⟨q,o,rfl,hrow⟩:=q6.get hsw2.rd (i:=0) (by omega) (by simp);rw[Nat.zero_mul,Nat.add_zero,List.getElem_cons_zero]at hrow;have hdd:=hdp.out (qZ d) (by simp);have hinv2:X ++ [qZ d]++jW (xY N) zT.id (N.length+1) (xY N (qZ d).id++R'.map qZ)=j4 N:=by
            have:=hinv.out;rw[List.map_cons,wD hdd]at this;simpa using this
          have hms2:(jW (xY N) zT.id (N.length+1) ((d :: R').map qZ)).length=(jW (xY N) zT.id (N.length+1) (xY N (qZ d).id++R'.map qZ)).length+1:=by
            rw[List.map_cons,wD hdd,List.length_cons]
          have hdp2:∀c∈xY N (qZ d).id++R'.map qZ,Deep (xY N) zT.id (N.length+1) c.id:=fun c hc=>by
            rcases List.mem_append.1 hc with hc | hc
            · exact rH hdd c hc
            · exact hdp.out c (by rw[List.map_cons];exact List.mem_cons_of_mem _ hc)
          have Hinv2:=Lib.hid hinv2;have Hdp2:=Lib.hid hdp2;have Hms2:=Lib.hid hms2;have hlen2:X.length+1+(jW (xY N) zT.id (N.length+1) (xY N (qZ d).id++R'.map qZ)).length<=N.length:=by omega
          have Hlen2:=Lib.hid hlen2;clear hinv hdp hdd hinv2 hdp2 hrl hrr hn1 hn2 hms hms2 hlen2 hpx;have hba:Below wr.heap.size wr (wr.alloc (.cells (yK d) 168)):=(Below.refl _ _).alloc (Nat.le_refl _) _;have hra:z9 (wr.alloc (.cells (yK d) 168)) wr.heap.size 0 70=some (yK d):=by simp[go_sem]
          have hoa:=hown.below hba;have hsa:=hsw2.below hba;have hVa:Below V.heap.size V (wr.alloc (.cells (yK d) 168)):=hb.trans (hba.mono hzr);have hdA:∀x∈blk A1,x<wr.heap.size:=fun x hx=>(hown.at_base hx).2;have HdA:=Lib.hid hdA;have Hdis:=Lib.hid hdis;go_upto_region 12 with fail
          obtain⟨gx,hgx⟩:∃gx,wr.heap.size=gx:=⟨_,rfl⟩
          have Hgx:=Lib.hid hgx;have hza:gx+1<=(wr.alloc (.cells (yK d) 168)).heap.size:=by simp[hgx]
          obtain⟨W0,hW0⟩:∃W0,W0=wr.alloc (.cells (yK d) 168):=⟨_,rfl⟩
          rw[<-hW0]at hra hoa hsa hVa hza |-;rw[hgx]at hra hzr |-;clear hW0 hgx hba hown hsw2 hb hrow hdA hdis;have f37:z9 W0 gx 37 32=some (idC d.m.id):=by have:=zV hra (j:=37) (m:=32) (by omega);rwa [bV,Nat.zero_add]at this
          have f3:W0.cell? ⟨gx,3,none⟩=some (.string (oOf d.m).val):=by have:=z8 hra (j:=3) (by omega);rwa [dM,Nat.zero_add]at this
          have hpS:pS (X ++ [qZ d]) G=if d.m.id∈G then pS X G else pS X G ++ [⟨⟨#[]⟩,(oOf d.m).val⟩]:=B5 X G (qZ d);have HpS:=Lib.hid hpS;clear hpS;have hset0:=qQ.below hsetV hVa;by_cases hin:d.m.id∈G
          · have hlk:=ihit hset0 hin;have hpS:=HpS.out;rw[if_pos hin]at hpS;have HpS2:=Lib.hid hpS;clear hpS hin;obtain⟨Z,hZ⟩:∃Z,Z=W0:=⟨_,rfl⟩
            have hoZ:Own Z V.heap.size 122 2 A1 n1 cap1 ((pS (X ++ [qZ d]) G).map zN):=by rw[HpS2.out,hZ];exact hoa
            have hAZ:∀x∈blk A1,x<Z.heap.size:=fun x hx=>(hoZ.at_base hx).2;rw[<-hZ]at hra hsa hVa hza f37 f3 hlk |-;clear hZ hoa;have htZ:=htV.below hVa;obtain⟨s1,hs1,hl1⟩:=htZ.look d.m.id;have hk:∀x:Subtype (Bel Z),(Instr.lookup 177 (.map (some gt)) (.agg (idC d.m.id)) false).run Tryz.prog x.1 = .ok (.slice s1.A s1.n s1.c) x.1:=fun x=>hl1 x.1 x.2;have hs1n:(bO P d.m.id).length=s1.n:=by have:=hs1.len;simpa using this
            have hkl1:(bO P d.m.id).length<=30:=by have e:=congrArg List.length (Hkids.out d.m.id);rw[List.length_map]at e;have:=fV N d.m.id;omega
            obtain⟨Ah,ch,hhi,hhs,hhf⟩:=hsa.hi (P:=Tryz.prog) k9 (m:=1) (by omega);have hhi2:∀w0:World,(slS 116 (.slice (some ⟨q,o,none⟩) (R'.length+1) cap2) (some (.int .i64 1)) none none).run Tryz.prog w0 = .ok (.slice Ah R'.length ch) w0:=hhi;have hRr:(bO P d.m.id++R').map qZ=xY N (qZ d).id++R'.map qZ:=by rw[List.map_append];congr 1;exact Hkids.out _
            have HRr:=Lib.hid hRr;have hzV:=hVa.size;clear hRr htZ hl1 hhi;go_upto_region 14 with fail
            refine zA (Bel Z) false (by kernel_rfl) (by kernel_rfl) (by kernel_rfl) (zC Z) ?_;have hne:=zQ Z;have hS:=zC Z;have b1:=zY f37;repeat(refine z6 ?_ ?_;(focus(simp only[z3];done));intro K hK;go_simp;refine hK _ ?_;clear hK K)
            refine zH ?_ ?_ ?_;(focus(exact hS));(focus(simp only[z3];done));intro K hK;go_simp;refine zZ (rM hS _) (fun hS=>?_);refine hK _ _ ?_;clear hK K;have hbX:Below Z.heap.size Z (Z.alloc (.cells #[.slice s1.A s1.n s1.c,.slice Ah R'.length ch] 116)):=(Below.refl _ _).alloc (Nat.le_refl _) _;obtain⟨Y,hY⟩:∃Y,(Z.alloc (.cells #[.slice s1.A s1.n s1.c,.slice Ah R'.length ch] 116)).drew=Y:=⟨_,rfl⟩
            have hbY:Below Z.heap.size Z Y:=by rw[<-hY];exact hbX.drew
            have q0:Y.cell? ⟨Z.heap.size,0,none⟩=some (.slice s1.A s1.n s1.c):=by rw[<-hY];simp[go_sem]
            have q1:Y.cell? ⟨Z.heap.size,1,none⟩=some (.slice Ah R'.length ch):=by rw[<-hY];simp[go_sem]
            rw[hY]at hS |-;clear hY hbX;have u1:q6 Y s1.A s1.n (bO P d.m.id):=SlR.below hs1.rd hbY;have u2:q6 Y Ah R'.length R':=hhs Y (hsa.rd.below hbY);have cc:=BN Y Z.heap.size 2 s1.A Ah s1.n R'.length s1.c ch _ _ u1 u2 hs1.nil hhf q0 q1 (by omega);repeat(refine z6 ?_ ?_;(focus(simp only[z3];done));intro K hK;go_simp;refine hK _ ?_;clear hK K)
            refine zH ?_ ?_ ?_;(focus(exact hS));(focus(simp only[z3];done));intro K hK;go_simp;refine cc.mono ?_;rintro e wC ⟨A5,cap5,rfl,ho5,hb5⟩;replace hS:=yN hS hb5;refine⟨_,rfl,hS,hK _ _ ?_⟩;clear hK K cc;repeat(refine z6 ?_ ?_;(focus(simp only[z3];done));intro K hK;go_simp;refine hK _ ?_;clear hK K)
            refine zK ?_;intro hS;have hbC:Below Z.heap.size Z wC:=hS;have ho6:Own wC Y.heap.size 168 70 A5 (s1.n+R'.length) cap5 ((bO P d.m.id++R').map yK):=ho5;have hYs:=hbY.size;have hnd:∀x∈blk A5,x∉blk A1:=fun x hx hm=>(by have:=(ho6.at_base hx).1;have:=hAZ x hm;omega);have hoC:=hoZ.below hbC;have hslC:=ho6.slw;have hVC:Below V.heap.size V wC:=hVa.trans (hbC.mono hzV);have hmsC:leftA N wC (.slice A5 (s1.n+R'.length) cap5)=(jW (xY N) zT.id (N.length+1) (xY N (qZ d).id++R'.map qZ)).length:=by rw[eO hslC.rd,HRr.out]
            have HmsC:=Lib.hid hmsC;have HVC:=Lib.hid hVC;have HoC:=Lib.hid hoC;have HslC:=Lib.hid hslC;have Hnd:=Lib.hid hnd;clear b1 hne hS hk hhi2 hhs hhf u1 u2 q0 q1 hbY hb5 ho5 ho6 hs1 hsa hra f37 hmsC hVC hoC hslC hnd hoZ hbC;(go_wp2_with fail);go_roundw
            case rel=>exact⟨X ++ [qZ d],bO P d.m.id++R',A1,n1,cap1,A5,s1.n+R'.length,cap5,rfl,(by first | rfl | go_num),HoC.out,HslC.out,Hnd.out,(show _=_ by rw[HRr.out];exact Hinv2.out),(show ∀c∈_,_ by rw[HRr.out];exact Hdp2.out),HVC.out⟩
            case measure=>have m1:=HmsC.out;have m2:=Hms.out;have m3:=Hms2.out;omega
          · have hlk:=imiss hset0 hin;have hpS:=HpS.out;rw[if_neg hin]at hpS;have HpS2:=Lib.hid hpS;clear hpS hin;have hbx:Below W0.heap.size W0 (W0.alloc (.cells (zN ⟨⟨#[]⟩,(oOf d.m).val⟩) 122)):=(Below.refl _ _).alloc (Nat.le_refl _) _;have hown2:=hoa.below hbx;have hrow2:z9 (W0.alloc (.cells (zN ⟨⟨#[]⟩,(oOf d.m).val⟩) 122)) W0.heap.size 0 2=some (zN ⟨⟨#[]⟩,(oOf d.m).val⟩):=by simp[go_sem]
            go_upto_region 14 with(at_builtin;refine yX yL rfl hown2 rfl hrow2 (xQ _) (by omega) (by omega) (by simp;omega) ?_;intro A6 cap6 Z hown6 hk6 hsub6)
            have hVZ:Below V.heap.size V Z:=(hVa.trans (hbx.mono (by omega))).trans (hk6.below (by simp;omega) (fun y hy=>(hoa.at_base hy).1));have hoZ:Own Z V.heap.size 122 2 A6 (n1+1) cap6 ((pS (X ++ [qZ d]) G).map zN):=by rw[HpS2.out];simpa using hown6
            have hgA:gx∉blk A1:=fun hm=>(by have:=HdA.out gx hm;have:=Hgx.out;omega);have hraZ:z9 Z gx 0 70=some (yK d):=(hk6.row (by simp;omega) hgA 0 70).trans ((zB (hbx.block gx (by omega)) 0 70).trans hra);have hsZ:SlW Z (some ⟨q,o,none⟩) (R'.length+1) cap2 70 ((d :: R').map yK):=(hsa.below hbx).kept hk6 Hdis.out;have hzZ:gx+1<=Z.heap.size:=by have:=hk6.size;simp at this;omega
            clear hra hsa hVa hza f37 f3 hlk hoa hown6 hk6 hsub6 hown2 hrow2 hbx;have hra:=hraZ;have hsa:=hsZ;have hVa:=hVZ;have hza:=hzZ;have f37:z9 Z gx 37 32=some (idC d.m.id):=by have:=zV hra (j:=37) (m:=32) (by omega);rwa [bV,Nat.zero_add]at this
            have hAZ:∀x∈blk A6,x<Z.heap.size:=fun x hx=>(hoZ.at_base hx).2;clear hraZ hsZ hVZ hzZ;have htZ:=htV.below hVa;obtain⟨s1,hs1,hl1⟩:=htZ.look d.m.id;have hk:∀x:Subtype (Bel Z),(Instr.lookup 177 (.map (some gt)) (.agg (idC d.m.id)) false).run Tryz.prog x.1 = .ok (.slice s1.A s1.n s1.c) x.1:=fun x=>hl1 x.1 x.2;have hs1n:(bO P d.m.id).length=s1.n:=by have:=hs1.len;simpa using this
            have hkl1:(bO P d.m.id).length<=30:=by have e:=congrArg List.length (Hkids.out d.m.id);rw[List.length_map]at e;have:=fV N d.m.id;omega
            obtain⟨Ah,ch,hhi,hhs,hhf⟩:=hsa.hi (P:=Tryz.prog) k9 (m:=1) (by omega);have hhi2:∀w0:World,(slS 116 (.slice (some ⟨q,o,none⟩) (R'.length+1) cap2) (some (.int .i64 1)) none none).run Tryz.prog w0 = .ok (.slice Ah R'.length ch) w0:=hhi;have hRr:(bO P d.m.id++R').map qZ=xY N (qZ d).id++R'.map qZ:=by rw[List.map_append];congr 1;exact Hkids.out _
            have HRr:=Lib.hid hRr;have hzV:=hVa.size;clear hRr htZ hl1 hhi;go_upto_region 14 with fail
            refine zA (Bel Z) false (by kernel_rfl) (by kernel_rfl) (by kernel_rfl) (zC Z) ?_;have hne:=zQ Z;have hS:=zC Z;have b1:=zY f37;repeat(refine z6 ?_ ?_;(focus(simp only[z3];done));intro K hK;go_simp;refine hK _ ?_;clear hK K)
            refine zH ?_ ?_ ?_;(focus(exact hS));(focus(simp only[z3];done));intro K hK;go_simp;refine zZ (rM hS _) (fun hS=>?_);refine hK _ _ ?_;clear hK K;have hbX:Below Z.heap.size Z (Z.alloc (.cells #[.slice s1.A s1.n s1.c,.slice Ah R'.length ch] 116)):=(Below.refl _ _).alloc (Nat.le_refl _) _;obtain⟨Y,hY⟩:∃Y,(Z.alloc (.cells #[.slice s1.A s1.n s1.c,.slice Ah R'.length ch] 116)).drew=Y:=⟨_,rfl⟩
            have hbY:Below Z.heap.size Z Y:=by rw[<-hY];exact hbX.drew
            have q0:Y.cell? ⟨Z.heap.size,0,none⟩=some (.slice s1.A s1.n s1.c):=by rw[<-hY];simp[go_sem]
            have q1:Y.cell? ⟨Z.heap.size,1,none⟩=some (.slice Ah R'.length ch):=by rw[<-hY];simp[go_sem]
            rw[hY]at hS |-;clear hY hbX;have u1:q6 Y s1.A s1.n (bO P d.m.id):=SlR.below hs1.rd hbY;have u2:q6 Y Ah R'.length R':=hhs Y (hsa.rd.below hbY);have cc:=BN Y Z.heap.size 2 s1.A Ah s1.n R'.length s1.c ch _ _ u1 u2 hs1.nil hhf q0 q1 (by omega);repeat(refine z6 ?_ ?_;(focus(simp only[z3];done));intro K hK;go_simp;refine hK _ ?_;clear hK K)
            refine zH ?_ ?_ ?_;(focus(exact hS));(focus(simp only[z3];done));intro K hK;go_simp;refine cc.mono ?_;rintro e wC ⟨A5,cap5,rfl,ho5,hb5⟩;replace hS:=yN hS hb5;refine⟨_,rfl,hS,hK _ _ ?_⟩;clear hK K cc;repeat(refine z6 ?_ ?_;(focus(simp only[z3];done));intro K hK;go_simp;refine hK _ ?_;clear hK K)
            refine zK ?_;intro hS;have hbC:Below Z.heap.size Z wC:=hS;have ho6:Own wC Y.heap.size 168 70 A5 (s1.n+R'.length) cap5 ((bO P d.m.id++R').map yK):=ho5;have hYs:=hbY.size;have hnd:∀x∈blk A5,x∉blk A6:=fun x hx hm=>(by have:=(ho6.at_base hx).1;have:=hAZ x hm;omega);have hoC:=hoZ.below hbC;have hslC:=ho6.slw;have hVC:Below V.heap.size V wC:=hVa.trans (hbC.mono hzV);have hmsC:leftA N wC (.slice A5 (s1.n+R'.length) cap5)=(jW (xY N) zT.id (N.length+1) (xY N (qZ d).id++R'.map qZ)).length:=by rw[eO hslC.rd,HRr.out]
            have HmsC:=Lib.hid hmsC;have HVC:=Lib.hid hVC;have HoC:=Lib.hid hoC;have HslC:=Lib.hid hslC;have Hnd:=Lib.hid hnd;clear b1 hne hS hk hhi2 hhs hhf u1 u2 q0 q1 hbY hb5 ho5 ho6 hs1 hsa hra f37 hmsC hVC hoC hslC hnd hoZ hbC;(go_wp2_with fail);go_roundw
            case rel=>exact⟨X ++ [qZ d],bO P d.m.id++R',A6,n1+1,cap6,A5,s1.n+R'.length,cap5,rfl,(by first | rfl | go_num),HoC.out,HslC.out,Hnd.out,(show _=_ by rw[HRr.out];exact Hinv2.out),(show ∀c∈_,_ by rw[HRr.out];exact Hdp2.out),HVC.out⟩
            case measure=>have m1:=HmsC.out;have m2:=Hms.out;have m3:=Hms2.out;omega
end
section
open Go.RowKit Stb
theorem dval_2 (t:ByteArray) (A:Option Addr) (n cap:Nat) (R:List zG) (w:World) (Ps:List xZ) (hm:q9 w A n R) (hn:n<=1000) (ho:(qS R).length<=30) (hs:∀m∈R,m.body.size<=600) (hp:yZ w) (ht:t.size<=9223372036854775807) (hk:yO t=2) (hFl:(kK t R).length<=30)
    (hl:∀(w':World) (A':Option Addr) (cap':Nat) (L:List yE) (B:Nat),jA w' B A' L.length cap' L->L.length<=30->L.map yE.m=kK t R->Calls Tryz.prog 56 #[.slice A' L.length cap'] w' fun e w''=>∃A2 n2 cap2,e = .returned (.slice A2 n2 cap2)/\Own w'' w'.heap.size 122 2 A2 n2 cap2 (Ps.map zN)/\Below w'.heap.size w' w'') :
    Calls Tryz.prog 23 #[.string t,.slice A n cap] w fun e w'=>∃A2 n2 cap2,e = .returned (.tuple #[.agg (zF ⟨2,0,.slice A2 n2 cap2⟩),.int .i64 0])/\xL w' A2 n2 Ps/\Below w.heap.size w w':=by
  have hB:Below w.heap.size w (w.alloc (.cells (zF yM) 43)):=(Below.refl _ _).alloc (Nat.le_refl _) _;have hg1:(w.alloc (.cells (zF yM) 43)).heap[w.heap.size]? = some (.cells (zF yM) 43 (0,0)):=heap_alloc_new w _;have c1:=fun w=>bK t w ht;have c2:=fun w=>fT t w ht;have ca:=fun w' (hb:Below w.heap.size w w')=>lC t A n cap R w' (SlR.below hm hb) hn ho hs (hp.below hb);have hcz:xN t=0:=by unfold xN;rw[if_neg (by omega)]
  rw[hcz]at c1;rw[hk]at c2;simp only[hk]at ca;obtain⟨F,hF⟩:∃F,kK t R=F:=⟨_,rfl⟩
  simp only[hF]at ca;rw[hF]at hFl hl;clear hcz hm hs hp hF hk;go_enter Tryz.func23,Tryz.ntmps23
  go_upto_region 1 with fail
  obtain⟨ga,hga⟩:∃ga,w.heap.size=ga:=⟨_,rfl⟩
  have Hga:=Lib.hid hga;rw[hga]at hg1 hB |-;simp only[hga]at ca;obtain⟨W,hW⟩:∃W,W=w.alloc (.cells (zF yM) 43):=⟨_,rfl⟩
  rw[<-hW]at hg1 hB |-;clear hW hga;(go_wp2_with fail);refine(c1 _).mono ?_;rintro e w1 ⟨rfl,hb1⟩;have hg2:=(hb1.block ga (Array.getElem?_eq_some_iff.1 hg1).1).trans hg1;have hB2:Below ga w w1:=hB.trans (hb1.mono (by have:=hB.size;have:=Hga.out;omega));clear hg1 hB hb1 c1;(go_wp2_with fail);refine(c2 _).mono ?_;rintro e w2 ⟨rfl,hb2⟩;have hg3:=(hb2.block ga (Array.getElem?_eq_some_iff.1 hg2).1).trans hg2;have hB3:Below ga w w2:=hB2.trans (hb2.mono (by have:=hB2.size;have:=Hga.out;omega));have hs2:ga<w2.heap.size:=(Array.getElem?_eq_some_iff.1 hg3).1;clear hg2 hB2 hb2 c2;have hb3:Below w2.heap.size w2 (w2.alloc (.cells (zF ⟨2,0,.slice none 0 0⟩) 43)):=(Below.refl _ _).alloc (Nat.le_refl _) _;have hg4:=(hb3.block ga hs2).trans hg3;have hB4:Below ga w (w2.alloc (.cells (zF ⟨2,0,.slice none 0 0⟩) 43)):=hB3.trans (hb3.mono (by omega));have hv4:(w2.alloc (.cells (zF ⟨2,0,.slice none 0 0⟩) 43)).heap[w2.heap.size]? = some (.cells (zF ⟨2,0,.slice none 0 0⟩) 43 (0,0)):=heap_alloc_new w2 _;obtain⟨gv,hgv⟩:∃gv,w2.heap.size=gv:=⟨_,rfl⟩
  clear hg3 hB3 hb3;go_upto_region 5 with fail
  rw[hgv]at hv4 hs2;obtain⟨W3,hW3⟩:∃W3,W3=(w2.alloc (.cells (zF ⟨2,0,.slice none 0 0⟩) 43)):=⟨_,rfl⟩
  rw[<-hW3]at hg4 hB4 hv4 |-;clear hW3 hgv;have hc0:W3.cell? ⟨gv,0,none⟩=some (.int .i64 2):=by rw[cell_of_row W3 gv 0 _ _ _ hv4];simp[go_sem]
  have ca':=ca W3 hB4;clear ca;(go_wp2_with fail);refine ca'.mono ?_;rintro e w5 ⟨A5,cap5,L,rfl,hacts,hLF,hb5⟩;have hg5:=(hb5.block ga (Array.getElem?_eq_some_iff.1 hg4).1).trans hg4;have hv5:=(hb5.block gv (Array.getElem?_eq_some_iff.1 hv4).1).trans hv4;have hB5:Below ga w w5:=hB4.trans (hb5.mono (by have:=hB4.size;have:=Hga.out;omega));have hLl:L.length<=30:=by have e:=congrArg List.length hLF;rw[List.length_map]at e;omega
  have hc5:w5.cell? ⟨gv,0,none⟩=some (.int .i64 2):=by rw[cell_of_row w5 gv 0 _ _ _ hv5];simp[go_sem]
  have hlc:=hl w5 A5 cap5 L _ hacts hLl hLF;have hgvl:gv<w5.heap.size:=(Array.getElem?_eq_some_iff.1 hv5).1;have hgal:ga<w5.heap.size:=(Array.getElem?_eq_some_iff.1 hg5).1;clear ca' hacts hLF hb5 hg4 hv4 hB4 hc0 hl;have hf:∀w',Below w5.heap.size w5 w'->w'.frozen? ⟨gv,2,none⟩=false:=fun w' hb=>by
    have:=(hb.block gv hgvl).trans hv5;simp[World.frozen?,this]
  have hcv:∀w',Below w5.heap.size w5 w'->w'.cell? ⟨gv,2,none⟩=some (.slice none 0 0):=fun w' hb=>by
    rw[cell_of_row w' gv 2 _ _ _ ((hb.block gv hgvl).trans hv5)];simp[go_sem]
  (go_wp2_with fail);refine hlc.mono ?_;rintro e w6 ⟨A2,n2,cap2,rfl,hown,hb6⟩;have hf6:=hf w6 hb6;have hcv6:=hcv w6 hb6;have hset:(zF ⟨2,0,.slice none 0 0⟩).setIfInBounds 2 (.slice A2 n2 cap2)=zF ⟨2,0,.slice A2 n2 cap2⟩:=by apply Array.ext';simp[zF]
  have hv6:=(hb6.block gv hgvl).trans hv5;have hv4:(w6.setCell ⟨gv,2,none⟩ (.slice A2 n2 cap2)).heap[gv]? = some (.cells (zF ⟨2,0,.slice A2 n2 cap2⟩) 43 (0,0)):=by rw[zE hv6,hset]
  have hks:=z4.setCell w6 ⟨gv,2,none⟩ (.slice A2 n2 cap2);have hz6:=hb6.size;have hg6:=(hb6.block ga hgal).trans hg5;have hg4:(w6.setCell ⟨gv,2,none⟩ (.slice A2 n2 cap2)).heap[ga]? = some (.cells (zF yM) 43 (0,0)):=(hks.block ga (by omega) (by simp;omega)).trans hg6;have hB6:Below ga w w6:=hB5.trans (hb6.mono (by omega));have hB4:Below ga w (w6.setCell ⟨gv,2,none⟩ (.slice A2 n2 cap2)):=hB6.trans (hks.below (by omega) (by simp;omega));have hown4:=hown.kept hks (fun x hx=>by have:=(hown.at_base hx).1;simp;omega);clear hset hks hlc hf hcv hv5 hB5 hc5 hg5 hg6 hB6 hb6;go_upto_region 17 with fail
  obtain⟨W4,hW4⟩:∃W4,W4=w6.setCell ⟨gv,2,none⟩ (.slice A2 n2 cap2):=⟨_,rfl⟩
  rw[<-hW4]at hv4 hg4 hB4 hown4 |-;clear hW4 hf6 hcv6 hv6 hown;have hrow:z9 W4 gv 0 3=some (zF ⟨2,0,.slice A2 n2 cap2⟩):=by unfold z9;rw[hv4];simp[go_sem]
  have hsto:=yA (P:=Tryz.prog) xI W4 ga (zF yM) (zF ⟨2,0,.slice A2 n2 cap2⟩) _ hg4 (by simp) (by simp) (jF _ rfl);have hkf:z4 [ga] W4 (W4.setRow ga (zF ⟨2,0,.slice A2 n2 cap2⟩)):=⟨rfl,rfl,rfl,by simp[World.setRow],fun x _ hx=>setRow_other W4 ga x _ (by simpa using hx)⟩
  have Hfin:=Lib.hid (setRow_heap W4 ga _ (zF ⟨2,0,.slice A2 n2 cap2⟩) _ _ hg4);have HBf:=Lib.hid (hB4.trans (hkf.below (by have:=hB4.size;have:=Hga.out;omega) (by simp)));have HO:=Lib.hid (hown4.kept hkf (fun x hx=>by have:=(hown4.at_base hx).1;simp;omega)).slr;clear hkf hg4 hB4 hv4 hown4;(go_wp2_with fail);refine bodyPost_ret (yI Tryz.results23 _ _ ga 43 (zF ⟨2,0,.slice A2 n2 cap2⟩) (0,0) _ rfl Hfin.out Tryz.underlying43 rfl (by rw[qK];exact xI)) rfl ?_;exact⟨A2,n2,cap2,rfl,HO.out,by rw[Hga.out];exact HBf.out⟩
theorem dval_3 (t:ByteArray) (A:Option Addr) (n cap:Nat) (R:List zG) (w:World) (Ps:List xZ) (hm:q9 w A n R) (hn:n<=1000) (ho:(qS R).length<=30) (hs:∀m∈R,m.body.size<=600) (hp:yZ w) (ht:t.size<=9223372036854775807) (hk:yO t=3) (hFl:(kK t R).length<=30)
    (hl:∀(w':World) (A':Option Addr) (cap':Nat) (L:List yE) (B:Nat),jA w' B A' L.length cap' L->L.length<=30->L.map yE.m=kK t R->Calls Tryz.prog 57 #[.slice A' L.length cap'] w' fun e w''=>∃A2 n2 cap2,e = .returned (.slice A2 n2 cap2)/\Own w'' w'.heap.size 122 2 A2 n2 cap2 (Ps.map zN)/\Below w'.heap.size w' w'') :
    Calls Tryz.prog 23 #[.string t,.slice A n cap] w fun e w'=>∃A2 n2 cap2,e = .returned (.tuple #[.agg (zF ⟨3,0,.slice A2 n2 cap2⟩),.int .i64 0])/\xL w' A2 n2 Ps/\Below w.heap.size w w':=by
  have hB:Below w.heap.size w (w.alloc (.cells (zF yM) 43)):=(Below.refl _ _).alloc (Nat.le_refl _) _;have hg1:(w.alloc (.cells (zF yM) 43)).heap[w.heap.size]? = some (.cells (zF yM) 43 (0,0)):=heap_alloc_new w _;have c1:=fun w=>bK t w ht;have c2:=fun w=>fT t w ht;have ca:=fun w' (hb:Below w.heap.size w w')=>lC t A n cap R w' (SlR.below hm hb) hn ho hs (hp.below hb);have hcz:xN t=0:=by unfold xN;rw[if_neg (by omega)]
  rw[hcz]at c1;rw[hk]at c2;simp only[hk]at ca;obtain⟨F,hF⟩:∃F,kK t R=F:=⟨_,rfl⟩
  simp only[hF]at ca;rw[hF]at hFl hl;clear hcz hm hs hp hF hk;go_enter Tryz.func23,Tryz.ntmps23
  go_upto_region 1 with fail
  obtain⟨ga,hga⟩:∃ga,w.heap.size=ga:=⟨_,rfl⟩
  have Hga:=Lib.hid hga;rw[hga]at hg1 hB |-;simp only[hga]at ca;obtain⟨W,hW⟩:∃W,W=w.alloc (.cells (zF yM) 43):=⟨_,rfl⟩
  rw[<-hW]at hg1 hB |-;clear hW hga;(go_wp2_with fail);refine(c1 _).mono ?_;rintro e w1 ⟨rfl,hb1⟩;have hg2:=(hb1.block ga (Array.getElem?_eq_some_iff.1 hg1).1).trans hg1;have hB2:Below ga w w1:=hB.trans (hb1.mono (by have:=hB.size;have:=Hga.out;omega));clear hg1 hB hb1 c1;(go_wp2_with fail);refine(c2 _).mono ?_;rintro e w2 ⟨rfl,hb2⟩;have hg3:=(hb2.block ga (Array.getElem?_eq_some_iff.1 hg2).1).trans hg2;have hB3:Below ga w w2:=hB2.trans (hb2.mono (by have:=hB2.size;have:=Hga.out;omega));have hs2:ga<w2.heap.size:=(Array.getElem?_eq_some_iff.1 hg3).1;clear hg2 hB2 hb2 c2;have hb3:Below w2.heap.size w2 (w2.alloc (.cells (zF ⟨3,0,.slice none 0 0⟩) 43)):=(Below.refl _ _).alloc (Nat.le_refl _) _;have hg4:=(hb3.block ga hs2).trans hg3;have hB4:Below ga w (w2.alloc (.cells (zF ⟨3,0,.slice none 0 0⟩) 43)):=hB3.trans (hb3.mono (by omega));have hv4:(w2.alloc (.cells (zF ⟨3,0,.slice none 0 0⟩) 43)).heap[w2.heap.size]? = some (.cells (zF ⟨3,0,.slice none 0 0⟩) 43 (0,0)):=heap_alloc_new w2 _;obtain⟨gv,hgv⟩:∃gv,w2.heap.size=gv:=⟨_,rfl⟩
  clear hg3 hB3 hb3;go_upto_region 5 with fail
  rw[hgv]at hv4 hs2;obtain⟨W3,hW3⟩:∃W3,W3=(w2.alloc (.cells (zF ⟨3,0,.slice none 0 0⟩) 43)):=⟨_,rfl⟩
  rw[<-hW3]at hg4 hB4 hv4 |-;clear hW3 hgv;have hc0:W3.cell? ⟨gv,0,none⟩=some (.int .i64 3):=by rw[cell_of_row W3 gv 0 _ _ _ hv4];simp[go_sem]
  have ca':=ca W3 hB4;clear ca;(go_wp2_with fail);refine ca'.mono ?_;rintro e w5 ⟨A5,cap5,L,rfl,hacts,hLF,hb5⟩;have hg5:=(hb5.block ga (Array.getElem?_eq_some_iff.1 hg4).1).trans hg4;have hv5:=(hb5.block gv (Array.getElem?_eq_some_iff.1 hv4).1).trans hv4;have hB5:Below ga w w5:=hB4.trans (hb5.mono (by have:=hB4.size;have:=Hga.out;omega));have hLl:L.length<=30:=by have e:=congrArg List.length hLF;rw[List.length_map]at e;omega
  have hc5:w5.cell? ⟨gv,0,none⟩=some (.int .i64 3):=by rw[cell_of_row w5 gv 0 _ _ _ hv5];simp[go_sem]
  have hlc:=hl w5 A5 cap5 L _ hacts hLl hLF;have hgvl:gv<w5.heap.size:=(Array.getElem?_eq_some_iff.1 hv5).1;have hgal:ga<w5.heap.size:=(Array.getElem?_eq_some_iff.1 hg5).1;clear ca' hacts hLF hb5 hg4 hv4 hB4 hc0 hl;have hf:∀w',Below w5.heap.size w5 w'->w'.frozen? ⟨gv,2,none⟩=false:=fun w' hb=>by
    have:=(hb.block gv hgvl).trans hv5;simp[World.frozen?,this]
  have hcv:∀w',Below w5.heap.size w5 w'->w'.cell? ⟨gv,2,none⟩=some (.slice none 0 0):=fun w' hb=>by
    rw[cell_of_row w' gv 2 _ _ _ ((hb.block gv hgvl).trans hv5)];simp[go_sem]
  (go_wp2_with fail);refine hlc.mono ?_;rintro e w6 ⟨A2,n2,cap2,rfl,hown,hb6⟩;have hf6:=hf w6 hb6;have hcv6:=hcv w6 hb6;have hset:(zF ⟨3,0,.slice none 0 0⟩).setIfInBounds 2 (.slice A2 n2 cap2)=zF ⟨3,0,.slice A2 n2 cap2⟩:=by apply Array.ext';simp[zF]
  have hv6:=(hb6.block gv hgvl).trans hv5;have hv4:(w6.setCell ⟨gv,2,none⟩ (.slice A2 n2 cap2)).heap[gv]? = some (.cells (zF ⟨3,0,.slice A2 n2 cap2⟩) 43 (0,0)):=by rw[zE hv6,hset]
  have hks:=z4.setCell w6 ⟨gv,2,none⟩ (.slice A2 n2 cap2);have hz6:=hb6.size;have hg6:=(hb6.block ga hgal).trans hg5;have hg4:(w6.setCell ⟨gv,2,none⟩ (.slice A2 n2 cap2)).heap[ga]? = some (.cells (zF yM) 43 (0,0)):=(hks.block ga (by omega) (by simp;omega)).trans hg6;have hB6:Below ga w w6:=hB5.trans (hb6.mono (by omega));have hB4:Below ga w (w6.setCell ⟨gv,2,none⟩ (.slice A2 n2 cap2)):=hB6.trans (hks.below (by omega) (by simp;omega));have hown4:=hown.kept hks (fun x hx=>by have:=(hown.at_base hx).1;simp;omega);clear hset hks hlc hf hcv hv5 hB5 hc5 hg5 hg6 hB6 hb6;go_upto_region 17 with fail
  obtain⟨W4,hW4⟩:∃W4,W4=w6.setCell ⟨gv,2,none⟩ (.slice A2 n2 cap2):=⟨_,rfl⟩
  rw[<-hW4]at hv4 hg4 hB4 hown4 |-;clear hW4 hf6 hcv6 hv6 hown;have hrow:z9 W4 gv 0 3=some (zF ⟨3,0,.slice A2 n2 cap2⟩):=by unfold z9;rw[hv4];simp[go_sem]
  have hsto:=yA (P:=Tryz.prog) xI W4 ga (zF yM) (zF ⟨3,0,.slice A2 n2 cap2⟩) _ hg4 (by simp) (by simp) (jF _ rfl);have hkf:z4 [ga] W4 (W4.setRow ga (zF ⟨3,0,.slice A2 n2 cap2⟩)):=⟨rfl,rfl,rfl,by simp[World.setRow],fun x _ hx=>setRow_other W4 ga x _ (by simpa using hx)⟩
  have Hfin:=Lib.hid (setRow_heap W4 ga _ (zF ⟨3,0,.slice A2 n2 cap2⟩) _ _ hg4);have HBf:=Lib.hid (hB4.trans (hkf.below (by have:=hB4.size;have:=Hga.out;omega) (by simp)));have HO:=Lib.hid (hown4.kept hkf (fun x hx=>by have:=(hown4.at_base hx).1;simp;omega)).slr;clear hkf hg4 hB4 hv4 hown4;(go_wp2_with fail);refine bodyPost_ret (yI Tryz.results23 _ _ ga 43 (zF ⟨3,0,.slice A2 n2 cap2⟩) (0,0) _ rfl Hfin.out Tryz.underlying43 rfl (by rw[qK];exact xI)) rfl ?_;exact⟨A2,n2,cap2,rfl,HO.out,by rw[Hga.out];exact HBf.out⟩
theorem dval_4 (t:ByteArray) (A:Option Addr) (n cap:Nat) (R:List zG) (w:World) (Ps:List xZ) (hm:q9 w A n R) (hn:n<=1000) (ho:(qS R).length<=30) (hs:∀m∈R,m.body.size<=600) (hp:yZ w) (ht:t.size<=9223372036854775807) (hk:yO t=4) (hFl:(kK t R).length<=30)
    (hl:∀(w':World) (A':Option Addr) (cap':Nat) (L:List yE) (B:Nat),jA w' B A' L.length cap' L->L.length<=30->L.map yE.m=kK t R->Calls Tryz.prog 58 #[.slice A' L.length cap'] w' fun e w''=>∃A2 n2 cap2,e = .returned (.slice A2 n2 cap2)/\Own w'' w'.heap.size 122 2 A2 n2 cap2 (Ps.map zN)/\Below w'.heap.size w' w'') :
    Calls Tryz.prog 23 #[.string t,.slice A n cap] w fun e w'=>∃A2 n2 cap2,e = .returned (.tuple #[.agg (zF ⟨4,0,.slice A2 n2 cap2⟩),.int .i64 0])/\xL w' A2 n2 Ps/\Below w.heap.size w w':=by
  have hB:Below w.heap.size w (w.alloc (.cells (zF yM) 43)):=(Below.refl _ _).alloc (Nat.le_refl _) _;have hg1:(w.alloc (.cells (zF yM) 43)).heap[w.heap.size]? = some (.cells (zF yM) 43 (0,0)):=heap_alloc_new w _;have c1:=fun w=>bK t w ht;have c2:=fun w=>fT t w ht;have ca:=fun w' (hb:Below w.heap.size w w')=>lC t A n cap R w' (SlR.below hm hb) hn ho hs (hp.below hb);have hcz:xN t=0:=by unfold xN;rw[if_neg (by omega)]
  rw[hcz]at c1;rw[hk]at c2;simp only[hk]at ca;obtain⟨F,hF⟩:∃F,kK t R=F:=⟨_,rfl⟩
  simp only[hF]at ca;rw[hF]at hFl hl;clear hcz hm hs hp hF hk;go_enter Tryz.func23,Tryz.ntmps23
  go_upto_region 1 with fail
  obtain⟨ga,hga⟩:∃ga,w.heap.size=ga:=⟨_,rfl⟩
  have Hga:=Lib.hid hga;rw[hga]at hg1 hB |-;simp only[hga]at ca;obtain⟨W,hW⟩:∃W,W=w.alloc (.cells (zF yM) 43):=⟨_,rfl⟩
  rw[<-hW]at hg1 hB |-;clear hW hga;(go_wp2_with fail);refine(c1 _).mono ?_;rintro e w1 ⟨rfl,hb1⟩;have hg2:=(hb1.block ga (Array.getElem?_eq_some_iff.1 hg1).1).trans hg1;have hB2:Below ga w w1:=hB.trans (hb1.mono (by have:=hB.size;have:=Hga.out;omega));clear hg1 hB hb1 c1;(go_wp2_with fail);refine(c2 _).mono ?_;rintro e w2 ⟨rfl,hb2⟩;have hg3:=(hb2.block ga (Array.getElem?_eq_some_iff.1 hg2).1).trans hg2;have hB3:Below ga w w2:=hB2.trans (hb2.mono (by have:=hB2.size;have:=Hga.out;omega));have hs2:ga<w2.heap.size:=(Array.getElem?_eq_some_iff.1 hg3).1;clear hg2 hB2 hb2 c2;have hb3:Below w2.heap.size w2 (w2.alloc (.cells (zF ⟨4,0,.slice none 0 0⟩) 43)):=(Below.refl _ _).alloc (Nat.le_refl _) _;have hg4:=(hb3.block ga hs2).trans hg3;have hB4:Below ga w (w2.alloc (.cells (zF ⟨4,0,.slice none 0 0⟩) 43)):=hB3.trans (hb3.mono (by omega));have hv4:(w2.alloc (.cells (zF ⟨4,0,.slice none 0 0⟩) 43)).heap[w2.heap.size]? = some (.cells (zF ⟨4,0,.slice none 0 0⟩) 43 (0,0)):=heap_alloc_new w2 _;obtain⟨gv,hgv⟩:∃gv,w2.heap.size=gv:=⟨_,rfl⟩
  clear hg3 hB3 hb3;go_upto_region 5 with fail
  rw[hgv]at hv4 hs2;obtain⟨W3,hW3⟩:∃W3,W3=(w2.alloc (.cells (zF ⟨4,0,.slice none 0 0⟩) 43)):=⟨_,rfl⟩
  rw[<-hW3]at hg4 hB4 hv4 |-;clear hW3 hgv;have hc0:W3.cell? ⟨gv,0,none⟩=some (.int .i64 4):=by rw[cell_of_row W3 gv 0 _ _ _ hv4];simp[go_sem]
  have ca':=ca W3 hB4;clear ca;(go_wp2_with fail);refine ca'.mono ?_;rintro e w5 ⟨A5,cap5,L,rfl,hacts,hLF,hb5⟩;have hg5:=(hb5.block ga (Array.getElem?_eq_some_iff.1 hg4).1).trans hg4;have hv5:=(hb5.block gv (Array.getElem?_eq_some_iff.1 hv4).1).trans hv4;have hB5:Below ga w w5:=hB4.trans (hb5.mono (by have:=hB4.size;have:=Hga.out;omega));have hLl:L.length<=30:=by have e:=congrArg List.length hLF;rw[List.length_map]at e;omega
  have hc5:w5.cell? ⟨gv,0,none⟩=some (.int .i64 4):=by rw[cell_of_row w5 gv 0 _ _ _ hv5];simp[go_sem]
  have hlc:=hl w5 A5 cap5 L _ hacts hLl hLF;have hgvl:gv<w5.heap.size:=(Array.getElem?_eq_some_iff.1 hv5).1;have hgal:ga<w5.heap.size:=(Array.getElem?_eq_some_iff.1 hg5).1;clear ca' hacts hLF hb5 hg4 hv4 hB4 hc0 hl;have hf:∀w',Below w5.heap.size w5 w'->w'.frozen? ⟨gv,2,none⟩=false:=fun w' hb=>by
    have:=(hb.block gv hgvl).trans hv5;simp[World.frozen?,this]
  have hcv:∀w',Below w5.heap.size w5 w'->w'.cell? ⟨gv,2,none⟩=some (.slice none 0 0):=fun w' hb=>by
    rw[cell_of_row w' gv 2 _ _ _ ((hb.block gv hgvl).trans hv5)];simp[go_sem]
  (go_wp2_with fail);refine hlc.mono ?_;rintro e w6 ⟨A2,n2,cap2,rfl,hown,hb6⟩;have hf6:=hf w6 hb6;have hcv6:=hcv w6 hb6;have hset:(zF ⟨4,0,.slice none 0 0⟩).setIfInBounds 2 (.slice A2 n2 cap2)=zF ⟨4,0,.slice A2 n2 cap2⟩:=by apply Array.ext';simp[zF]
  have hv6:=(hb6.block gv hgvl).trans hv5;have hv4:(w6.setCell ⟨gv,2,none⟩ (.slice A2 n2 cap2)).heap[gv]? = some (.cells (zF ⟨4,0,.slice A2 n2 cap2⟩) 43 (0,0)):=by rw[zE hv6,hset]
  have hks:=z4.setCell w6 ⟨gv,2,none⟩ (.slice A2 n2 cap2);have hz6:=hb6.size;have hg6:=(hb6.block ga hgal).trans hg5;have hg4:(w6.setCell ⟨gv,2,none⟩ (.slice A2 n2 cap2)).heap[ga]? = some (.cells (zF yM) 43 (0,0)):=(hks.block ga (by omega) (by simp;omega)).trans hg6;have hB6:Below ga w w6:=hB5.trans (hb6.mono (by omega));have hB4:Below ga w (w6.setCell ⟨gv,2,none⟩ (.slice A2 n2 cap2)):=hB6.trans (hks.below (by omega) (by simp;omega));have hown4:=hown.kept hks (fun x hx=>by have:=(hown.at_base hx).1;simp;omega);clear hset hks hlc hf hcv hv5 hB5 hc5 hg5 hg6 hB6 hb6;go_upto_region 17 with fail
  obtain⟨W4,hW4⟩:∃W4,W4=w6.setCell ⟨gv,2,none⟩ (.slice A2 n2 cap2):=⟨_,rfl⟩
  rw[<-hW4]at hv4 hg4 hB4 hown4 |-;clear hW4 hf6 hcv6 hv6 hown;have hrow:z9 W4 gv 0 3=some (zF ⟨4,0,.slice A2 n2 cap2⟩):=by unfold z9;rw[hv4];simp[go_sem]
  have hsto:=yA (P:=Tryz.prog) xI W4 ga (zF yM) (zF ⟨4,0,.slice A2 n2 cap2⟩) _ hg4 (by simp) (by simp) (jF _ rfl);have hkf:z4 [ga] W4 (W4.setRow ga (zF ⟨4,0,.slice A2 n2 cap2⟩)):=⟨rfl,rfl,rfl,by simp[World.setRow],fun x _ hx=>setRow_other W4 ga x _ (by simpa using hx)⟩
  have Hfin:=Lib.hid (setRow_heap W4 ga _ (zF ⟨4,0,.slice A2 n2 cap2⟩) _ _ hg4);have HBf:=Lib.hid (hB4.trans (hkf.below (by have:=hB4.size;have:=Hga.out;omega) (by simp)));have HO:=Lib.hid (hown4.kept hkf (fun x hx=>by have:=(hown4.at_base hx).1;simp;omega)).slr;clear hkf hg4 hB4 hv4 hown4;(go_wp2_with fail);refine bodyPost_ret (yI Tryz.results23 _ _ ga 43 (zF ⟨4,0,.slice A2 n2 cap2⟩) (0,0) _ rfl Hfin.out Tryz.underlying43 rfl (by rw[qK];exact xI)) rfl ?_;exact⟨A2,n2,cap2,rfl,HO.out,by rw[Hga.out];exact HBf.out⟩
theorem dval_5 (t:ByteArray) (A:Option Addr) (n cap:Nat) (R:List zG) (w:World) (Ps:List xZ) (hm:q9 w A n R) (hn:n<=1000) (ho:(qS R).length<=30) (hs:∀m∈R,m.body.size<=600) (hp:yZ w) (ht:t.size<=9223372036854775807) (hk:yO t=5) (hFl:(kK t R).length<=30)
    (hl:∀(w':World) (A':Option Addr) (cap':Nat) (L:List yE) (B:Nat),jA w' B A' L.length cap' L->L.length<=30->L.map yE.m=kK t R->Calls Tryz.prog 59 #[.slice A' L.length cap'] w' fun e w''=>∃A2 n2 cap2,e = .returned (.slice A2 n2 cap2)/\Own w'' w'.heap.size 122 2 A2 n2 cap2 (Ps.map zN)/\Below w'.heap.size w' w'') :
    Calls Tryz.prog 23 #[.string t,.slice A n cap] w fun e w'=>∃A2 n2 cap2,e = .returned (.tuple #[.agg (zF ⟨5,0,.slice A2 n2 cap2⟩),.int .i64 0])/\xL w' A2 n2 Ps/\Below w.heap.size w w':=by
  have hB:Below w.heap.size w (w.alloc (.cells (zF yM) 43)):=(Below.refl _ _).alloc (Nat.le_refl _) _;have hg1:(w.alloc (.cells (zF yM) 43)).heap[w.heap.size]? = some (.cells (zF yM) 43 (0,0)):=heap_alloc_new w _;have c1:=fun w=>bK t w ht;have c2:=fun w=>fT t w ht;have ca:=fun w' (hb:Below w.heap.size w w')=>lC t A n cap R w' (SlR.below hm hb) hn ho hs (hp.below hb);have hcz:xN t=0:=by unfold xN;rw[if_neg (by omega)]
  rw[hcz]at c1;rw[hk]at c2;simp only[hk]at ca;obtain⟨F,hF⟩:∃F,kK t R=F:=⟨_,rfl⟩
  simp only[hF]at ca;rw[hF]at hFl hl;clear hcz hm hs hp hF hk;go_enter Tryz.func23,Tryz.ntmps23
  go_upto_region 1 with fail
  obtain⟨ga,hga⟩:∃ga,w.heap.size=ga:=⟨_,rfl⟩
  have Hga:=Lib.hid hga;rw[hga]at hg1 hB |-;simp only[hga]at ca;obtain⟨W,hW⟩:∃W,W=w.alloc (.cells (zF yM) 43):=⟨_,rfl⟩
  rw[<-hW]at hg1 hB |-;clear hW hga;(go_wp2_with fail);refine(c1 _).mono ?_;rintro e w1 ⟨rfl,hb1⟩;have hg2:=(hb1.block ga (Array.getElem?_eq_some_iff.1 hg1).1).trans hg1;have hB2:Below ga w w1:=hB.trans (hb1.mono (by have:=hB.size;have:=Hga.out;omega));clear hg1 hB hb1 c1;(go_wp2_with fail);refine(c2 _).mono ?_;rintro e w2 ⟨rfl,hb2⟩;have hg3:=(hb2.block ga (Array.getElem?_eq_some_iff.1 hg2).1).trans hg2;have hB3:Below ga w w2:=hB2.trans (hb2.mono (by have:=hB2.size;have:=Hga.out;omega));have hs2:ga<w2.heap.size:=(Array.getElem?_eq_some_iff.1 hg3).1;clear hg2 hB2 hb2 c2;have hb3:Below w2.heap.size w2 (w2.alloc (.cells (zF ⟨5,0,.slice none 0 0⟩) 43)):=(Below.refl _ _).alloc (Nat.le_refl _) _;have hg4:=(hb3.block ga hs2).trans hg3;have hB4:Below ga w (w2.alloc (.cells (zF ⟨5,0,.slice none 0 0⟩) 43)):=hB3.trans (hb3.mono (by omega));have hv4:(w2.alloc (.cells (zF ⟨5,0,.slice none 0 0⟩) 43)).heap[w2.heap.size]? = some (.cells (zF ⟨5,0,.slice none 0 0⟩) 43 (0,0)):=heap_alloc_new w2 _;obtain⟨gv,hgv⟩:∃gv,w2.heap.size=gv:=⟨_,rfl⟩
  clear hg3 hB3 hb3;go_upto_region 5 with fail
  rw[hgv]at hv4 hs2;obtain⟨W3,hW3⟩:∃W3,W3=(w2.alloc (.cells (zF ⟨5,0,.slice none 0 0⟩) 43)):=⟨_,rfl⟩
  rw[<-hW3]at hg4 hB4 hv4 |-;clear hW3 hgv;have hc0:W3.cell? ⟨gv,0,none⟩=some (.int .i64 5):=by rw[cell_of_row W3 gv 0 _ _ _ hv4];simp[go_sem]
  have ca':=ca W3 hB4;clear ca;(go_wp2_with fail);refine ca'.mono ?_;rintro e w5 ⟨A5,cap5,L,rfl,hacts,hLF,hb5⟩;have hg5:=(hb5.block ga (Array.getElem?_eq_some_iff.1 hg4).1).trans hg4;have hv5:=(hb5.block gv (Array.getElem?_eq_some_iff.1 hv4).1).trans hv4;have hB5:Below ga w w5:=hB4.trans (hb5.mono (by have:=hB4.size;have:=Hga.out;omega));have hLl:L.length<=30:=by have e:=congrArg List.length hLF;rw[List.length_map]at e;omega
  have hc5:w5.cell? ⟨gv,0,none⟩=some (.int .i64 5):=by rw[cell_of_row w5 gv 0 _ _ _ hv5];simp[go_sem]
  have hlc:=hl w5 A5 cap5 L _ hacts hLl hLF;have hgvl:gv<w5.heap.size:=(Array.getElem?_eq_some_iff.1 hv5).1;have hgal:ga<w5.heap.size:=(Array.getElem?_eq_some_iff.1 hg5).1;clear ca' hacts hLF hb5 hg4 hv4 hB4 hc0 hl;have hf:∀w',Below w5.heap.size w5 w'->w'.frozen? ⟨gv,2,none⟩=false:=fun w' hb=>by
    have:=(hb.block gv hgvl).trans hv5;simp[World.frozen?,this]
  have hcv:∀w',Below w5.heap.size w5 w'->w'.cell? ⟨gv,2,none⟩=some (.slice none 0 0):=fun w' hb=>by
    rw[cell_of_row w' gv 2 _ _ _ ((hb.block gv hgvl).trans hv5)];simp[go_sem]
  (go_wp2_with fail);refine hlc.mono ?_;rintro e w6 ⟨A2,n2,cap2,rfl,hown,hb6⟩;have hf6:=hf w6 hb6;have hcv6:=hcv w6 hb6;have hset:(zF ⟨5,0,.slice none 0 0⟩).setIfInBounds 2 (.slice A2 n2 cap2)=zF ⟨5,0,.slice A2 n2 cap2⟩:=by apply Array.ext';simp[zF]
  have hv6:=(hb6.block gv hgvl).trans hv5;have hv4:(w6.setCell ⟨gv,2,none⟩ (.slice A2 n2 cap2)).heap[gv]? = some (.cells (zF ⟨5,0,.slice A2 n2 cap2⟩) 43 (0,0)):=by rw[zE hv6,hset]
  have hks:=z4.setCell w6 ⟨gv,2,none⟩ (.slice A2 n2 cap2);have hz6:=hb6.size;have hg6:=(hb6.block ga hgal).trans hg5;have hg4:(w6.setCell ⟨gv,2,none⟩ (.slice A2 n2 cap2)).heap[ga]? = some (.cells (zF yM) 43 (0,0)):=(hks.block ga (by omega) (by simp;omega)).trans hg6;have hB6:Below ga w w6:=hB5.trans (hb6.mono (by omega));have hB4:Below ga w (w6.setCell ⟨gv,2,none⟩ (.slice A2 n2 cap2)):=hB6.trans (hks.below (by omega) (by simp;omega));have hown4:=hown.kept hks (fun x hx=>by have:=(hown.at_base hx).1;simp;omega);clear hset hks hlc hf hcv hv5 hB5 hc5 hg5 hg6 hB6 hb6;go_upto_region 17 with fail
  obtain⟨W4,hW4⟩:∃W4,W4=w6.setCell ⟨gv,2,none⟩ (.slice A2 n2 cap2):=⟨_,rfl⟩
  rw[<-hW4]at hv4 hg4 hB4 hown4 |-;clear hW4 hf6 hcv6 hv6 hown;have hrow:z9 W4 gv 0 3=some (zF ⟨5,0,.slice A2 n2 cap2⟩):=by unfold z9;rw[hv4];simp[go_sem]
  have hsto:=yA (P:=Tryz.prog) xI W4 ga (zF yM) (zF ⟨5,0,.slice A2 n2 cap2⟩) _ hg4 (by simp) (by simp) (jF _ rfl);have hkf:z4 [ga] W4 (W4.setRow ga (zF ⟨5,0,.slice A2 n2 cap2⟩)):=⟨rfl,rfl,rfl,by simp[World.setRow],fun x _ hx=>setRow_other W4 ga x _ (by simpa using hx)⟩
  have Hfin:=Lib.hid (setRow_heap W4 ga _ (zF ⟨5,0,.slice A2 n2 cap2⟩) _ _ hg4);have HBf:=Lib.hid (hB4.trans (hkf.below (by have:=hB4.size;have:=Hga.out;omega) (by simp)));have HO:=Lib.hid (hown4.kept hkf (fun x hx=>by have:=(hown4.at_base hx).1;simp;omega)).slr;clear hkf hg4 hB4 hv4 hown4;(go_wp2_with fail);refine bodyPost_ret (yI Tryz.results23 _ _ ga 43 (zF ⟨5,0,.slice A2 n2 cap2⟩) (0,0) _ rfl Hfin.out Tryz.underlying43 rfl (by rw[qK];exact xI)) rfl ?_;exact⟨A2,n2,cap2,rfl,HO.out,by rw[Hga.out];exact HBf.out⟩
theorem dval_1 (t:ByteArray) (A:Option Addr) (n cap:Nat) (R:List zG) (w:World) (N:Int) (hm:q9 w A n R) (hn:n<=1000) (ho:(qS R).length<=30) (hs:∀m∈R,m.body.size<=600) (hp:yZ w) (ht:t.size<=9223372036854775807) (hk:yO t=1) (hFl:(kK t R).length<=30)
    (hl:∀(w':World) (A':Option Addr) (cap':Nat) (L:List yE) (B:Nat),jA w' B A' L.length cap' L->L.length<=30->L.map yE.m=kK t R->Calls Tryz.prog 55 #[.slice A' L.length cap'] w' fun e w''=>e = .returned (.int .i64 N)/\Below w'.heap.size w' w'') :
    Calls Tryz.prog 23 #[.string t,.slice A n cap] w fun e w'=>e = .returned (.tuple #[.agg (zF ⟨1,N,.slice none 0 0⟩),.int .i64 0])/\Below w.heap.size w w':=by
  have hB:Below w.heap.size w (w.alloc (.cells (zF yM) 43)):=(Below.refl _ _).alloc (Nat.le_refl _) _;have hg1:(w.alloc (.cells (zF yM) 43)).heap[w.heap.size]? = some (.cells (zF yM) 43 (0,0)):=heap_alloc_new w _;have c1:=fun w=>bK t w ht;have c2:=fun w=>fT t w ht;have ca:=fun w' (hb:Below w.heap.size w w')=>lC t A n cap R w' (SlR.below hm hb) hn ho hs (hp.below hb);have hcz:xN t=0:=by unfold xN;rw[if_neg (by omega)]
  rw[hcz]at c1;rw[hk]at c2;simp only[hk]at ca;obtain⟨F,hF⟩:∃F,kK t R=F:=⟨_,rfl⟩
  simp only[hF]at ca;rw[hF]at hFl hl;clear hcz hm hs hp hF hk;go_enter Tryz.func23,Tryz.ntmps23
  go_upto_region 1 with fail
  obtain⟨ga,hga⟩:∃ga,w.heap.size=ga:=⟨_,rfl⟩
  have Hga:=Lib.hid hga;rw[hga]at hg1 hB |-;simp only[hga]at ca;obtain⟨W,hW⟩:∃W,W=w.alloc (.cells (zF yM) 43):=⟨_,rfl⟩
  rw[<-hW]at hg1 hB |-;clear hW hga;(go_wp2_with fail);refine(c1 _).mono ?_;rintro e w1 ⟨rfl,hb1⟩;have hg2:=(hb1.block ga (Array.getElem?_eq_some_iff.1 hg1).1).trans hg1;have hB2:Below ga w w1:=hB.trans (hb1.mono (by have:=hB.size;have:=Hga.out;omega));clear hg1 hB hb1 c1;(go_wp2_with fail);refine(c2 _).mono ?_;rintro e w2 ⟨rfl,hb2⟩;have hg3:=(hb2.block ga (Array.getElem?_eq_some_iff.1 hg2).1).trans hg2;have hB3:Below ga w w2:=hB2.trans (hb2.mono (by have:=hB2.size;have:=Hga.out;omega));have hs2:ga<w2.heap.size:=(Array.getElem?_eq_some_iff.1 hg3).1;clear hg2 hB2 hb2 c2;have hb3:Below w2.heap.size w2 (w2.alloc (.cells (zF ⟨1,0,.slice none 0 0⟩) 43)):=(Below.refl _ _).alloc (Nat.le_refl _) _;have hg4:=(hb3.block ga hs2).trans hg3;have hB4:Below ga w (w2.alloc (.cells (zF ⟨1,0,.slice none 0 0⟩) 43)):=hB3.trans (hb3.mono (by omega));have hv4:(w2.alloc (.cells (zF ⟨1,0,.slice none 0 0⟩) 43)).heap[w2.heap.size]? = some (.cells (zF ⟨1,0,.slice none 0 0⟩) 43 (0,0)):=heap_alloc_new w2 _;obtain⟨gv,hgv⟩:∃gv,w2.heap.size=gv:=⟨_,rfl⟩
  clear hg3 hB3 hb3;go_upto_region 5 with fail
  rw[hgv]at hv4 hs2;obtain⟨W3,hW3⟩:∃W3,W3=(w2.alloc (.cells (zF ⟨1,0,.slice none 0 0⟩) 43)):=⟨_,rfl⟩
  rw[<-hW3]at hg4 hB4 hv4 |-;clear hW3 hgv;have hc0:W3.cell? ⟨gv,0,none⟩=some (.int .i64 1):=by rw[cell_of_row W3 gv 0 _ _ _ hv4];simp[go_sem]
  have ca':=ca W3 hB4;clear ca;(go_wp2_with fail);refine ca'.mono ?_;rintro e w5 ⟨A5,cap5,L,rfl,hacts,hLF,hb5⟩;have hg5:=(hb5.block ga (Array.getElem?_eq_some_iff.1 hg4).1).trans hg4;have hv5:=(hb5.block gv (Array.getElem?_eq_some_iff.1 hv4).1).trans hv4;have hB5:Below ga w w5:=hB4.trans (hb5.mono (by have:=hB4.size;have:=Hga.out;omega));have hLl:L.length<=30:=by have e:=congrArg List.length hLF;rw[List.length_map]at e;omega
  have hc5:w5.cell? ⟨gv,0,none⟩=some (.int .i64 1):=by rw[cell_of_row w5 gv 0 _ _ _ hv5];simp[go_sem]
  have hlc:=hl w5 A5 cap5 L _ hacts hLl hLF;have hgvl:gv<w5.heap.size:=(Array.getElem?_eq_some_iff.1 hv5).1;have hgal:ga<w5.heap.size:=(Array.getElem?_eq_some_iff.1 hg5).1;clear ca' hacts hLF hb5 hg4 hv4 hB4 hc0 hl;have hf:∀w',Below w5.heap.size w5 w'->w'.frozen? ⟨gv,1,none⟩=false:=fun w' hb=>by
    have:=(hb.block gv hgvl).trans hv5;simp[World.frozen?,this]
  have hcv:∀w',Below w5.heap.size w5 w'->w'.cell? ⟨gv,1,none⟩=some (.int .i64 0):=fun w' hb=>by
    rw[cell_of_row w' gv 1 _ _ _ ((hb.block gv hgvl).trans hv5)];simp[go_sem]
  (go_wp2_with fail);refine hlc.mono ?_;rintro e w6 ⟨rfl,hb6⟩;have hf6:=hf w6 hb6;have hcv6:=hcv w6 hb6;have hset:(zF ⟨1,0,.slice none 0 0⟩).setIfInBounds 1 (.int .i64 N)=zF ⟨1,N,.slice none 0 0⟩:=by apply Array.ext';simp[zF]
  have hv6:=(hb6.block gv hgvl).trans hv5;have hv4:(w6.setCell ⟨gv,1,none⟩ (.int .i64 N)).heap[gv]? = some (.cells (zF ⟨1,N,.slice none 0 0⟩) 43 (0,0)):=by rw[zE hv6,hset]
  have hks:=z4.setCell w6 ⟨gv,1,none⟩ (.int .i64 N);have hz6:=hb6.size;have hg6:=(hb6.block ga hgal).trans hg5;have hg4:(w6.setCell ⟨gv,1,none⟩ (.int .i64 N)).heap[ga]? = some (.cells (zF yM) 43 (0,0)):=(hks.block ga (by omega) (by simp;omega)).trans hg6;have hB6:Below ga w w6:=hB5.trans (hb6.mono (by omega));have hB4:Below ga w (w6.setCell ⟨gv,1,none⟩ (.int .i64 N)):=hB6.trans (hks.below (by omega) (by simp;omega));clear hset hks hlc hf hcv hv5 hB5 hc5 hg5 hg6 hB6 hb6;go_upto_region 17 with fail
  obtain⟨W4,hW4⟩:∃W4,W4=w6.setCell ⟨gv,1,none⟩ (.int .i64 N):=⟨_,rfl⟩
  rw[<-hW4]at hv4 hg4 hB4 |-;clear hW4 hf6 hcv6 hv6;have hrow:z9 W4 gv 0 3=some (zF ⟨1,N,.slice none 0 0⟩):=by unfold z9;rw[hv4];simp[go_sem]
  have hsto:=yA (P:=Tryz.prog) xI W4 ga (zF yM) (zF ⟨1,N,.slice none 0 0⟩) _ hg4 (by simp) (by simp) (jF _ rfl);have hkf:z4 [ga] W4 (W4.setRow ga (zF ⟨1,N,.slice none 0 0⟩)):=⟨rfl,rfl,rfl,by simp[World.setRow],fun x _ hx=>setRow_other W4 ga x _ (by simpa using hx)⟩
  have Hfin:=Lib.hid (setRow_heap W4 ga _ (zF ⟨1,N,.slice none 0 0⟩) _ _ hg4);have HBf:=Lib.hid (hB4.trans (hkf.below (by have:=hB4.size;have:=Hga.out;omega) (by simp)));clear hkf hg4 hB4 hv4;(go_wp2_with fail);refine bodyPost_ret (yI Tryz.results23 _ _ ga 43 (zF ⟨1,N,.slice none 0 0⟩) (0,0) _ rfl Hfin.out Tryz.underlying43 rfl (by rw[qK];exact xI)) rfl ?_;exact⟨rfl,by rw[Hga.out];exact HBf.out⟩
theorem dval_0 (t:ByteArray) (A:Option Addr) (n cap:Nat) (w:World) (ht:t.size<=9223372036854775807) (hk:yO t=0) :
    Calls Tryz.prog 23 #[.string t,.slice A n cap] w fun e w'=>e = .returned (.tuple #[.agg (zF yM),.int .i64 (xN t)])/\Below w.heap.size w w':=by
  have hB:Below w.heap.size w (w.alloc (.cells (zF yM) 43)):=(Below.refl _ _).alloc (Nat.le_refl _) _;have hg1:(w.alloc (.cells (zF yM) 43)).heap[w.heap.size]? = some (.cells (zF yM) 43 (0,0)):=heap_alloc_new w _;have c1:=fun w=>bK t w ht;have hcn:xN t≠0:=by unfold xN;rw[if_pos hk];decide
  obtain⟨E,hE⟩:∃E,xN t=E:=⟨_,rfl⟩
  rw[hE]at hcn c1 |-;have hcb:(E != 0)=true:=by simpa using hcn
  clear hcn hE hk;go_enter Tryz.func23,Tryz.ntmps23
  go_upto_region 1 with fail
  obtain⟨ga,hga⟩:∃ga,w.heap.size=ga:=⟨_,rfl⟩
  have Hga:=Lib.hid hga;rw[hga]at hg1 hB |-;obtain⟨W,hW⟩:∃W,W=w.alloc (.cells (zF yM) 43):=⟨_,rfl⟩
  rw[<-hW]at hg1 hB |-;clear hW hga;(go_wp2_with fail);refine(c1 _).mono ?_;rintro e W4 ⟨rfl,hb1⟩;have hg4:=(hb1.block ga (Array.getElem?_eq_some_iff.1 hg1).1).trans hg1;have hB4:Below ga w W4:=hB.trans (hb1.mono (by have:=hB.size;have:=Hga.out;omega));clear hg1 hB hb1 c1;have hsto:=yA (P:=Tryz.prog) xI W4 ga (zF yM) (zF yM) _ hg4 (by simp) (by simp) (jF _ rfl);have hkf:z4 [ga] W4 (W4.setRow ga (zF yM)):=⟨rfl,rfl,rfl,by simp[World.setRow],fun x _ hx=>setRow_other W4 ga x _ (by simpa using hx)⟩
  have Hfin:=Lib.hid (setRow_heap W4 ga _ (zF yM) _ _ hg4);have HBf:=Lib.hid (hB4.trans (hkf.below (by have:=hB4.size;have:=Hga.out;omega) (by simp)));clear hkf hg4 hB4;(go_wp2_with fail);refine bodyPost_ret (yI Tryz.results23 _ _ ga 43 (zF yM) (0,0) _ rfl Hfin.out Tryz.underlying43 rfl (by rw[qK];exact xI)) rfl ?_;exact⟨rfl,by rw[Hga.out];exact HBf.out⟩
end
end Go.Proofs.YtgedpfebepdcmaaGreatDoor
