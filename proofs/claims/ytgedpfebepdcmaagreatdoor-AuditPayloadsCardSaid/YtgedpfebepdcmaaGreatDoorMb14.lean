/- Part 14 of the texts that lead to this claim: the walks of the functions and the plain law, in order. -/
import Derived.Test.YtgedpfebepdcmaaGreatDoorMb13
import Derived.Test.YtgedpfebepdcmaaGreatDoorRows
import Derived.Lib.LaidTab
import Derived.LaidLaws
import Derived.LaidHandle
import Derived.Stop.Joined
import Derived.SevenTiedAt
namespace Go.Proofs.YtgedpfebepdcmaaGreatDoor
open Go.RowKit
set_option maxRecDepth 100000
set_option maxHeartbeats 8000000
theorem nilIns (w:World):Calls Tryz.prog 173 #[.slice none 0 0,.int .i64 0,.int .i64 0,.func (.func 119) #[] #[]] w fun e w'=>e = .returned (.tuple #[])/\w=w':=by
  go_enter Tryz.func173,Tryz.ntmps173
  (go_wp2_with fail);refine wp_loop_rounds 2 ?_;rw[rounds_succ];(go_wp2_with fail);go_end0;exact⟨rfl,rfl⟩
theorem nilStb (w:World):Calls Tryz.prog 147 #[.slice none 0 0,.int .i64 0,.func (.func 119) #[] #[]] w fun e w'=>e = .returned (.tuple #[])/\w=w':=by
  go_enter Tryz.func147,Tryz.ntmps147
  (go_wp2_with fail);refine wp_loop_rounds 2 ?_;rw[rounds_succ];(go_wp2_with fail);refine(nilIns _).mono ?_;rintro e w1 ⟨rfl,rfl⟩;(go_wp2_with fail);refine wp_loop_rounds 2 ?_;rw[rounds_succ];(go_wp2_with fail);go_end0;exact⟨rfl,rfl⟩
theorem nilSrt (w:World):Calls Tryz.prog 118 #[.slice none 0 0,.func (.func 119) #[] #[]] w fun e w'=>e = .returned (.tuple #[])/\w=w':=by
  go_enter Tryz.func118,Tryz.ntmps118
  (go_wp2_with fail);refine(nilStb _).mono ?_;rintro e w1 ⟨rfl,rfl⟩;(go_wp2_with fail);refine bodyPost_end (results_none rfl _ _ _) rfl ?_;exact⟨rfl,rfl⟩
theorem xd (w:World):Calls Tryz.prog 88 #[.slice none 0 0] w fun e w'=>e = .returned (.slice none 0 0)/\Below w.heap.size w w':=by
  have hmm:=@run_makeMap Tryz.prog;have hb0:Below w.heap.size w (w.alloc (.map #[] 0)):=(Below.refl _ _).alloc (Nat.le_refl _) _;go_enter Tryz.func88,Tryz.ntmps88
  (go_wp2_with fail);refine wp_loop_rounds 2 ?_;rw[rounds_succ];(go_wp2_with fail);refine(nilSrt _).mono ?_;rintro e w1 ⟨rfl,rfl⟩;(go_wp2_with fail);go_ret;exact⟨rfl,hb0⟩
theorem nilActs (w:World) (k:Int):Calls Tryz.prog 54 #[.int .i64 k,.slice none 0 0] w fun e w'=>e = .returned (.slice none 0 0)/\Below w.heap.size w w':=by
  go_enter Tryz.func54,Tryz.ntmps54
  (go_wp2_with fail);refine(xd _).mono ?_;rintro e w1 ⟨rfl,hb⟩;(go_wp2_with fail);refine wp_loop_rounds 2 ?_;rw[rounds_succ];(go_wp2_with fail);go_ret;exact⟨rfl,hb⟩
theorem kx (w:World):Calls Tryz.prog 55 #[.slice none 0 0] w fun e w'=>e = .returned (.int .i64 0)/\w=w':=by
  go_enter Tryz.func55,Tryz.ntmps55
  (go_wp2_with fail);refine wp_loop_rounds 2 ?_;rw[rounds_succ];(go_wp2_with fail);go_ret;exact⟨rfl,rfl⟩
theorem kw (t:ByteArray) (w:World) (ht:t.size<=9223372036854775807) (hk:yO t=1) :
    Calls Tryz.prog 23 #[.string t,.slice none 0 0] w fun e w'=>e = .returned (.tuple #[.agg (zF ⟨1,0,.slice none 0 0⟩),.int .i64 0])/\Below w.heap.size w w':=by
  have hB:Below w.heap.size w (w.alloc (.cells (zF yM) 43)):=(Below.refl _ _).alloc (Nat.le_refl _) _;have hg1:(w.alloc (.cells (zF yM) 43)).heap[w.heap.size]? = some (.cells (zF yM) 43 (0,0)):=heap_alloc_new w _;have c1:=fun w=>bK t w ht;have c2:=fun w=>fT t w ht;have hcz:xN t=0:=by unfold xN;rw[if_neg (by omega)]
  rw[hcz]at c1;rw[hk]at c2;clear hcz hk;go_enter Tryz.func23,Tryz.ntmps23
  go_upto_region 1 with fail
  obtain⟨ga,hga⟩:∃ga,w.heap.size=ga:=⟨_,rfl⟩
  have Hga:=Lib.hid hga;rw[hga]at hg1 hB |-;obtain⟨W,hW⟩:∃W,W=w.alloc (.cells (zF yM) 43):=⟨_,rfl⟩
  rw[<-hW]at hg1 hB |-;clear hW hga;(go_wp2_with fail);refine(c1 _).mono ?_;rintro e w1 ⟨rfl,hb1⟩;have hg2:=(hb1.block ga (Array.getElem?_eq_some_iff.1 hg1).1).trans hg1;have hB2:Below ga w w1:=hB.trans (hb1.mono (by have:=hB.size;have:=Hga.out;omega));clear hg1 hB hb1 c1;(go_wp2_with fail);refine(c2 _).mono ?_;rintro e w2 ⟨rfl,hb2⟩;have hg3:=(hb2.block ga (Array.getElem?_eq_some_iff.1 hg2).1).trans hg2;have hB3:Below ga w w2:=hB2.trans (hb2.mono (by have:=hB2.size;have:=Hga.out;omega));have hs2:ga<w2.heap.size:=(Array.getElem?_eq_some_iff.1 hg3).1;clear hg2 hB2 hb2 c2;have hb3:Below w2.heap.size w2 (w2.alloc (.cells (zF ⟨1,0,.slice none 0 0⟩) 43)):=(Below.refl _ _).alloc (Nat.le_refl _) _;have hg4:=(hb3.block ga hs2).trans hg3;have hB4:Below ga w (w2.alloc (.cells (zF ⟨1,0,.slice none 0 0⟩) 43)):=hB3.trans (hb3.mono (by omega));have hv4:(w2.alloc (.cells (zF ⟨1,0,.slice none 0 0⟩) 43)).heap[w2.heap.size]? = some (.cells (zF ⟨1,0,.slice none 0 0⟩) 43 (0,0)):=heap_alloc_new w2 _;obtain⟨gv,hgv⟩:∃gv,w2.heap.size=gv:=⟨_,rfl⟩
  clear hg3 hB3 hb3;have ho:(rN.mk 1 0 (.slice none 0 0)).l.oneCell'=true:=rfl;have ho2:(Value.slice none 0 0).oneCell'=true:=rfl;go_upto_region 5 with fail
  rw[hgv]at hv4 hs2;obtain⟨W3,hW3⟩:∃W3,W3=(w2.alloc (.cells (zF ⟨1,0,.slice none 0 0⟩) 43)):=⟨_,rfl⟩
  rw[<-hW3]at hg4 hB4 hv4 |-;clear hW3 hgv;have hc0:W3.cell? ⟨gv,0,none⟩=some (.int .i64 1):=by rw[cell_of_row W3 gv 0 _ _ _ hv4];simp[go_sem]
  (go_wp2_with fail);refine(nilActs W3 1).mono ?_;rintro e w5 ⟨rfl,hb5⟩;have hg5:=(hb5.block ga (Array.getElem?_eq_some_iff.1 hg4).1).trans hg4;have hv5:=(hb5.block gv (Array.getElem?_eq_some_iff.1 hv4).1).trans hv4;have hB5:Below ga w w5:=hB4.trans (hb5.mono (by have:=hB4.size;have:=Hga.out;omega));have hc5:w5.cell? ⟨gv,0,none⟩=some (.int .i64 1):=by rw[cell_of_row w5 gv 0 _ _ _ hv5];simp[go_sem]
  have hgvl:gv<w5.heap.size:=(Array.getElem?_eq_some_iff.1 hv5).1;have hgal:ga<w5.heap.size:=(Array.getElem?_eq_some_iff.1 hg5).1;have hf5:w5.frozen? ⟨gv,1,none⟩=false:=by simp[World.frozen?,hv5]
  have hcv5:w5.cell? ⟨gv,1,none⟩=some (.int .i64 0):=by rw[cell_of_row w5 gv 1 _ _ _ hv5];simp[go_sem]
  clear hb5 hg4 hv4 hB4 hc0;(go_wp2_with fail);refine(kx _).mono ?_;rintro e w6 ⟨rfl,rfl⟩;have hset:(zF ⟨1,0,.slice none 0 0⟩).setIfInBounds 1 (.int .i64 0)=zF ⟨1,0,.slice none 0 0⟩:=by apply Array.ext';simp[zF]
  have hv4:(w5.setCell ⟨gv,1,none⟩ (.int .i64 0)).heap[gv]? = some (.cells (zF ⟨1,0,.slice none 0 0⟩) 43 (0,0)):=by rw[zE hv5,hset]
  have hks:=z4.setCell w5 ⟨gv,1,none⟩ (.int .i64 0);have hg4:(w5.setCell ⟨gv,1,none⟩ (.int .i64 0)).heap[ga]? = some (.cells (zF yM) 43 (0,0)):=(hks.block ga (by omega) (by simp;omega)).trans hg5;have hB4:Below ga w (w5.setCell ⟨gv,1,none⟩ (.int .i64 0)):=hB5.trans (hks.below (by omega) (by simp;omega));clear hset hks hB5 hg5;go_upto_region 17 with fail
  obtain⟨W4,hW4⟩:∃W4,W4=w5.setCell ⟨gv,1,none⟩ (.int .i64 0):=⟨_,rfl⟩
  rw[<-hW4]at hv4 hg4 hB4 |-;clear hW4 hf5 hcv5 hv5 hc5;have hrow:z9 W4 gv 0 3=some (zF ⟨1,0,.slice none 0 0⟩):=by unfold z9;rw[hv4];simp[go_sem]
  have hsto:=yA (P:=Tryz.prog) xI W4 ga (zF yM) (zF ⟨1,0,.slice none 0 0⟩) _ hg4 (by simp) (by simp) (jF _ rfl);have hkf:z4 [ga] W4 (W4.setRow ga (zF ⟨1,0,.slice none 0 0⟩)):=⟨rfl,rfl,rfl,by simp[World.setRow],fun x _ hx=>setRow_other W4 ga x _ (by simpa using hx)⟩
  have Hfin:=Lib.hid (setRow_heap W4 ga _ (zF ⟨1,0,.slice none 0 0⟩) _ _ hg4);have HBf:=Lib.hid (hB4.trans (hkf.below (by have:=hB4.size;have:=Hga.out;omega) (by simp)));clear hkf hg4 hB4 hv4;(go_wp2_with fail);refine bodyPost_ret (yI Tryz.results23 _ _ ga 43 (zF ⟨1,0,.slice none 0 0⟩) (0,0) _ rfl Hfin.out Tryz.underlying43 rfl (by rw[qK];exact xI)) rfl ?_;exact⟨rfl,by rw[Hga.out];exact HBf.out⟩
theorem ji {α β:Type} (I:List α) (R:List β) (h:I.length=R.length) {k:Nat} (hk:k<R.length):(I.zip R).take (k+1)=(I.zip R).take k ++ [(I[k]'(by omega),R[k])]:=by
  rw[List.take_succ_eq_append_getElem (by simp;omega),List.getElem_zip]
theorem KJ (w:World) (A1 A2:Option Addr) (c1 c2:Nat) (I:List zJ) (R:List j9) (hI:y8 w A1 R.length I) (hR:KM w A2 R.length R) (hn:R.length<=100000) (hv:xT w) (hf:∀x∈R,iR w x) :
    Calls Tryz.prog 7 #[.slice A1 R.length c1,.slice A2 R.length c2] w fun e w'=>∃A cap,e = .returned (.slice A (lZ (I.zip R) R.length).length cap)/\JI w' w.heap.size A cap (lZ (I.zip R) R.length)/\Below w.heap.size w w':=by
  have hmm:=@run_makeMap Tryz.prog;have hlen:I.length=R.length:=by simpa using hI.1
  have hb0:Below w.heap.size w (w.alloc (.map #[] 0)):=(Below.refl _ _).alloc (Nat.le_refl _) _;have hk0:dV (w.alloc (.map #[] 0)) w.heap.size []:=⟨[],#[],0,qT.new w w.heap.size rfl,fun _=>rfl⟩
  go_enter Tryz.func7,Tryz.ntmps7
  go_upto_region 4 with fail
  obtain⟨W,hW⟩:∃W,W=w.alloc (.map #[] 0):=⟨_,rfl⟩
  obtain⟨b,hb⟩:∃b,w.heap.size=b:=⟨_,rfl⟩
  have HW:=Lib.hid hW;have Hb:=Lib.hid hb;have hWs:W.heap.size=b+1:=by rw[hW,<-hb];simp
  rw[<-hW]at hb0 hk0 |-;rw[hb]at hb0 hk0 |-;clear hW hb;go_loopw [7,8,9,21] (fun _ _ _ n wr=>∃k:Nat,k<=R.length/\n = .int .i64 k/\dV wr b ((I.zip R).take k)/\Below b w wr/\b<wr.heap.size) (fun _ _ _ n _=>R.length-(intOf n).toNat)
  case atStart=>exact⟨0,Nat.zero_le _,rfl,hk0,hb0,by omega⟩
  case round =>
    obtain⟨k,hk,rfl,hkn,hb,hbs⟩:=hrel;have hbw:Below w.heap.size w wr:=by rw[Hb.out];exact hb
    by_cases hlt:k<R.length
    · obtain⟨q1,o1,hq1,hr1⟩:=y8.get (SlR.below hI hbw) hlt (by omega);obtain⟨q2,o2,hq2,hr2⟩:=KM.get (SlR.below hR hbw) hlt hlt;have hz:=ji I R hlen hlt;obtain⟨i,hi⟩:∃i,I[k]'(by omega)=i:=⟨_,rfl⟩
      obtain⟨x,hx⟩:∃x,R[k]'hlt=x:=⟨_,rfl⟩
      rw[hi]at hr1 hz;rw[hx]at hr2 hz;have Hz:=Lib.hid hz;obtain⟨L,hL⟩:∃L,(I.zip R).take k=L:=⟨_,rfl⟩
      rw[hL]at hkn Hz;clear hz hL hi hx;cases hlk:lkH L i with
      | some y =>
        have hl:(Instr.lookup 56 (.map (some b)) (.agg (idC i)) true).run Tryz.prog wr = .ok (.tuple #[.agg (hdR y),.bool true]) wr:=hkn.hit hlk true;have ho:=BH y;have hkn2:=(hkn.same (q:=(i,x)) hlk).below ((Below.refl _ _).alloc (Nat.le_refl _) (.cells (hdR y) 30));have hb2:Below b w (wr.alloc (.cells (hdR y) 30)):=hb.alloc (by omega) _;subst hq1;subst hq2;clear hlk hkn;(go_wp2_with fail);go_roundw
        case rel=>exact⟨k+1,by omega,by go_num,by rw[Hz.out];exact hkn2,hb2,by simp;omega⟩
        case measure=>simp[intOf];omega
      | none =>
        have hl:(Instr.lookup 56 (.map (some b)) (.agg (idC i)) true).run Tryz.prog wr = .ok (.tuple #[.agg (hdC hd0),.bool false]) wr:=hkn.miss hlk true;have ho:=BI;have hba:Below wr.heap.size wr (wr.alloc (.cells (hdC hd0) 30)):=(Below.refl _ _).alloc (Nat.le_refl _) _;have hkn2:=hkn.below hba;have hb2:Below b w (wr.alloc (.cells (hdC hd0) 30)):=hb.alloc (by omega) _;have hr1':=(zB (hba.block q1 (zI hr1)) _ _).trans hr1;have hr2':=(zB (hba.block q2 (zI hr2)) _ _).trans hr2;subst hq1;subst hq2;go_upto_region 8 with fail
        obtain⟨W1,hW1⟩:∃W1,W1=wr.alloc (.cells (hdC hd0) 30):=⟨_,rfl⟩
        have hs1:b<W1.heap.size:=by rw[hW1];simp;omega
        rw[<-hW1]at hkn2 hb2 hr1' hr2' |-;obtain⟨w2,hrun,hL2,hk2⟩:=(hkn2.kept (z4.drew W1) (S:=[]) (by simp)).put x hlk;have hq1b:q1∉[b]:=by
          have:=SlR.old hI rfl (by omega);have:=Hb.out
          simp;omega
        have hq2b:q2∉[b]:=by
          have:=SlR.old hR rfl (by omega);have:=Hb.out
          simp;omega
        clear hW1 hlk hkn hl ho hr1 hr2 hba;refine zA (Kp [b] W1) false (by kernel_rfl) (by kernel_rfl) (by kernel_rfl) (zW [b] W1) ?_;have hne:=xA [b] W1;have hS:=zW [b] W1;have b1:=j5 hr1' hq1b;have b2:=j5 hr2' hq2b;repeat(refine z6 ?_ ?_;(focus(simp only[z3];done));intro K hK;go_simp;refine hK _ ?_;clear hK K)
        refine zH ?_ ?_ ?_;(focus(exact hS));(focus(simp only[z3];done));intro K hK;go_simp;refine zZ (wW hS hk2 (by simp)) (fun hS=>?_);refine hK _ _ ?_;clear hK K;refine zK ?_;intro hS;clear b1 b2 hne hr1' hr2' hkn2;have hb3:Below b w w2:=hb2.trans (hS.below (B:=b) (by omega) (by simp));have hs3:=hS.size;(go_wp2_with fail);go_roundw
        case rel=>exact⟨k+1,by omega,by go_num,by rw[Hz.out];exact hL2,hb3,by omega⟩
        case measure=>simp[intOf];omega
    · have hke:(I.zip R).take k=I.zip R:=List.take_of_length_le (by simp;omega);rw[hke]at hkn;obtain⟨L,hL⟩:∃L,I.zip R=L:=⟨_,rfl⟩
      have hLl:L.length=R.length:=by rw[<-hL];simp;omega
      have hLg:∀j (hj:j<R.length) (h1:j<I.length) (h2:j<L.length),L[j]'h2=(I[j]'h1,R[j]'hj):=fun j hj h1 h2=>(by subst hL;exact List.getElem_zip);rw[hL]at hkn |-;have HL:=Lib.hid hL;have hB:Below w.heap.size w wr:=hbw;have hI1:=SlR.below hI hbw;have hR1:KM wr A2 R.length R:=SlR.below hR hbw;have hv1:=hv.below hbw;have hf1:∀x∈R,iR wr x:=fun x hx=>(hf x hx).below hbw;have HB:=Lib.hid hB;clear hke hL hbw hB hI hR hv hf hk0 hb0;obtain⟨wb,hwb⟩:∃wb,wb=wr:=⟨_,rfl⟩
      subst hwb;go_upto_region 12 with fail
      obtain⟨B1,hB1⟩:∃B1,wb.heap.size=B1:=⟨_,rfl⟩
      have HB1:=Lib.hid hB1;have hqb:b<B1:=by rw[<-hB1];exact hbs
      clear hB1 hlt hk hbs hb hmm hWs;go_loopw [10,11,13,46] (fun out _ _ n w1=>∃(k:Nat) (A:Option Addr) (cap:Nat),k<=R.length/\n = .int .i64 k/\out = .slice A (lZ L k).length cap/\JI w1 B1 A cap (lZ L k)/\Below B1 wb w1) (fun _ _ _ n _=>R.length-(intOf n).toNat)
      case atStart=>exact⟨0,none,0,Nat.zero_le _,rfl,rfl,Own.nil _ _ _ _,Below.refl _ _⟩
      case round =>
        obtain⟨k,A,cap,hk,rfl,rfl,hown,hb⟩:=hrel;by_cases hlt:k<R.length
        · have hst:=qg L (i:=k) (by omega);rw[hLg k hlt (by omega) (by omega)]at hst;have hb':Below wb.heap.size wb wr:=by rw[HB1.out];exact hb
          obtain⟨q1,o1,hq1,hr1⟩:=y8.get hI1 hlt (by omega);obtain⟨q2,o2,hq2,hr2⟩:=KM.get hR1 hlt hlt;obtain⟨i,hi⟩:∃i,I[k]'(by omega)=i:=⟨_,rfl⟩
          obtain⟨x,hx⟩:∃x,R[k]'hlt=x:=⟨_,rfl⟩
          have hfx:iR wb x:=hf1 x (by rw[<-hx];exact List.getElem_mem hlt);rw[hi]at hst hr1;rw[hx]at hst hr2;have Hst:=Lib.hid hst;obtain⟨F,hF⟩:∃F,lZ L k=F:=⟨_,rfl⟩
          have hFl:F.length<=300000:=by rw[<-hF];have:=fndN_len L k;omega
          rw[hF]at hown Hst |-;have cr:=auds_any wr b;have hrl:=sN.made wr b;have hb2:Below wr.heap.size wr ((wr.alloc (.cells #[.map (some b)] 56)).alloc (.cells (dL wr.heap.size) 62)):=((Below.refl _ _).alloc (Nat.le_refl _) _).alloc (by simp) _;have hq1b:q1<B1:=by rw[<-HB1.out];exact zI hr1
          have hq2b:q2<B1:=by rw[<-HB1.out];exact zI hr2
          subst hq1;subst hq2;clear hst hi hx hF;(go_wp2_with fail);refine cr.mono ?_;rintro e w2 ⟨rfl,hw2⟩;rw[<-hw2]at hrl hb2;have hown2:=hown.below hb2;have hab:∀y∈blk A,y≠wr.heap.size/\y≠wr.heap.size+1:=fun y hy=>(by have:=(hown.at_base hy).2;omega);have hbz:Below B1 wb w2:=by rw[<-HB1.out];exact xM hb' hb2
          have hB1w:B1<=wr.heap.size:=by rw[<-HB1.out];exact hb.size
          obtain⟨g,hg⟩:∃g,wr.heap.size=g:=⟨_,rfl⟩
          rw[hg]at hrl hab hB1w |-;clear cr hw2 hown hb hb2 hb' hg;go_upto_region 15 with fail
          go_loopw [10,13,52] (fun out _ n wi=>∃(j:Nat) (A':Option Addr) (cap':Nat),j<=3/\n = .int .i64 j/\out = .slice A' (F++tU L k (i,x) j).length cap'/\JI wi B1 A' cap' (F++tU L k (i,x) j)/\Below B1 wb wi/\sN wi g (g+1) b/\Hid (∀y∈blk A',y≠g/\y≠g+1)) (fun _ _ n _=>3-(intOf n).toNat)
          case atStart =>
            have e0:F++tU L k (i,x) 0=F:=List.append_nil F;exact⟨0,A,cap,by omega,rfl,by rw[e0],by rw[e0];exact hown2,hbz,hrl,hab⟩
          case round =>
            clear hown2 hab hbz hrl;obtain⟨j,A',cap',hj,rfl,rfl,hown,hb,hrl,hsub⟩:=hrel;by_cases hlt2:j<3
            · have hrj:=hrl.row j hlt2;have hb':Below wb.heap.size wb wr:=by rw[HB1.out];exact hb
              have hba:Below wr.heap.size wr (wr.alloc (.cells (lB g j) 62)):=(Below.refl _ _).alloc (Nat.le_refl _) _;have hrl5:=hrl.below hba;have hown5:=hown.below hba;have hb5:Below wb.heap.size wb (wr.alloc (.cells (lB g j) 62)):=xM hb' hba;have hr1':=(zB (hb5.block q1 (zI hr1)) _ _).trans hr1;have hr2':=(zB (hb5.block q2 (zI hr2)) _ _).trans hr2;obtain⟨m,hm⟩:∃m:Int,((j+1:Nat):Int)=m:=⟨_,rfl⟩
              have hn0:(wr.alloc (.cells (lB g j) 62)).cell? ⟨wr.heap.size,0,none⟩=some (.int .i64 m):=by rw[<-hm];simp[go_sem,lB]
              have hn1:(wr.alloc (.cells (lB g j) 62)).cell? ⟨wr.heap.size,1,none⟩=some (.func (.func (JA j)) #[] (qz g j)):=by simp[go_sem,lB]
              have hdr:Below wb.heap.size wb (wr.alloc (.cells (lB g j) 62)).drew:=hb5.drew;have cc:=aud_any (wr.alloc (.cells (lB g j) 62)).drew g b L (i,x) ⟨(hrl5.below (Below.refl _ _).drew).box,hkn.below hdr,(hfx.below hdr).ids,hfx.len,hfx.tps,hfx.ht,hv1.below hdr⟩ j hlt2;have hcf:=call_aud j hlt2 (#[.agg (idC i),.agg (hdR x)]++qz g j) (wr.alloc (.cells (lB g j) 62)).drew;have hst2:F++tU L k (i,x) (j+1)=(F++tU L k (i,x) j)++if KI L (i,x) j=true then[]else[⟨m,k⟩]:=by rw[List.append_assoc,<-hm];rfl
              have hXl:(F++tU L k (i,x) j).length<=300003:=by rw[List.length_append];have:=QR L k (i,x) j;omega
              obtain⟨X,hX⟩:∃X,F++tU L k (i,x) j=X:=⟨_,rfl⟩
              rw[hX]at hown5 hst2 hXl |-;obtain⟨V,hV⟩:∃V,KI L (i,x) j=V:=⟨_,rfl⟩
              obtain⟨G,hG⟩:∃G,qz g j=G:=⟨_,rfl⟩
              rw[hV]at cc hst2;simp only[hG]at cc hn1 hcf;have Hst2:=Lib.hid hst2;clear hst2 hV hm hown hrl hdr hb hX hG;go_upto_region 17 with fail
              obtain⟨W5,hW5⟩:∃W5,W5=wr.alloc (.cells (lB g j) 62):=⟨_,rfl⟩
              have hz5:W5.heap.size=wr.heap.size+1:=by rw[hW5];simp
              obtain⟨gx,hgx⟩:∃gx,wr.heap.size=gx:=⟨_,rfl⟩
              rw[<-hW5]at hrl5 hown5 hb5 hr1' hr2' hn0 hn1 cc hcf |-;rw[hgx]at hn0 hn1 hz5 |-;clear hW5 hba hrj;refine zA (Bel W5) false (by kernel_rfl) (by kernel_rfl) (by kernel_rfl) (zC W5) ?_;have hne:=zQ W5;have hS:=zC W5;have b0:=zY hr1';have b1:=zY hr2';have b2:=zP hn1;repeat(refine z6 ?_ ?_;(focus(simp only[z3];done));intro K hK;go_simp;refine hK _ ?_;clear hK K)
              refine zH ?_ ?_ ?_;(focus(exact hS));(focus(simp only[z3];done));intro K hK;go_simp;refine(cc).mono ?_;rintro e w' ⟨rfl,hb⟩;replace hS:=yN hS hb;refine⟨_,rfl,hS,hK _ _ ?_⟩;clear hK K hb;repeat(refine z6 ?_ ?_;(focus(simp only[z3];done));intro K hK;go_simp;refine hK _ ?_;clear hK K)
              refine zK ?_;intro hS;have hS':Below W5.heap.size W5 w':=hS;have hown6:=hown5.below hS';have hrl6:=hrl5.below hS';have hb6:Below B1 wb w':=by rw[<-HB1.out];exact xM hb5 hS'
              have hn0':=(hS'.cell (p:=⟨gx,0,none⟩) (by show gx<_;omega)).trans hn0;have hsz:=hS'.size;have hB6:B1<=w'.heap.size:=by rw[<-HB1.out];exact hb6.size
              clear hS hS' hne b0 b1 b2 hr1' hr2' hb5 hown5 hrl5 hn0 hn1 cc hcf hb';cases V with
              | true =>
                have hst3:F++tU L k (i,x) (j+1)=X:=by rw[Hst2.out,if_pos rfl,List.append_nil]
                have Hst3:=Lib.hid hst3;clear hst3;(go_wp2_with fail);go_roundw
                case rel=>exact⟨j+1,A',cap',by omega,by go_num,by rw[Hst3.out],by rw[Hst3.out];exact hown6,hb6,hrl6,hsub⟩
                case measure=>simp[intOf];omega
              | false =>
                have hst3:F++tU L k (i,x) (j+1)=X ++ [⟨m,k⟩]:=by rw[Hst2.out,if_neg (by simp)]
                have Hst3:=Lib.hid hst3;have hbx:Below w'.heap.size w' (w'.alloc (.cells (qR ⟨m,k⟩) 34)):=(Below.refl _ _).alloc (Nat.le_refl _) _;have hown7:=hown6.below hbx;have hrow7:z9 (w'.alloc (.cells (qR ⟨m,k⟩) 34)) w'.heap.size 0 2=some (qR ⟨m,k⟩):=by simp[go_sem]
                have hrl7:=hrl6.below hbx;clear hst3;go_wp2_with (at_builtin;refine yX pF rfl hown7 rfl hrow7 (tV _) (by omega) (by omega) (by simp;omega) ?_;intro A2 cap2 w2 hownA hkA hsubA)
                have hbA:Below B1 wb w2:=(hb6.alloc hB6 _).trans (hkA.below (B:=B1) (by simp;omega) fun y hy=>(hown6.at_base hy).1);have hrl8:=hrl7.kept hkA (fun hg=>absurd rfl (hsub.out g hg).1) (fun hg=>absurd rfl (hsub.out (g+1) hg).2);have hgw:g+1<w'.heap.size:=hrl6.lt.2;have hsub2:Hid (∀y∈blk A2,y≠g/\y≠g+1):=Lib.hid fun y hy=>by
                  rcases hsubA y hy with h | h
                  · exact hsub.out y h
                  · simp at h;omega
                clear hkA hsubA hrl7 hrow7 hown7 hbx hrl6 hown6;(go_wp2_with fail);go_roundw
                case rel=>exact⟨j+1,A2,cap2,by omega,by go_num,by rw[Hst3.out];simp,by rw[Hst3.out];show Own _ _ _ _ _ _ _ _;rw[List.map_append,List.length_append];exact hownA,hbA,hrl8,hsub2⟩
                case measure=>simp[intOf];omega
            · have hj3:j=3:=by omega
              have hx:F++tU L k (i,x) j=lZ L (k+1):=by rw[Hst.out,hj3]
              rw[hx]at hown |-;have hlt3:¬((j:Int)<3):=by omega
              clear hx hrl hsub;(go_wp2_with fail);go_roundw
              case rel=>exact⟨k+1,A',cap',by omega,by go_num,rfl,hown,hb⟩
              case measure=>simp[intOf];omega
        · have hkR:k=R.length:=by omega
          rw[hkR]at hown |-;obtain⟨X,hX⟩:∃X,lZ L R.length=X:=⟨_,rfl⟩
          rw[hX]at hown |-;have HX:=Lib.hid hX;clear hX;(go_wp2_with fail);go_ret;exact⟨A,cap,by rw[HL.out,HX.out];rfl,by rw[HL.out,HX.out];exact hown.mono (by rw[<-HB1.out];exact HB.out.size),xM HB.out (by rw[HB1.out];exact hb)⟩
def kZ:zJ:=⟨1 :: List.replicate 31 0,by decide⟩
def v6:j9:=⟨⟨[],2,⟨#[99,97]⟩,0,1,1,id0⟩,none,0⟩
theorem hdBad_e:hdE v6.h=12:=by
  have h1:¬4<v6.h.ps.length:=by decide
  have h2:bN v6.h.ps=true:=rfl;have h3:¬(v6.h.ht<1\/1073741824<v6.h.ht):=by decide
  have h4:((v6.h.ps.length==0) != (v6.h.ht==1))=true:=by decide
  unfold hdE;rw[if_neg h1,if_neg (by rw[h2];decide),if_neg h3,if_pos h4]
theorem fndBad:lZ [(kZ,v6)] 1 = [⟨2,0⟩,⟨3,0⟩]:=by
  have b0:KI [(kZ,v6)] (kZ,v6) 0=true:=rfl;have b1:KI [(kZ,v6)] (kZ,v6) 1=false:=by
    show decide (hdE v6.h=0/\hdI v6.h=kZ)=false;rw[decide_eq_false];rw[hdBad_e];omega
  have b2:KI [(kZ,v6)] (kZ,v6) 2=false:=rfl;have e:lZ [(kZ,v6)] 1=tU [(kZ,v6)] 0 (kZ,v6) 3:=rfl;rw[e];simp only[tU,b0,b1,b2];rfl
theorem qa (w:World):iR w v6:=⟨SlR.nil_,by decide,by decide,by decide⟩
theorem kz (w:World):Calls Tryz.prog 60 #[.slice none 0 0,.slice none 0 0] w fun e w'=>e = .returned (.bool true)/\w=w':=by
  go_enter Tryz.func60,Tryz.ntmps60
  (go_wp2_with fail);refine wp_loop_rounds 2 ?_;rw[rounds_succ];(go_wp2_with fail);go_ret;exact⟨rfl,rfl⟩
theorem nilSame (w:World):Calls Tryz.prog 24 #[.agg (zF ⟨1,0,.slice none 0 0⟩),.agg (zF ⟨1,0,.slice none 0 0⟩)] w fun e w'=>e = .returned (.bool true)/\Below w.heap.size w w':=by
  have hB:Below w.heap.size w ((w.alloc (.cells (zF ⟨1,0,.slice none 0 0⟩) 43)).alloc (.cells (zF ⟨1,0,.slice none 0 0⟩) 43)):=((Below.refl _ _).alloc (Nat.le_refl _) _).alloc (by simp) _;have ce:=kz ((w.alloc (.cells (zF ⟨1,0,.slice none 0 0⟩) 43)).alloc (.cells (zF ⟨1,0,.slice none 0 0⟩) 43));go_enter Tryz.func24,Tryz.ntmps24
  (go_wp2_with fail);refine ce.mono ?_;rintro e w1 ⟨rfl,rfl⟩;clear ce;(go_wp2_with fail);go_ret;exact⟨rfl,hB⟩
theorem ky (t:ByteArray) (w:World) (ht:t.size<=9223372036854775807) (hk:yO t=1) :
    Calls Tryz.prog 13 #[.string t,.slice none 0 0,.agg (zF ⟨1,0,.slice none 0 0⟩)] w fun e w'=>e = .returned (.bool true)/\Below w.heap.size w w':=by
  have ho2:(Value.slice none 0 0).oneCell'=true:=rfl;have hB:Below w.heap.size w (w.alloc (.cells (zF ⟨1,0,.slice none 0 0⟩) 43)):=(Below.refl _ _).alloc (Nat.le_refl _) _;have hr:z9 (w.alloc (.cells (zF ⟨1,0,.slice none 0 0⟩) 43)) w.heap.size 0 3=some (zF ⟨1,0,.slice none 0 0⟩):=by simp[go_sem]
  have cv:=kw t (w.alloc (.cells (zF ⟨1,0,.slice none 0 0⟩) 43)) ht hk;obtain⟨W,hW⟩:∃W,W=w.alloc (.cells (zF ⟨1,0,.slice none 0 0⟩) 43):=⟨_,rfl⟩
  have HW:=Lib.hid hW;rw[<-hW]at hB hr cv;clear hW hk;go_enter Tryz.func13,Tryz.ntmps13
  go_upto_region 1 with fail
  rw[<-HW.out];(go_wp2_with fail);refine cv.mono ?_;rintro e w1 ⟨rfl,hb1⟩;have hr1:=(zB (hb1.block w.heap.size (zI hr)) _ _).trans hr;have hr2:z9 (w1.alloc (.cells (zF ⟨1,0,.slice none 0 0⟩) 43)) w.heap.size 0 3=some (zF ⟨1,0,.slice none 0 0⟩):=by
    rw[zB (Below.heap_alloc _ _ _ (zI hr1))];exact hr1
  have hB1:=xM hB hb1;have hB2:Below w.heap.size w (w1.alloc (.cells (zF ⟨1,0,.slice none 0 0⟩) 43)):=hB1.alloc hB1.size _;have cs:=nilSame (w1.alloc (.cells (zF ⟨1,0,.slice none 0 0⟩) 43));clear cv hr hr1 hB hb1 hB1;(go_wp2_with fail);refine cs.mono ?_;rintro e w2 ⟨rfl,hb2⟩;clear cs;(go_wp2_with fail);go_ret;exact⟨rfl,xM hB2 hb2⟩
abbrev iS (w:World) (A:Option Addr) (F:List Fnd):Prop:=SlR w A F.length 2 (F.map qR)
theorem iS.get {w:World} {A:Option Addr} {F:List Fnd} (h:iS w A F) {i:Nat} (hi:i<F.length):∃g o,A=some ⟨g,o,none⟩/\w.cell? ⟨g,o+i*2,none⟩=some (.int .i64 (F[i]).k)/\w.cell? ⟨g,o+i*2+1,none⟩=some (.int .i64 (F[i]).i):=by
  obtain⟨g,o,e,hr⟩:=h.at_ hi;rw[List.getElem_map]at hr;have h0:=z8 hr (j:=0) (by omega);have h1:=z8 hr (j:=1) (by omega);rw[fndC_g0]at h0;rw[fndC_g1]at h1;exact⟨g,o,e,h0,h1⟩
theorem au_same (w:World) (A A':Option Addr) (cap cap':Nat) (F:List Fnd) (h:iS w A F) (h':iS w A' F) (hn:F.length<=300000) :
    Calls Tryz.prog 9 #[.slice A F.length cap,.slice A' F.length cap'] w fun e w'=>e = .returned (.bool true)/\Below w.heap.size w w':=by
  go_enter Tryz.func9,Tryz.ntmps9
  go_upto_region 4 with fail
  go_loopw [5] (fun i wr=>∃k:Nat,k<=F.length/\i = .int .i64 k/\Below w.heap.size w wr) (fun i _=>F.length-(intOf i).toNat)
  case atStart=>exact⟨0,Nat.zero_le _,rfl,Below.refl _ _⟩
  case round =>
    obtain⟨k,hk,rfl,hb⟩:=hrel;by_cases hlt:k<F.length
    · obtain⟨q,o,hq,c1,c2⟩:=iS.get (SlR.below h hb) hlt;obtain⟨q',o',hq',c3,c4⟩:=iS.get (SlR.below h' hb) hlt;obtain⟨f,hf⟩:∃f,F[k]'hlt=f:=⟨_,rfl⟩
      rw[hf]at c1 c2 c3 c4;subst hq;subst hq';clear hf;go_upto_region 6 with fail
      refine zA (Bel wr) false (by kernel_rfl) (by kernel_rfl) (by kernel_rfl) (zC wr) ?_;have hne:=zQ wr;have hS:=zC wr;have b1:=zP c1;have b2:=zP c2;have b3:=zP c3;have b4:=zP c4;repeat(refine z6 ?_ ?_;(focus(simp only[z3];done));intro K hK;go_simp;refine hK _ ?_;clear hK K)
      refine zK ?_;intro hS;clear hne hS b1 b2 b3 b4 c1 c2 c3 c4;(go_wp2_with fail);go_roundw
      case rel=>exact⟨k+1,by omega,by go_num,hb.drew⟩
      case measure=>simp[intOf];omega
    · (go_wp2_with fail);go_ret;exact⟨rfl,hb⟩
theorem einfoHd:yY Tryz.prog 22 30 38 104 :=
  .of (z:=.agg (hdC hd0)) Tryz.underlying22 (by kernel_rfl) (by kernel_rfl) (by kernel_rfl) (p7 _) (by omega)
@[go_sem ↓] theorem bsHd_rw (n:Nat) (parts:Array (Nat×Value)):Instr.buildSlice 22 n parts=bsS 22 n parts:=rfl
@[go_sem] theorem bsHd_run (w:World) (x:Hd):(bsS 22 1 #[(0,.agg (hdC x))]).run Tryz.prog w = .ok (.slice (some ⟨w.heap.size,0,none⟩) 1 1) (w.alloc (.cells (hdC x) 30)) :=
  k8 einfoHd (by omega) w (hdC x) (p7 x)
theorem buildBad (w:World):(bdS 30 #[(1,.int .i64 2),(2,.string ⟨#[99,97]⟩),(4,.int .i64 1),(5,.int .i64 1)]).run Tryz.prog w = .ok (.agg (hdR v6)) w:=by kernel_rfl
theorem rU {w:World} {g o k:Nat} {r:Array Value} (h:z9 w g o k=some r):SlR w (some ⟨g,o,none⟩) 1 k [r] :=
  ⟨rfl,fun _=>⟨g,o,rfl,fun i hi=>by
    have hi0:i=0:=by simpa using hi
    subst hi0;simpa using h⟩⟩
theorem kind_ca:yO ⟨#[99,97]⟩=1:=by decide +kernel
theorem gW (w:World) (hv:xT w):Calls Tryz.prog 5 #[] w fun e w'=>e = .returned (.bool true)/\Below w.heap.size w w':=by
  have b1:(idC id0).setIfInBounds 0 (.int .u8 1)=idC kZ:=by rfl
  have b2:=buildBad;have hB:Below w.heap.size w ((w.alloc (.cells (idC kZ) 24)).alloc (.cells (hdR v6) 30)):=((Below.refl _ _).alloc (Nat.le_refl _) _).alloc (by simp) _;have r1:z9 ((w.alloc (.cells (idC kZ) 24)).alloc (.cells (hdR v6) 30)) w.heap.size 0 32=some (idC kZ):=by
    rw[zB (Below.heap_alloc _ _ _ (by simp))];simp[go_sem]
  have r2:z9 ((w.alloc (.cells (idC kZ) 24)).alloc (.cells (hdR v6) 30)) (w.heap.size+1) 0 38=some (hdR v6):=by simp[go_sem]
  have hI:y8 ((w.alloc (.cells (idC kZ) 24)).alloc (.cells (hdR v6) 30)) (some ⟨w.heap.size,0,none⟩) 1 [kZ]:=rU r1;have hR:KM ((w.alloc (.cells (idC kZ) 24)).alloc (.cells (hdR v6) 30)) (some ⟨w.heap.size+1,0,none⟩) 1 [v6]:=rU r2;clear r1 r2;have ch:=KJ _ _ _ 1 1 [kZ] [v6] hI hR (by decide) (hv.below hB) (fun x hx=>by rw[List.mem_singleton.1 hx];exact qa _);have e0:lZ ([kZ].zip [v6]) [v6].length = [⟨2,0⟩,⟨3,0⟩]:=fndBad;rw[e0]at ch;clear e0 hI hR hv;go_enter Tryz.func5,Tryz.ntmps5
  (go_wp2_with fail);refine ch.mono ?_;rintro e w1 ⟨A,cap,rfl,hown,hb1⟩;obtain⟨q,o,rfl,k0,_⟩:=iS.get (F:=[⟨2,0⟩,⟨3,0⟩]) hown.slr (i:=0) (by decide);obtain⟨q',o',hq,k1,_⟩:=iS.get (F:=[⟨2,0⟩,⟨3,0⟩]) hown.slr (i:=1) (by decide);injection hq with hq
  injection hq with e1 e2
  subst e1;subst e2;have k0':w1.cell? ⟨q,o,none⟩=some (.int .i64 2):=k0;have k1':w1.cell? ⟨q,o+2,none⟩=some (.int .i64 3):=k1;clear k0 k1;have ct:=ky ⟨#[99,97]⟩ w1 (by decide) kind_ca;have bv:∀w:World,(bdS 43 #[(0,.int .i64 1)]).run Tryz.prog w = .ok (.agg (zF ⟨1,0,.slice none 0 0⟩)) w:=J5 1;clear ch hown;(go_wp2_with fail);refine ct.mono ?_;rintro e w2 ⟨rfl,hb2⟩;clear ct;(go_wp2_with fail);go_ret;exact⟨rfl,xM (xM hB hb1) hb2⟩
theorem pM (Q:Int) (A1 A2 A A3:Option Addr) (c1 c2 cap c3 n3:Nat) (S:List zJ) (B:List ByteArray) (t:ByteArray) (R:List zG) (k0 v0:Int) (Y:List xZ) (w:World)
    (hS:y8 w A1 S.length S) (hSn:S.length<=9223372036854775807) (hB:aK w A2 B.length B) (hBn:B.length<=9223372036854775807) (hBs:∀b∈B,b.size<=9223372036854775807) (ht:t.size<=9223372036854775807)
    (hm:q9 w A R.length R) (hRn:R.length<=9223372036854775807) (hRs:∀m∈R,m.body.size<=9223372036854775807) (hY:xL w A3 n3 Y) (hn3:n3<=9223372036854775807) (hv:xT w) (hp:yZ w) :
    Calls Tryz.prog 4 #[.int .i64 Q,.slice A1 S.length c1,.slice A2 B.length c2,.string t,.slice A R.length cap,.agg (zF ⟨k0,v0,.slice A3 n3 c3⟩)] w fun e w'=>e = .returned (.bool true)/\Below w.heap.size w w':=by
  have hB0:Below w.heap.size w (w.alloc (.cells (zF ⟨k0,v0,.slice A3 n3 c3⟩) 43)):=(Below.refl _ _).alloc (Nat.le_refl _) _;have hx0:z9 (w.alloc (.cells (zF ⟨k0,v0,.slice A3 n3 c3⟩) 43)) w.heap.size 0 3=some (zF ⟨k0,v0,.slice A3 n3 c3⟩):=by simp[go_sem]
  go_enter Tryz.func4,Tryz.ntmps4
  go_upto_region 1 with fail
  obtain⟨W,hW⟩:∃W,W=w.alloc (.cells (zF ⟨k0,v0,.slice A3 n3 c3⟩) 43):=⟨_,rfl⟩
  rw[<-hW]at hB0 hx0 |-;have hS1:=SlR.below hS hB0;have hT1:aK W A2 B.length B:=SlR.below hB hB0;have hm1:q9 W A R.length R:=SlR.below hm hB0;have hY1:xL W A3 n3 Y:=SlR.below hY hB0;have hv1:=hv.below hB0;have hp1:=hp.below hB0;obtain⟨g,hg⟩:∃g,w.heap.size=g:=⟨_,rfl⟩
  rw[hg]at hx0 |-;have Hg:=Lib.hid hg;have hcl:W.cell? ⟨g,2,none⟩=some (.slice A3 n3 c3):=by have:=z8 hx0 (j:=2) (by omega);simpa[go_sem]using this
  have hbr:Below W.heap.size W W:=Below.refl _ _;clear hW hS hB hm hY hv hp hg;by_cases hs20:20<S.length
  · have e1:(20:Int)<(S.length:Int):=by omega
    have hvz:=hv1.below hbr;have hbz:=xM hB0 hbr;(go_wp2_with fail);refine(gW W hvz).mono ?_;rintro e w9 ⟨rfl,hb9⟩;(go_wp2_with fail);go_ret;exact⟨rfl,xM hbz hb9⟩
  have e1:¬(20:Int)<(S.length:Int):=by omega
  by_cases hb20:20<B.length
  · have e2:(20:Int)<(B.length:Int):=by omega
    have hvz:=hv1.below hbr;have hbz:=xM hB0 hbr;(go_wp2_with fail);refine(gW W hvz).mono ?_;rintro e w9 ⟨rfl,hb9⟩;(go_wp2_with fail);go_ret;exact⟨rfl,xM hbz hb9⟩
  have e2:¬(20:Int)<(B.length:Int):=by omega
  by_cases hr20:20<R.length
  · have e3:(20:Int)<(R.length:Int):=by omega
    have hvz:=hv1.below hbr;have hbz:=xM hB0 hbr;(go_wp2_with fail);refine(gW W hvz).mono ?_;rintro e w9 ⟨rfl,hb9⟩;(go_wp2_with fail);go_ret;exact⟨rfl,xM hbz hb9⟩
  have e3:¬(20:Int)<(R.length:Int):=by omega
  by_cases hn60:60<n3
  · have e4:(60:Int)<(n3:Int):=by omega
    have hvz:=hv1.below hbr;have hbz:=xM hB0 hbr;(go_wp2_with fail);refine(gW W hvz).mono ?_;rintro e w9 ⟨rfl,hb9⟩;(go_wp2_with fail);go_ret;exact⟨rfl,xM hbz hb9⟩
  have e4:¬(60:Int)<(n3:Int):=by omega
  go_upto_region 4 with fail
  clear e1 e2 e3 e4 hcl hbr;go_loopw [13] (fun iv wr=>∃k:Nat,k<=B.length/\iv = .int .i64 k/\Hid (∀j (hj:j<B.length),j<k->(B[j]).size<=1000)/\Below W.heap.size W wr) (fun iv _=>B.length-(intOf iv).toNat)
  case atStart=>exact⟨0,Nat.zero_le _,rfl,Lib.hid (fun j hj h=>absurd h (by omega)),Below.refl _ _⟩
  case round =>
    obtain⟨k,hk,rfl,hz,hb⟩:=hrel;by_cases hlt:k<B.length
    · obtain⟨q,o,hq,hc⟩:=aK.get (SlR.below hT1 hb) hlt hlt;have hst:(B[k]'hlt).size<=1000->∀j (hj:j<B.length),j<k+1->(B[j]).size<=1000:=fun h j hj h2=>by
        by_cases e:j=k
        · subst e;exact h
        · exact hz.out j hj (by omega)
      have hbs:=hBs _ (List.getElem_mem hlt);obtain⟨b,hbb⟩:∃b,B[k]'hlt=b:=⟨_,rfl⟩
      rw[hbb]at hst hc hbs;have Hst:=Lib.hid hst;subst hq;clear hst hbb;by_cases h1:1000<b.size
      · have e1:(1000:Int)<(b.size:Int):=by omega
        have hvz:=hv1.below hb;have hbz:=xM hB0 hb;(go_wp2_with fail);refine(gW wr hvz).mono ?_;rintro e w9 ⟨rfl,hb9⟩;(go_wp2_with fail);go_ret;exact⟨rfl,xM hbz hb9⟩
      · have e1:¬(1000:Int)<(b.size:Int):=by omega
        (go_wp2_with fail);go_roundw
        case rel=>exact⟨k+1,by omega,by go_num,Lib.hid (Hst.out (by omega)),hb⟩
        case measure=>simp[intOf];omega
    · have hbk:∀b∈B,b.size<=1000:=fun b hb=>by
        obtain⟨j,hj,rfl⟩:=List.getElem_of_mem hb;exact hz.out j hj (by omega)
      have Hbk:=Lib.hid hbk;clear hbk hz hBs;obtain⟨w1,hw1⟩:∃w1,w1=wr:=⟨wr,rfl⟩
      rw[<-hw1]at hb |-;clear hw1;go_upto_region 9 with fail
      go_loopw [14] (fun iv wr=>∃k:Nat,k<=R.length/\iv = .int .i64 k/\Hid (∀j (hj:j<R.length),j<k->(R[j]).body.size<=600)/\Below W.heap.size W wr) (fun iv _=>R.length-(intOf iv).toNat)
      case atStart=>exact⟨0,Nat.zero_le _,rfl,Lib.hid (fun j hj h=>absurd h (by omega)),hb⟩
      case round =>
        clear hb hlt hk;obtain⟨k,hk,rfl,hz,hb⟩:=hrel;by_cases hlt:k<R.length
        · obtain⟨q,o,hq,_,_,hc⟩:=q9.get (SlR.below hm1 hb) hlt hlt;have hst:(R[k]'hlt).body.size<=600->∀j (hj:j<R.length),j<k+1->(R[j]).body.size<=600:=fun h j hj h2=>by
            by_cases e:j=k
            · subst e;exact h
            · exact hz.out j hj (by omega)
          have hbs:=hRs _ (List.getElem_mem hlt);obtain⟨b,hbb⟩:∃b,(R[k]'hlt).body=b:=⟨_,rfl⟩
          rw[hbb]at hst hc hbs;have Hst:=Lib.hid hst;subst hq;clear hst hbb;by_cases h1:600<b.size
          · have e1:(600:Int)<(b.size:Int):=by omega
            have hvz:=hv1.below hb;have hbz:=xM hB0 hb;(go_wp2_with fail);refine(gW wr hvz).mono ?_;rintro e w9 ⟨rfl,hb9⟩;(go_wp2_with fail);go_ret;exact⟨rfl,xM hbz hb9⟩
          · have e1:¬(600:Int)<(b.size:Int):=by omega
            (go_wp2_with fail);go_roundw
            case rel=>exact⟨k+1,by omega,by go_num,Lib.hid (Hst.out (by omega)),hb⟩
            case measure=>simp[intOf];omega
        · have hrk:∀m∈R,m.body.size<=600:=fun m hm=>by
            obtain⟨j,hj,rfl⟩:=List.getElem_of_mem hm;exact hz.out j hj (by omega)
          have Hrk:=Lib.hid hrk;clear hrk hz hRs;obtain⟨w2,hw2⟩:∃w2,w2=wr:=⟨wr,rfl⟩
          rw[<-hw2]at hb |-;clear hw2;have hpl:(wP t R).length<=1000000:=Nat.le_trans (sW t R) (by omega);have cv:=XM t A R.length cap R w2 (SlR.below hm1 hb) (by omega) Hrk.out ht hpl;(go_wp2_with fail);refine cv.mono ?_;rintro e wv ⟨A4,n4,c4,rfl,⟨hP,hn4⟩,hbv⟩;clear cv;go_upto_region 14 with fail
          obtain⟨g2,hg2⟩:∃g2,wv.heap.size=g2:=⟨_,rfl⟩
          have hba:Below wv.heap.size wv (wv.alloc (.cells (zF ⟨dN t,gZ t R,.slice A4 n4 c4⟩) 43)):=(Below.refl _ _).alloc (Nat.le_refl _) _;have hx2:z9 (wv.alloc (.cells (zF ⟨dN t,gZ t R,.slice A4 n4 c4⟩) 43)) wv.heap.size 0 3=some (zF ⟨dN t,gZ t R,.slice A4 n4 c4⟩):=by simp[go_sem]
          have hB2:Below W.heap.size W (wv.alloc (.cells (zF ⟨dN t,gZ t R,.slice A4 n4 c4⟩) 43)):=xM hb (xM hbv hba);have hP2:=SlR.below hP hba;obtain⟨V,hV⟩:∃V,V=wv.alloc (.cells (zF ⟨dN t,gZ t R,.slice A4 n4 c4⟩) 43):=⟨_,rfl⟩
          rw[<-hV]at hx2 hB2 hP2 |-;rw[hg2]at hx2 |-;have hx3:=(zB (hB2.block g (zI hx0)) _ _).trans hx0;have hS2:y8 V A1 S.length S:=SlR.below hS1 hB2;have hT2:aK V A2 B.length B:=SlR.below hT1 hB2;have hm2:q9 V A R.length R:=SlR.below hm1 hB2;have hY2:xL V A3 n3 Y:=SlR.below hY1 hB2;have hv2:=hv1.below hB2;have hp2:=hp1.below hB2;have hbF0:=xM hB0 hB2;have hG:(sI Q (S.zip B)).length<=21:=by have:=kf Q (S.zip B);have:=List.length_zip (l₁:=S) (l₂:=B);omega
          have C1:=fun (w':World) (hb:Below V.heap.size V w')=>JC w' Q A1 A2 c1 c2 S B (SlR.below hS2 hb) (SlR.below hT2 hb) (by omega) (by omega) Hbk.out (hv2.below hb);have C2:=fun (w':World) (hb:Below V.heap.size V w')=>Y9 w' Q A1 A2 c1 c2 S B (SlR.below hS2 hb) (SlR.below hT2 hb) (by omega) (by omega) Hbk.out;have T1:=fun (w':World) (hb:Below V.heap.size V w')=>JB w' t A A3 R.length cap n3 c3 R k0 v0 Y (SlR.below hm2 hb) (by omega) Hrk.out (hp2.below hb) ht (SlR.below hY2 hb) (by omega);have T2:=fun (w':World) (hb:Below V.heap.size V w')=>ye w' t A A3 R.length cap n3 c3 R k0 v0 Y (SlR.below hm2 hb) (by omega) Hrk.out (hp2.below hb) ht (SlR.below hY2 hb) (by omega);have T3:=fun (w':World) (hb:Below V.heap.size V w')=>JB w' t A A4 R.length cap n4 c4 R (dN t) (gZ t R) (wP t R) (SlR.below hm2 hb) (by omega) Hrk.out (hp2.below hb) ht (SlR.below hP2 hb) hn4;have Cw:=Lib.hid (fun (w':World) (hb:Below V.heap.size V w')=>gW w' (hv2.below hb));simp only[BY]at T3;obtain⟨G,hGG⟩:∃G,sI Q (S.zip B)=G:=⟨_,rfl⟩
          obtain⟨tb,htb⟩:∃tb,JQ t R k0 v0 Y=tb:=⟨_,rfl⟩
          obtain⟨E,hE⟩:∃E,xN t=E:=⟨_,rfl⟩
          rw[hGG]at hG;simp only[hGG]at C1 C2;simp only[htb]at T1 T2;simp only[hE]at T3;rw[hE];have C1:=Lib.hid C1;have C2:=Lib.hid C2;have T1:=Lib.hid T1;have T2:=Lib.hid T2;have T3:=Lib.hid T3;clear hV hg2 hba hP hbv hb hS2 hT2 hm2 hY2 hGG htb hE hx0 hP2;refine t8 (.loose 0 (.loose 1 (.loose 2 (.loose 4 (.loose 5 (.loose 6 (.one 3 (.one 7 (.one 8 (.loose 9 (.loose 10 (.loose 11 (.loose 12 (.loose 14 (.loose 15 (.loose 16 (.one 13 (.one 17 (.loose 18 (.loose 19 (.loose 20 (.loose 21 (.loose 22 (.loose 23 (.loose 25 (.loose 26 (.one 24 (.loose 27 (.loose 28 (.loose 29 (.one 30 (.loose 31 (.loose 32 .done))))))))))))))))))))))))))))))))) (Bel V) false (by kernel_rfl) (by kernel_rfl) (by kernel_rfl) (by kernel_rfl) (zC V) ?_;have hne:=zQ V;have hS:=zC V;have b1:=zY hx3;have b2:=zY hx2;clear hx3 hx2;repeat(refine xW rfl ?_ ?_;(focus(simp only[z3];done));intro K hK;go_simp;refine hK _ ?_;clear hK K)
          refine qA ?_ rfl ?_ ?_;(focus(exact hS));(focus(simp only[z3];done));intro K hK;go_simp;refine(C1.out _ hS).mono ?_;rintro e w6 ⟨Aa,ca,rfl,ho6,hb6⟩;have hs6:iS w6 Aa G:=ho6.slr;have hS2:=yN hS hb6;refine⟨_,rfl,hS2,hK _ _ ?_⟩;clear hK K hS hb6 ho6;have hS:=hS2;clear hS2;refine qA ?_ rfl ?_ ?_;(focus(exact hS));(focus(simp only[z3];done));intro K hK;go_simp;refine(C2.out _ hS).mono ?_;rintro e w7 ⟨Ar,cr,rfl,ho7,hb7⟩;have hs7:iS w7 Ar G:=ho7.slr;have hs8:iS w7 Aa G:=SlR.below hs6 hb7;have hS2:=yN hS hb7;refine⟨_,rfl,hS2,hK _ _ ?_⟩;clear hK K hS hb7 ho7 hs6;have hS:=hS2;clear hS2;have cs:=au_same w7 Aa Ar ca cr G hs8 hs7 (by omega);refine qA ?_ rfl ?_ ?_;(focus(exact hS));(focus(simp only[z3];done));intro K hK;go_simp;refine(cs).mono ?_;rintro e w' ⟨rfl,hb⟩;replace hS:=yN hS hb;refine⟨_,rfl,hS,hK _ _ ?_⟩;clear hK K hb;clear cs hs7 hs8;repeat(refine xW rfl ?_ ?_;(focus(simp only[z3];done));intro K hK;go_simp;refine hK _ ?_;clear hK K)
          refine qA ?_ rfl ?_ ?_;(focus(exact hS));(focus(simp only[z3];done));intro K hK;go_simp;refine(T1.out _ hS).mono ?_;rintro e w' ⟨rfl,hb⟩;replace hS:=yN hS hb;refine⟨_,rfl,hS,hK _ _ ?_⟩;clear hK K hb;refine qA ?_ rfl ?_ ?_;(focus(exact hS));(focus(simp only[z3];done));intro K hK;go_simp;refine(T2.out _ hS).mono ?_;rintro e w' ⟨rfl,hb⟩;replace hS:=yN hS hb;refine⟨_,rfl,hS,hK _ _ ?_⟩;clear hK K hb;repeat(refine xW rfl ?_ ?_;(focus(simp only[z3];done));intro K hK;go_simp;refine hK _ ?_;clear hK K)
          refine qA ?_ rfl ?_ ?_;(focus(exact hS));(focus(simp only[z3];done));intro K hK;go_simp;refine(T3.out _ hS).mono ?_;rintro e w' ⟨rfl,hb⟩;replace hS:=yN hS hb;refine⟨_,rfl,hS,hK _ _ ?_⟩;clear hK K hb;repeat(refine xW rfl ?_ ?_;(focus(simp only[z3];done));intro K hK;go_simp;refine hK _ ?_;clear hK K)
          refine qA ?_ rfl ?_ ?_;(focus(exact hS));(focus(simp only[z3];done));intro K hK;go_simp;refine(Cw.out _ hS).mono ?_;rintro e w' ⟨rfl,hb⟩;replace hS:=yN hS hb;refine⟨_,rfl,hS,hK _ _ ?_⟩;clear hK K hb;repeat(refine xW rfl ?_ ?_;(focus(simp only[z3];done));intro K hK;go_simp;refine hK _ ?_;clear hK K)
          refine aN ?_;intro hS;have hbF:=xM hbF0 (show Below V.heap.size V _ from hS);clear hS hne b1 b2;(go_wp2_with fail);go_ret;exact⟨rfl,hbF⟩
section
open Go.ChangeShapes Go.WideShapes Go.RowKit
theorem wV {P:Program} {n:String} {d:DataW Unit} {r:List (String×DataW Unit)} {w:World} (h:laidMet P ((n,d) :: r) w):laidMet P r w:=by
  obtain⟨ps,⟨g,t,cs,fuel,p,q,_,_,_,_,hr,rfl⟩,hn,hc⟩:=h;exact⟨q,hr,(List.nodup_append.1 hn).2.1,fun b off hm=>hc b off (List.mem_append_right _ hm)⟩
def tO:List (String×DataW Unit):=[("petrel/sha.first",Rows.laid_petrel_sha_first),("petrel/sha.k",Rows.laid_petrel_sha_k),("petrel/op.parts",Rows.laid_petrel_op_parts)]
theorem VW:(Rows.laid_petrel_sha_first:DataW Unit)=Lib.tabData .u32 (hU.map nU):=by kernel_rfl
theorem laid_k:(Rows.laid_petrel_sha_k:DataW Unit)=Lib.tabData .u32 (kU.map nU):=by kernel_rfl
theorem BA (L:List UInt32) (k:Nat) (hk:k<L.length):(L.map nU).getD k 0=nU (L.getD k 0):=by
  simp[List.getD,hk]
theorem sH {W:World} (h:laidMetH Tryz.prog tO W):xT W:=by
  have h':laidMet Tryz.prog tO W:=h;unfold tO at h';have h2:=wV h';rw[VW]at h';rw[laid_k]at h2;have hT:=Lib.tabIs_of_head (P:=Tryz.prog) (g:=0) (t:=93) (e:=92) (n:=8) (by kernel_rfl) (by kernel_rfl) Tryz.underlying93 Tryz.underlying92 (by kernel_rfl) (by kernel_rfl) h';have hT2:=Lib.tabIs_of_head (P:=Tryz.prog) (g:=1) (t:=125) (e:=92) (n:=64) (by kernel_rfl) (by kernel_rfl) Tryz.underlying125 Tryz.underlying92 (by kernel_rfl) (by kernel_rfl) h2;refine⟨fun k hk=>?_,fun k hk=>?_⟩
  · rw[hT.cell (g:=0) (by kernel_rfl) k (by rw[List.length_map];exact hk),BA _ _ (by exact hk)]
  · rw[hT2.cell (g:=1) (by kernel_rfl) k (by rw[List.length_map];exact hk),BA _ _ (by exact hk)]
def eQ (P:Program) (os:Os):World :=
  (((World.holding P os ⟨#[],#[],[]⟩).setRow 0 ((hU.map fun u=>Value.int .u32 (nU u)).toArray)).setRow 1 ((kU.map fun u=>Value.int .u32 (nU u)).toArray)).setRow 2 #[.int .i64 0,.int .i64 1,.int .i64 4,.int .i64 20,.int .i64 7,.int .i64 22,.int .i64 12,.int .i64 8]
theorem eP (os:Os) (args:Array Value):laidMetH Tryz.prog tO ((eQ Tryz.prog os).forCall (fun _ _=>0) ⟨#[],args,[]⟩).memory:=by
  show laidMet Tryz.prog tO _;exact laidMet_of_run' 8 (by kernel_rfl) (by kernel_rfl)
theorem ZX {H:Type} {enc:TypeId×Value->H} {P:Program} {w:World} {g:Nat->Bool} {gs:List (DataW H)} {q:List MemPlace} (hV:DataW.TrodVars enc P w g [] gs q):gs = []/\q = []:=by
  cases gs with
  | nil=>exact⟨rfl,hV⟩
  | cons g r=>exact absurd hV (by intro h;cases h)
end
section
open Go.RowKit Go.WideShapes
theorem Q0 {P:Program} {w:World} {T E:TypeId} {α:Type} {e:α->Array Value} {ok:α->Prop} {k:Nat} (u:P.underlying T=some (.slice E)) (o:lE P w E e ok) (hk:P.cellsOf E=k) (hk0:0<k) :
    lE P w T (fun s:Option Addr×Nat×Nat×List α=>#[.slice s.1 s.2.1 s.2.2.1]) (fun s=>SlR w s.1 s.2.1 k (s.2.2.2.map e)/\s.2.1<=s.2.2.1/\s.2.2.1<=maxLen):=by
  intro H enc base spare held fuel cs x h;rcases Go.Deep.open_slice u h with⟨h0,hx⟩ | ⟨a,len,cap',m,f,D,Pl,hcs,hb,hlc,hcm,hm,hx,hel⟩
  · exact⟨(none,0,0,[]),h0,⟨rfl,fun h=>(Nat.lt_irrefl 0 h).elim⟩,Nat.le_refl _,Nat.zero_le _⟩
  · have hnm:len<=m:=by rw[hm];split <;> omega
    have hall:∀i,i<len->∃x:α,w.cells? base (a.add (i*k)) k=some (e x).toList/\ok x:=by
      intro i hi;obtain⟨cs',h1,h2⟩:=hel i (by omega);rw[hk]at h1;obtain⟨x,rfl,hx⟩:=o _ _ _ _ _ _ _ h2;exact⟨x,h1,hx⟩
    clear hel;by_cases hn:len=0
    · subst hn;exact⟨(some a,0,cap',[]),hcs,⟨rfl,fun h=>(Nat.lt_irrefl 0 h).elim⟩,by omega,by omega⟩
    · obtain⟨x0,hx0,_⟩:=hall 0 (by omega)
      haveI:Inhabited α:=⟨x0⟩
      obtain⟨R,hR⟩:=Go.Deep.choose_lt hall;have hsp:a.spot=none:=by
        unfold World.cells? at hx0;split at hx0
        · have:=mapM_some_get hx0 0 0 (by simp[hk0]);have hlen:(e x0).toList.length=k:=by simpa using mapM_some_length hx0
          rw[List.getElem?_eq_getElem (by omega)]at this;have:=World.cell?_spot this;simpa[Addr.add]using this
        · cases hx0
      obtain⟨g,o',sp⟩:=a;simp only at hsp;subst hsp;refine⟨(some ⟨g,o',none⟩,len,cap',(List.range len).map R),hcs,⟨by simp,fun _=>⟨g,o',rfl,?_⟩⟩,by omega,by omega⟩;intro i hi;have hi':i<len:=by simpa using hi
      have h1:=(hR i hi').1;have e1:(⟨g,o',none⟩:Addr).add (i*k)=⟨g,o'+i*k,none⟩:=by
        unfold Addr.add;split
        · rename_i e;rw[e];rfl
        · rfl
      rw[e1]at h1;rw[tC h1 hk0]
      simp
end
section
open Go.ChangeShapes Go.WideShapes Go.ChangeAt Go.RowKit Go.WideMaps Go.WideElems
theorem rY:maxLen<=9223372036854775807:=by decide
theorem VI {w:World}:lE Tryz.prog w 122 zN (fun _=>True):=by
  intro H enc base spare held fuel cs x h;obtain⟨xs,n,rfl,_,hlen,hxl,hel⟩:=DataW.trod_struct Tryz.underlying122 h;have hc:Tryz.prog.cellsOf 122=2:=by kernel_rfl
  rw[hc]at hlen;obtain⟨a0,h0,_⟩:=vV hxl hel (gC Tryz.underlying9) 0 0 1 _ rfl rfl rfl (by kernel_rfl);obtain⟨a1,h1,_⟩:=vV hxl hel (gC Tryz.underlying9) 1 1 1 _ rfl rfl rfl (by kernel_rfl);refine⟨⟨a0,a1⟩,?_,trivial⟩;have e0:cs.drop 0=(cs.drop 0).take 1++cs.drop 1:=fO;have e1:cs.drop 1=(cs.drop 1).take 1++cs.drop 2:=fO;have en:cs.drop 2 = []:=List.drop_eq_nil_of_le (by omega);refine e0.trans ?_;rw[h0,e1,h1,en];rfl
structure ValIn where
  k:Int
  n:Int
  A:Option Addr
  m:Nat
  c:Nat
  Y:List xZ
theorem yt {w:World}:lE Tryz.prog w 43 (fun x:ValIn=>zF ⟨x.k,x.n,.slice x.A x.m x.c⟩) (fun x=>SlR w x.A x.m 2 (x.Y.map zN)/\x.m<=9223372036854775807):=by
  intro H enc base spare held fuel cs x h;obtain⟨xs,n,rfl,_,hlen,hxl,hel⟩:=DataW.trod_struct Tryz.underlying43 h;have hc:Tryz.prog.cellsOf 43=3:=by kernel_rfl
  rw[hc]at hlen;obtain⟨a0,h0,_⟩:=vV hxl hel (pV Tryz.underlying3) 0 0 1 _ rfl rfl rfl (by kernel_rfl);obtain⟨a1,h1,_⟩:=vV hxl hel (pV Tryz.underlying3) 1 1 1 _ rfl rfl rfl (by kernel_rfl);obtain⟨a2,h2,k2⟩:=vV hxl hel (Q0 (k:=2) Tryz.underlying41 VI (by kernel_rfl) (by omega)) 2 2 1 _ rfl rfl rfl (by kernel_rfl);obtain⟨A,m,c,Y⟩:=a2;obtain⟨r1,r2,r3⟩:=k2;have hml:=rY;simp only at r1 r2 r3;refine⟨⟨a0,a1,A,m,c,Y⟩,?_,r1,(by simp only;omega)⟩;have e0:cs.drop 0=(cs.drop 0).take 1++cs.drop 1:=fO;have e1:cs.drop 1=(cs.drop 1).take 1++cs.drop 2:=fO;have e2:cs.drop 2=(cs.drop 2).take 1++cs.drop 3:=fO;have en:cs.drop 3 = []:=List.drop_eq_nil_of_le (by omega);refine e0.trans ?_;rw[h0,e1,h1,e2,h2,en];rfl
end
end Go.Proofs.YtgedpfebepdcmaaGreatDoor
