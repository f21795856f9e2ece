/- Part 14 of the texts that lead to this claim: the walks of the functions and the plain law, in order. -/
import Derived.Test.YtgfpjjppeldhbaaGreatDoorMp13
import Derived.Test.YtgfpjjppeldhbaaGreatDoorRows
import Derived.LaidLaws
import Derived.LaidHandle
import Derived.Stop.Joined
namespace Go.Proofs.YtgfpjjppeldhbaaGreatDoor
section
open Go.RowKit
theorem SlX.none_ {w : World} {g k : Nat} : SlX w g ⟨none,0,0⟩ k []:=⟨SlW.none_,by simp [blk]⟩
theorem rv_new (t : ByteArray) (w : World) : qJ (w.alloc (.cells (rvC t ⟨none,0,0⟩ 0 ⟨none,0,0⟩ ⟨none,0,0⟩ ⟨none,0,0⟩ ⟨none,0,0⟩ ⟨none,0,0⟩ ⟨none,0,0⟩ ⟨none,0,0⟩) 69)) w.heap.size t [] rv0 :=
  ⟨⟨none,0,0⟩,⟨none,0,0⟩,⟨none,0,0⟩,⟨none,0,0⟩,⟨none,0,0⟩,⟨none,0,0⟩,⟨none,0,0⟩,⟨none,0,0⟩,heap_alloc_new w _,SlX.none_,SlX.none_,SlX.none_,SlX.none_,SlX.none_,SlX.none_,SlX.none_,SlX.none_⟩
set_option maxRecDepth 100000 in
set_option maxHeartbeats 4000000 in
theorem pR (t : ByteArray) (A : Option Addr) (n cap : Nat) (R : List yR) (d : zK) (w : World) (hp : xE w) (ht : t.size ≤ 9223372036854775807) (h : X7 w A n R) :
    Calls Tryz.prog 7 #[.string t,.slice A n cap,.agg (idC d)] w fun e w'=>e = .returned (.bool true) ∧ Below w.heap.size w w':=by
  have hb0 : Below w.heap.size w (w.alloc (.cells (idC d) 39)):=(Below.refl _ _).alloc (Nat.le_refl _) _;have hd0 : zF (w.alloc (.cells (idC d) 39)) w.heap.size 0 32 = some (idC d):=by simp [go_sem]
  have hlen:=h.rows.len;have hrows : kE (w.alloc (.cells (idC d) 39)) A n R:=SlR.below h.rows hb0;have hnb:=h.big;have c1:=vmuch (w.alloc (.cells (idC d) 39)) A n cap R ⟨hrows,hnb,h.each⟩;have hp0:=hp.below hb0;have hpl:=hp.lt;have hro:=h.rows;clear h hp;go_enter Tryz.func7,Tryz.ntmps7
  go_upto_region 1 with fail
  obtain ⟨gd,hgd⟩ : ∃ gd,w.heap.size = gd:=⟨_,rfl⟩
  obtain ⟨W0,hW0⟩ : ∃ W0,w.alloc (.cells (idC d) 39) = W0:=⟨_,rfl⟩
  have Hgd:=Lib.hid hgd;rw [hW0] at hb0 hd0 hrows c1 hp0;rw [hW0];rw [hgd] at hd0 ⊢;have hz0 : w.heap.size < W0.heap.size:=by rw [← hW0];simp
  clear hW0 hgd;(go_wp2_with fail);refine c1.mono ?_;rintro e w1 ⟨mb,rfl,hfew,hb1⟩;have hb01:=yN hb0 hb1;have hp1:=hp0.below hb1;clear c1;cases mb with
  | true =>
    clear hfew;(go_wp2_with fail);refine (eI w1 hp1).mono ?_;rintro e w2 ⟨rfl,hb2⟩;(go_wp2_with fail);go_ret;exact ⟨rfl,yN hb01 hb2⟩
  | false =>
    have hf:=hfew rfl;have hn30 : n ≤ 30:=by have:=hf.1;omega
    have hd1 : zF w1 gd 0 32 = some (idC d):=(zI (hb1.block gd (zL hd0)) _ _).trans hd0;have hrows1 : kE w1 A n R:=SlR.below hrows hb1;have Hf:=Lib.hid hf;have Hlen:=Lib.hid hlen;have hz1 : w.heap.size < w1.heap.size:=Nat.lt_of_lt_of_le hz0 hb1.size;clear hfew hf hlen hb0 hb1 hd0 hrows hp0 hz0;have c2:=fun w=>ZP t w ht;by_cases hk : yU t = 0
    · have hcn : jW t ≠ 0:=by unfold jW;rw [if_pos hk];decide
      have c3:=JE t w1 ht hk;obtain ⟨E,hE⟩ : ∃ E,jW t = E:=⟨_,rfl⟩
      rw [hE] at hcn c2 c3;have hcb : (E != 0) = true:=by simpa using hcn
      clear hcn hk hE;(go_wp2_with fail);refine c3.mono ?_;rintro e w2 ⟨rfl,hb2⟩;have hb02:=yN hb01 hb2;have hp2:=hp1.below hb2;clear c3 hd1 hrows1 hb01 hp1;(go_wp2_with fail);refine (c2 w2).mono ?_;rintro e w3 ⟨rfl,hb3⟩;have hb03:=yN hb02 hb3;have hp3:=hp2.below hb3;clear c2 hb2 hb3 hb02 hp2;(go_wp2_with fail);refine (eI w3 hp3).mono ?_;rintro e w4 ⟨rfl,hb4⟩;(go_wp2_with fail);go_ret;exact ⟨rfl,yN hb03 hb4⟩
    · have hE : jW t = 0:=by unfold jW;rw [if_neg hk]
      rw [hE] at c2;have hT0:=l0.new t hk;have c3:=JF t w1 ht hk (by omega);obtain ⟨s0,hs0⟩ : ∃ s0,VSt.new (yU t) = s0:=⟨_,rfl⟩
      rw [hs0] at hT0 c3;have Hk:=Lib.hid hk;have HT0:=Lib.hid hT0;clear hE hk hs0 hT0;(go_wp2_with fail);refine c3.mono ?_;rintro e w2 ⟨g,b,O,v,rfl,hV,hbO,hgw,hb2⟩;have hS : ∀ x ∈ b :: O,w1.heap.size ≤ x:=fun x hx=>hbO x hx;have hb02:=yN hb01 hb2;have hp2:=hp1.below hb2;have hd2 : zF w2 gd 0 32 = some (idC d):=(zI (hb2.block gd (zL hd1)) _ _).trans hd1;have hrows2 : kE w2 A n R:=SlR.below hrows1 hb2;clear c3 hb01 hp1 hd1 hrows1 hbO;(go_wp2_with fail);refine (c2 w2).mono ?_;rintro e w3 ⟨rfl,hb3⟩;have hb03:=yN hb02 hb3;have hV3:=hV.below hb3;have hp3:=hp2.below hb3;have hd3 : zF w3 gd 0 32 = some (idC d):=(zI (hb3.block gd (zL hd2)) _ _).trans hd2;have hrows3 : kE w3 A n R:=SlR.below hrows2 hb3;have hx3 : qJ (w3.alloc (.cells #[.string t,.slice none 0 0,.int .i64 0,.slice none 0 0,.slice none 0 0,.slice none 0 0,.slice none 0 0,.slice none 0 0,.slice none 0 0,.slice none 0 0] 69)) w3.heap.size t [] rv0:=rv_new t w3;have hb4 : Below w3.heap.size w3 (w3.alloc (.cells #[.string t,.slice none 0 0,.int .i64 0,.slice none 0 0,.slice none 0 0,.slice none 0 0,.slice none 0 0,.slice none 0 0,.slice none 0 0,.slice none 0 0] 69)):=(Below.refl _ _).alloc (Nat.le_refl _) _;have hgx : ∀ x ∈ g :: b :: O,x < w3.heap.size:=fun x hx=>by
        rcases List.mem_cons.1 hx with rfl | hx
        · exact hV3.view.lt
        · exact hV3.lt x hx
      have hs13 : w1.heap.size ≤ w3.heap.size:=Nat.le_trans hb2.size hb3.size;clear c2 hb2 hb3 hb02 hV hp2 hd2 hrows2;go_upto_region 9 with fail
      obtain ⟨gx,hgxe⟩ : ∃ gx,w3.heap.size = gx:=⟨_,rfl⟩
      obtain ⟨W4,hW4⟩ : ∃ W4,(w3.alloc (.cells #[.string t,.slice none 0 0,.int .i64 0,.slice none 0 0,.slice none 0 0,.slice none 0 0,.slice none 0 0,.slice none 0 0,.slice none 0 0,.slice none 0 0] 69)) = W4:=⟨_,rfl⟩
      have hV4:=hV3.below hb4;have hp4:=hp3.below hb4;have hd4 : zF _ gd 0 32 = some (idC d):=(zI (hb4.block gd (zL hd3)) _ _).trans hd3;have hrows4 : kE _ A n R:=SlR.below hrows3 hb4;have hb04:=yN hb03 hb4;rw [hW4] at hV4 hp4 hd4 hrows4 hb04 hx3;rw [hW4];rw [hgxe] at hx3 hgx hs13 ⊢;have hgxn : ∀ x ∈ g :: b :: O,x ≠ gx:=fun x hx=>(by have:=hgx x hx;omega);have Hgxn:=Lib.hid hgxn;have HS:=Lib.hid hS;have Hd:=Lib.hid (show gd < w1.heap.size by rw [← Hgd.out];exact hz1);have hgxw : w.heap.size < gx:=by omega
      clear hb4 hW4 hgxe hV3 hp3 hd3 hrows3 hb03 hgx hgxn hS;(go_wp2_with fail);go_loopw [10] (fun iv wr=>∃ (i : Nat) (I : List zK) (s : VSt) (x : RV),i ≤ n ∧ iv = .int .i64 i ∧ VAt wr g t b O I v s ∧ qJ wr gx t (yA zO I) x ∧ Hid (l0 t i I s x) ∧ zC (gx :: b :: O) W4 wr) (fun iv _=>n - (intOf iv).toNat)
      case atStart=>exact ⟨0,[],s0,rv0,Nat.zero_le _,rfl,hV4,hx3,HT0,zC.refl _ _⟩
      case round =>
        clear hV4 hx3 HT0;obtain ⟨i,I,s,x,hi,rfl,hV,hX,HT,hkr⟩:=hrel;have hb0S : ∀ x ∈ gx :: b :: O,w.heap.size ≤ x:=fun x hx=>by
          rcases List.mem_cons.1 hx with rfl | hx
          · omega
          · have:=HS.out x hx;omega
        have hpr : xE wr:=hp4.kept hkr (fun h0=>by have:=hb0S 0 h0;omega);by_cases hlt : i < n
        · obtain ⟨gm,om,rfl,hrow,hid,hbody⟩:=kE.get hrows4 hlt (by rw [Hlen.out];exact hlt);have hgm : gm < w.heap.size:=by
            obtain ⟨g9,o9,e9,hr9⟩:=SlR.at_ hro hlt;injection e9 with e9;injection e9 with e9 _
            subst e9;exact zL hr9
          have hms:=Hf.out.2 (R[i]'(by rw [Hlen.out];exact hlt)) (List.getElem_mem (by rw [Hlen.out];exact hlt));obtain ⟨m,hm⟩ : ∃ m,R[i]'(by rw [Hlen.out];exact hlt) = m:=⟨_,rfl⟩
          rw [hm] at hrow hms;have hgmS : gm ∉ gx :: b :: O:=fun hx=>(by have:=hb0S gm hx;omega);have hrow' : zF wr gm (om + i * 34) 34 = some (zP m):=(hkr.row (zL hrow) hgmS _ _).trans hrow;have cf1:=fun w' (h' : VAt w' g t b O I v s) (hp' : xE w')=>Z8 m w' g t b O I v s h' hp' (by omega) ht HT.out.kind.symm (by have:=HT.out.len;omega);have cf2:=fun w' (h' : qJ w' gx t (yA zO I) x)=>eX m w' gx t I x h' (by have:=HT.out.ids;omega) (by omega) ht HT.out.ok (by have:=HT.out.xlen;omega);have hT':=HT.out.step m;obtain ⟨fb,hfb⟩ : ∃ fb,(!decide (m.id ∈ I)) = fb:=⟨_,rfl⟩
          have hfbb : (fb != fb) = false:=by simp
          obtain ⟨I',hI'⟩ : ∃ I',uZ m I = I':=⟨_,rfl⟩
          obtain ⟨s',hs'⟩ : ∃ s',lU t m I s = s':=⟨_,rfl⟩
          obtain ⟨x',hx'⟩ : ∃ x',lT t m I x = x':=⟨_,rfl⟩
          rw [hfb,hI',hs'] at cf1;rw [hfb,hI',hx'] at cf2;rw [hI',hs',hx'] at hT';have HT':=Lib.hid hT';clear hm hrow hid hbody hms hfb hI' hs' hx' hT' HT;have cval:=fun w' h'=>vval_t HT'.out.toaW ht (by omega) w' g b O v h';have crval:=fun w' h' hx'=>rval_t HT'.out ht Hk.out (by omega) w' g gx b O v (yA zO I') h' hx';have csame:=fun w' A B m m' c c' hx hy=>same_t w' s'.kind s'.num A B m m' c c' s'.pairs hx hy;have cids:=fun w' h'=>vids_t HT'.out.toaW (by omega) w' g b O v h';have csids:=fun w' A B m m' c c' hx hy=>sameI_t w' A B m m' c c' (yA zO I') hx hy;have cxids:=fun (w' : World) (h' : qJ w' gx t (yA zO I') x')=>h'.ids_t HT'.out.toaW (by omega);obtain ⟨kd,hkd⟩ : ∃ kd,s'.kind = kd:=⟨_,rfl⟩
          obtain ⟨nm,hnm⟩ : ∃ nm,s'.num = nm:=⟨_,rfl⟩
          rw [hkd,hnm] at cval crval csame;have Cval:=Lib.hid cval;have Crval:=Lib.hid crval;have Csame:=Lib.hid csame;have Cids:=Lib.hid cids;have Csids:=Lib.hid csids;have Cxids:=Lib.hid cxids;have hgxO : gx ∉ b :: O:=fun hx=>Hgxn.out gx (List.mem_cons_of_mem _ hx) rfl;have HgxO:=Lib.hid hgxO;have Hb0S:=Lib.hid hb0S;have HgmS:=Lib.hid hgmS;clear cval crval csame cids csids cxids hkd hnm hgxO hb0S hgmS hgm hgxw;go_upto_region 12 with fail
          have b1:=yP hrow' (S:=gx :: b :: O) HgmS.out;refine LC.u1 (.loose 0 (.loose 1 (.loose 2 (.loose 3 (.loose 4 (.loose 6 (.loose 7 (.loose 8 (.loose 9 (.loose 10 (.one 5 (.one 11 (.loose 12 (.loose 13 (.loose 14 (.loose 16 (.one 15 (.one 17 (.one 18 (.loose 19 (.loose 20 (.loose 21 (.loose 22 (.loose 24 (.loose 25 (.loose 26 (.two 23 (.one 27 (.one 28 (.loose 29 (.loose 30 .done)))) 27 (.one 23 (.one 28 (.loose 29 (.loose 30 .done))))))))))))))))))))))))))))))) (Kp (gx :: b :: O) wr) (LC.cvOf 50) (by kernel_rfl) (by kernel_rfl) (by kernel_rfl) (by kernel_rfl) (yB (gx :: b :: O) wr) ?_;have hne:=xD (gx :: b :: O) wr;have hS:=yB (gx :: b :: O) wr;repeat (refine LC.q3 rfl ?_ ?_;(focus (first | (simp only [LC.zA,LC.cvOf];done) | rfl));intro K hK;go_simp;refine hK _ ?_;clear hK K)
          refine LC.qD ?_ rfl ?_ ?_;(focus (exact hS));focus (first | (simp only [LC.zA,LC.cvOf];done) | rfl)
          intro K hK;go_simp;refine (cf1 _ (hV.below (zG wr)) (hpr.below (zG wr))).mono ?_;rintro e w1' ⟨rfl,hV1,hk1⟩;have hX1 : qJ w1' gx t (yA zO I) x:=(hX.below (zG wr)).kept_small hk1 (hV.below (zG wr)).small HgxO.out;have hS1 : Kp (gx :: b :: O) wr w1':=zC.trans hS hk1 (fun y hy=>.inl (List.mem_cons_of_mem _ hy));refine ⟨_,rfl,hS1,hK _ _ ?_⟩;clear hK K hS;have hS:=hS1;clear hS1;refine LC.qD ?_ rfl ?_ ?_;(focus (exact hS));focus (first | (simp only [LC.zA,LC.cvOf];done) | rfl)
          intro K hK;go_simp;refine (cf2 _ hX1).mono ?_;rintro e w2' ⟨rfl,hX2,hk2⟩;have hV2 : VAt w2' g t b O I' v s':=hV1.kept_small hk2 (fun y hy=>by rw [List.mem_singleton] at hy;rw [hy];exact hX1.small) (fun y hy hm=>Hgxn.out y hy (List.mem_singleton.1 hm));have hS2 : Kp (gx :: b :: O) wr w2':=zC.trans hS hk2 (fun y hy=>.inl (by rw [List.mem_singleton.1 hy];exact List.mem_cons_self));refine ⟨_,rfl,hS2,hK _ _ ?_⟩;clear hK K hS hV1 hX1 hk1 hk2;have hS:=hS2;clear hS2;repeat (refine LC.q3 rfl ?_ ?_;(focus (first | (simp only [LC.zA,LC.cvOf];done) | rfl));intro K hK;go_simp;refine hK _ ?_;clear hK K)
          refine LC.qD ?_ rfl ?_ ?_;(focus (exact hS));focus (first | (simp only [LC.zA,LC.cvOf];done) | rfl)
          intro K hK;go_simp;refine (Cval.out _ hV2).mono ?_;rintro e w3' ⟨A1,m1,c1',rfl,hp1',hb1⟩;have hV3:=hV2.below hb1;have hX3:=hX2.below hb1;have hS3 : Kp (gx :: b :: O) wr w3':=kX hS hb1;refine ⟨_,rfl,hS3,hK _ _ ?_⟩;clear hK K hS hb1 hV2 hX2;have hS:=hS3;clear hS3;refine LC.qD ?_ rfl ?_ ?_;(focus (exact hS));focus (first | (simp only [LC.zA,LC.cvOf];done) | rfl)
          intro K hK;go_simp;refine (Crval.out _ hV3 hX3).mono ?_;rintro e w4' ⟨A2,m2,c2',rfl,hp2',hb2⟩;have hV4:=hV3.below hb2;have hX4:=hX3.below hb2;have hq1 : v4 w4' A1 m1 s'.pairs ∧ m1 ≤ 1000000:=⟨SlR.below hp1'.1 hb2,hp1'.2⟩
          have hS3 : Kp (gx :: b :: O) wr w4':=kX hS hb2;refine ⟨_,rfl,hS3,hK _ _ ?_⟩;clear hK K hS hb2 hV3 hX3 hp1';have hS:=hS3;clear hS3;refine LC.qD ?_ rfl ?_ ?_;(focus (exact hS));focus (first | (simp only [LC.zA,LC.cvOf];done) | rfl)
          intro K hK;go_simp;refine (Csame.out _ _ _ _ _ _ _ hq1 hp2').mono ?_;rintro e w5' ⟨rfl,hb3⟩;have hV5:=hV4.below hb3;have hX5:=hX4.below hb3;have hS3 : Kp (gx :: b :: O) wr w5':=kX hS hb3;refine ⟨_,rfl,hS3,hK _ _ ?_⟩;clear hK K hS hb3 hV4 hX4 hq1 hp2';have hS:=hS3;clear hS3;repeat (refine LC.q3 rfl ?_ ?_;(focus (first | (simp only [LC.zA,LC.cvOf];done) | rfl));intro K hK;go_simp;refine hK _ ?_;clear hK K)
          obtain ⟨XA,xm,xc,hxc,hxt⟩:=Cxids.out _ hX5;refine LC.fP ?_ ?_
          · skip;refine LC.qD ?_ rfl ?_ ?_;(focus (exact hS));focus (first | (simp only [LC.zA,LC.cvOf];done) | rfl)
            intro K hK;go_simp;refine (Cids.out _ hV5).mono ?_;rintro e w6' ⟨A3,m3,c3',rfl,hi3,hb4⟩;have hV6:=hV5.below hb4;have hX6:=hX5.below hb4;have hxc6:=(hb4.cell (p:=⟨gx,1,none⟩) (World.block_lt_of_cell? _ _ hxc)).trans hxc;have hxt6 : y4 w6' XA xm (yA zO I') ∧ xm ≤ 1000000:=⟨SlR.below hxt.1 hb4,hxt.2⟩
            have hS3 : Kp (gx :: b :: O) wr w6':=kX hS hb4;refine ⟨_,rfl,hS3,hK _ _ ?_⟩;clear hK K hS hb4 hV5 hX5 hxc hxt;have hS:=hS3;clear hS3;refine LC.qD ?_ rfl ?_ ?_;(focus (exact hS));focus (first | (simp only [LC.zA,LC.cvOf];done) | rfl)
            intro K hK;go_simp;refine hK _ _ ?_;clear hK K;refine LC.qD ?_ rfl ?_ ?_;(focus (exact hS));focus (first | (simp only [LC.zA,LC.cvOf];done) | rfl)
            intro K hK;go_simp;refine (Csids.out _ _ _ _ _ _ _ hi3 hxt6).mono ?_;rintro e w7' ⟨rfl,hb5⟩;have hV7:=hV6.below hb5;have hX7:=hX6.below hb5;have hS3 : Kp (gx :: b :: O) wr w7':=kX hS hb5;refine ⟨_,rfl,hS3,hK _ _ ?_⟩;clear hK K hS hb5 hV6 hX6 hxc6 hxt6 hi3;repeat (refine LC.q3 rfl ?_ ?_;(focus (first | (simp only [LC.zA,LC.cvOf];done) | rfl));intro K hK;go_simp;refine hK _ ?_;clear hK K)
            refine LC.rC ?_;intro hS;have hkz : zC (gx :: b :: O) W4 w7':=zC.trans hkr hS (fun y hy=>.inl hy);clear hS hS3 hkr hne b1;(go_wp2_with fail);go_roundw
            case rel=>exact ⟨i + 1,I',s',x',by omega,by go_num,hV7,hX7,HT',hkz⟩
            case measure=>simp [intOf];omega
          · skip;refine LC.qD ?_ rfl ?_ ?_;(focus (exact hS));focus (first | (simp only [LC.zA,LC.cvOf];done) | rfl)
            intro K hK;go_simp;refine hK _ _ ?_;clear hK K;refine LC.qD ?_ rfl ?_ ?_;(focus (exact hS));focus (first | (simp only [LC.zA,LC.cvOf];done) | rfl)
            intro K hK;go_simp;refine (Cids.out _ hV5).mono ?_;rintro e w6' ⟨A3,m3,c3',rfl,hi3,hb4⟩;have hV6:=hV5.below hb4;have hX6:=hX5.below hb4;have hxt6 : y4 w6' XA xm (yA zO I') ∧ xm ≤ 1000000:=⟨SlR.below hxt.1 hb4,hxt.2⟩
            have hS3 : Kp (gx :: b :: O) wr w6':=kX hS hb4;refine ⟨_,rfl,hS3,hK _ _ ?_⟩;clear hK K hS hb4 hV5 hX5 hxc hxt;have hS:=hS3;clear hS3;refine LC.qD ?_ rfl ?_ ?_;(focus (exact hS));focus (first | (simp only [LC.zA,LC.cvOf];done) | rfl)
            intro K hK;go_simp;refine (Csids.out _ _ _ _ _ _ _ hi3 hxt6).mono ?_;rintro e w7' ⟨rfl,hb5⟩;have hV7:=hV6.below hb5;have hX7:=hX6.below hb5;have hS3 : Kp (gx :: b :: O) wr w7':=kX hS hb5;refine ⟨_,rfl,hS3,hK _ _ ?_⟩;clear hK K hS hb5 hV6 hX6 hxt6 hi3;repeat (refine LC.q3 rfl ?_ ?_;(focus (first | (simp only [LC.zA,LC.cvOf];done) | rfl));intro K hK;go_simp;refine hK _ ?_;clear hK K)
            refine LC.rC ?_;intro hS;have hkz : zC (gx :: b :: O) W4 w7':=zC.trans hkr hS (fun y hy=>.inl hy);clear hS hS3 hkr hne b1;(go_wp2_with fail);go_roundw
            case rel=>exact ⟨i + 1,I',s',x',by omega,by go_num,hV7,hX7,HT',hkz⟩
            case measure=>simp [intOf];omega
        · have hi30 : i ≤ 30:=by omega
          have cput:=fun w' h'=>vputT HT.out.toaW hi30 w' g b O v h';have crput:=fun w' h'=>rputT HT.out ht Hk.out hi30 hV.st w' gx h';obtain ⟨XA,xm,xc,hxc,hxt,hxm⟩:=hX.ids_t HT.out.toaW hi30;obtain ⟨Pb,hPb⟩ : ∃ Pb,(⟨(YQ I s).toArray⟩ : ByteArray) = Pb:=⟨_,rfl⟩
          rw [hPb] at cput crput;have hPP : (Pb.toList == Pb.toList) = true:=by simp
          have htt : (t.toList == t.toList) = true:=by simp
          have chas:=fun w' (h' : VAt w' g t b O I v s)=>vhas d w' g t b I v h'.view;have crhas:=fun w' (h' : y4 w' XA xm (yA zO I))=>rK w' XA xm xc (yA zO I) d h' (by omega);obtain ⟨hb,hhb⟩ : ∃ hb,decide (d ∈ I) = hb:=⟨_,rfl⟩
          have hhb2 : decide (d ∈ yA zO I) = hb:=by rw [← hhb];exact decide_eq_decide.2 (by rw [ids_mem])
          rw [hhb] at chas;rw [hhb2] at crhas;have hbb : (hb == hb) = true:=by simp
          have ctop:=fun w' (h' : VAt w' g t b O I v s)=>vtopic w' g t b I v h'.view;have hdr : zF wr gd 0 32 = some (idC d):=(hkr.row (zL hd4) (fun hx=>by
            rcases List.mem_cons.1 hx with h1 | h1
            · have:=Hgd.out;omega
            · have:=HS.out gd h1;have:=Hd.out;omega) _ _).trans hd4
          have hbw : Below w.heap.size w wr:=hb04.trans (hkr.below hb04.size hb0S);have HbS:=Lib.hid hb0S;clear hPb hhb hhb2 hkr hd4 hb04 hp4 hrows4 hb0S hro;have hcV : ∀ w',Below wr.heap.size wr w' → VAt w' g t b O I v s:=fun w' hb'=>hV.below hb';have hcX : ∀ w',Below wr.heap.size wr w' → qJ w' gx t (yA zO I) x:=fun w' hb'=>hX.below hb';have hcT : ∀ w',Below wr.heap.size wr w' → y4 w' XA xm (yA zO I):=fun w' hb'=>SlR.below hxt hb';have hcP : ∀ w',Below wr.heap.size wr w' → xE w':=fun w' hb'=>hpr.below hb';have HcV:=Lib.hid hcV;have HcX:=Lib.hid hcX;have HcT:=Lib.hid hcT;have HcP:=Lib.hid hcP;clear hcV hcX hcT hcP hV hX hxt hpr;go_upto_region 14 with fail
          have b1:=yD hdr;have b2:=zT hxc;refine u1 (.loose 0 (.loose 2 (.one 1 (.one 3 (.loose 4 (.loose 5 (.loose 6 (.loose 7 (.loose 9 (.loose 10 (.loose 11 (.loose 12 (.loose 13 (.one 8 (.one 14 (.loose 15 (.loose 16 (.loose 17 (.loose 18 (.loose 20 (.one 19 (.loose 21 (.loose 22 (.loose 23 (.one 24 (.loose 25 (.loose 26 .done))))))))))))))))))))))))))) (Bel wr) false (by kernel_rfl) (by kernel_rfl) (by kernel_rfl) (by kernel_rfl) (zG wr) ?_;have hne:=zX wr;have hS:=zG wr;repeat (refine q3 rfl ?_ ?_;(focus (simp only [zA];done));intro K hK;go_simp;refine hK _ ?_;clear hK K)
          refine qD ?_ rfl ?_ ?_;(focus (exact hS));(focus (simp only [zA];done));intro K hK;go_simp;refine (cput _ (HcV.out _ hS)).mono ?_;rintro e w' ⟨rfl,hb⟩;replace hS:=yJ hS hb;refine ⟨_,rfl,hS,hK _ _ ?_⟩;clear hK K hb;refine qD ?_ rfl ?_ ?_;(focus (exact hS));(focus (simp only [zA];done));intro K hK;go_simp;refine (crput _ (HcX.out _ hS)).mono ?_;rintro e w' ⟨rfl,hb⟩;replace hS:=yJ hS hb;refine ⟨_,rfl,hS,hK _ _ ?_⟩;clear hK K hb;repeat (refine q3 rfl ?_ ?_;(focus (simp only [zA];done));intro K hK;go_simp;refine hK _ ?_;clear hK K)
          refine qD ?_ rfl ?_ ?_;(focus (exact hS));(focus (simp only [zA];done));intro K hK;go_simp;refine (chas _ (HcV.out _ hS)).mono ?_;rintro e w' ⟨rfl,hb⟩;replace hS:=yJ hS hb;refine ⟨_,rfl,hS,hK _ _ ?_⟩;clear hK K hb;refine qD ?_ rfl ?_ ?_;(focus (exact hS));(focus (simp only [zA];done));intro K hK;go_simp;refine (crhas _ (HcT.out _ hS)).mono ?_;rintro e w' ⟨rfl,hb⟩;replace hS:=yJ hS hb;refine ⟨_,rfl,hS,hK _ _ ?_⟩;clear hK K hb;repeat (refine q3 rfl ?_ ?_;(focus (simp only [zA];done));intro K hK;go_simp;refine hK _ ?_;clear hK K)
          refine qD ?_ rfl ?_ ?_;(focus (exact hS));(focus (simp only [zA];done));intro K hK;go_simp;refine (ctop _ (HcV.out _ hS)).mono ?_;rintro e w' ⟨rfl,rfl⟩;refine ⟨_,rfl,hS,hK _ _ ?_⟩;clear hK K;repeat (refine q3 rfl ?_ ?_;(focus (simp only [zA];done));intro K hK;go_simp;refine hK _ ?_;clear hK K)
          refine qD ?_ rfl ?_ ?_;(focus (exact hS));(focus (simp only [zA];done));intro K hK;go_simp;refine (eI _ (HcP.out _ hS)).mono ?_;rintro e w' ⟨rfl,hb⟩;replace hS:=yJ hS hb;refine ⟨_,rfl,hS,hK _ _ ?_⟩;clear hK K hb;repeat (refine q3 rfl ?_ ?_;(focus (simp only [zA];done));intro K hK;go_simp;refine hK _ ?_;clear hK K)
          refine rC ?_;intro hS;clear hne b1 b2;(go_wp2_with fail);go_ret;exact ⟨rfl,yN hbw hS⟩
end
section
open Go.ChangeShapes Go.WideShapes Go.RowKit
theorem pZ {W : World} (h : laidMetH Tryz.prog [("petrel/op.parts",Rows.laid_petrel_op_parts)] W) : xE W:=by
  have h' : laidMet Tryz.prog [("petrel/op.parts",Lib.tabData .i64 [0,1,4,20,7,22,12,8])] W:=h;have hT:=Lib.tabIs_of_head (P:=Tryz.prog) (g:=0) (t:=285) (e:=3) (n:=8) (by kernel_rfl) (by kernel_rfl) Tryz.underlying285 Tryz.underlying3 (by kernel_rfl) (by kernel_rfl) h';intro k hk;have hc:=hT.cell (g:=0) (by kernel_rfl) k (by simpa using hk);rw [hc];have h8 : k = 0 ∨ k = 1 ∨ k = 2 ∨ k = 3 ∨ k = 4 ∨ k = 5 ∨ k = 6 ∨ k = 7:=by omega
  rcases h8 with rfl | rfl | rfl | rfl | rfl | rfl | rfl | rfl <;> rfl
def rV (P : Program) (os : Os) : World:=(World.holding P os ⟨#[],#[],[]⟩).setRow 0 #[.int .i64 0,.int .i64 1,.int .i64 4,.int .i64 20,.int .i64 7,.int .i64 22,.int .i64 12,.int .i64 8]
theorem r4 (os : Os) (args : Array Value) : laidMetH Tryz.prog [("petrel/op.parts",Rows.laid_petrel_op_parts)] ((rV Tryz.prog os).forCall (fun _ _=>0) ⟨#[],args,[]⟩).memory:=by
  show laidMet Tryz.prog [("petrel/op.parts",Rows.laid_petrel_op_parts)] _;exact laidMet_of_run' 8 (by kernel_rfl) (by kernel_rfl)
theorem sW {H : Type} {enc : TypeId × Value → H} {P : Program} {w : World} {g : Nat → Bool} {gs : List (DataW H)} {q : List MemPlace} (hV : DataW.TrodVars enc P w g [] gs q) : gs = [] ∧ q = []:=by
  cases gs with
  | nil=>exact ⟨rfl,hV⟩
  | cons g r=>exact absurd hV (by intro h;cases h)
end
end Go.Proofs.YtgfpjjppeldhbaaGreatDoor
