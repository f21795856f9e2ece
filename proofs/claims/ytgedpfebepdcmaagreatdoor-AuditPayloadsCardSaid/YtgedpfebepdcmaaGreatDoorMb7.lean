/- Part 7 of the texts that lead to this claim: the walks of the functions and the plain law, in order. -/
import Derived.Test.YtgedpfebepdcmaaGreatDoorMb6
namespace Go.Proofs.YtgedpfebepdcmaaGreatDoor
open Go.RowKit
set_option maxRecDepth 100000
set_option maxHeartbeats 8000000
theorem qO:yY Tryz.prog 70 140 35 72 :=
  .of (z:=.agg (yH V1)) Tryz.underlying70 (by kernel_rfl) (by kernel_rfl) (by kernel_rfl) (lJ _) (by omega)
@[go_sem ↓] theorem bsRow_rw (n:Nat) (parts:Array (Nat×Value)):Instr.buildSlice 70 n parts=bsS 70 n parts:=rfl
@[go_sem] theorem bsRow_run (w:World) (x:Row):(bsS 70 1 #[(0,.agg (yH x))]).run Tryz.prog w = .ok (.slice (some ⟨w.heap.size,0,none⟩) 1 1) (w.alloc (.cells (yH x) 140)) :=
  k8 qO (by omega) w (yH x) (lJ x)
@[go_sem] theorem bsRow0_run (w:World):(bsS 70 0 #[]).run Tryz.prog w = .ok (.slice (some ⟨w.heap.size,0,none⟩) 0 0) (w.alloc (.cells #[] 140)):=gK qO w
abbrev OwnLR (w:World) (B:Nat) (A:Option Addr) (cap:Nat) (R:List Row):Prop:=Own w B 140 35 A R.length cap (R.map yH)
theorem rlatest (w:World) (A:Option Addr) (n cap:Nat) (R:List Row) (h:kP w A n R) (hn:n<=1000000) :
    Calls Tryz.prog 80 #[.slice A n cap] w fun e w'=>∃A' cap',e = .returned (.slice A' (xR R).length cap')/\OwnLR w' w.heap.size A' cap' (xR R)/\Below w.heap.size w w':=by
  have hlen:=kP.len h;go_enter Tryz.func80,Tryz.ntmps80
  (go_wp2_with fail);go_loopw [3,4] (fun out i wr=>∃(k:Nat) (A1:Option Addr) (cap1:Nat),k<=n/\i = .int .i64 k/\out = .slice A1 (xR (R.take k)).length cap1/\OwnLR wr w.heap.size A1 cap1 (xR (R.take k))/\Below w.heap.size w wr) (fun _ i _=>n-(intOf i).toNat)
  case atStart=>exact⟨0,none,0,Nat.zero_le _,rfl,rfl,Own.nil _ _ _ _,Below.refl _ _⟩
  case round =>
    obtain⟨k,A1,cap1,hk,rfl,rfl,hown,hb⟩:=hrel;by_cases hlt:k<n
    · obtain⟨q,o,rfl,hr,hkey,_,_,_⟩:=kP.get (SlR.below h hb) hlt (by omega);have htk:xR (R.take (k+1))=lY (xR (R.take k)) R[k]:=by
        rw[List.take_add_one,List.getElem?_eq_getElem (by omega),Option.toList_some,nZ]
      have hol:(xR (R.take k)).length<=1000000:=by have:=tN (R.take k);simp at this;omega
      obtain⟨O,hO⟩:∃O,xR (R.take k)=O:=⟨_,rfl⟩
      obtain⟨x,hx⟩:∃x,R[k]'(by omega)=x:=⟨_,rfl⟩
      rw[hx]at hr hkey htk;rw[hO]at htk hol hown |-;have Htk:=Lib.hid htk;clear hx hO htk;obtain⟨WR,rfl⟩:∃WR,WR=wr:=⟨wr,rfl⟩
      have hsl:kP WR A1 O.length O:=hown.slr;(go_wp2_with fail);go_loopw [5] (fun j wj=>∃m:Nat,m<=O.length/\j = .int .i64 m/\Hid (∀i (hi:i<O.length),i<m->xP (O[i]).key x.key<0)/\Below WR.heap.size WR wj) (fun j _=>O.length-(intOf j).toNat)
      case atStart=>exact⟨0,Nat.zero_le _,rfl,(show ∀i (hi:i<O.length),i<0->_ from fun i _ h=>absurd h (by omega)),Below.refl _ _⟩
      case round =>
        obtain⟨m,hm,rfl,hlow,hbj⟩:=hrel;have hkeyj:=(hbj.cell (p:=⟨q,o+k*35,none⟩) (World.block_lt_of_cell? WR _ hkey)).trans hkey;by_cases hmlt:m<O.length
        · obtain⟨g,og,rfl,hrO,hkO,_,_,_⟩:=kP.get (SlR.below hsl hbj) hmlt (by omega);obtain rfl:og=0:=by
            rcases hown.addr with e | ⟨g',e⟩
            · cases e
            · injection e with e;injection e
          rw[Nat.zero_add]at hrO hkO;obtain⟨y,hy⟩:∃y,O[m]'hmlt=y:=⟨_,rfl⟩
          rw[hy]at hkO hrO;have Hy:=Lib.hid hy;clear hy;cases hbl:bltS y.key x.key with
          | true =>
            have hbl':Op.bytesLess y.key.toList x.key.toList=true:=hbl;go_upto_region 6 with fail
            refine zA (Bel wr) false (by kernel_rfl) (by kernel_rfl) (by kernel_rfl) (zC wr) ?_;have hne:=zQ wr;have hS:=zC wr;have b1:=zP hkeyj;have b2:=zP hkO;repeat(refine z6 ?_ ?_;(focus(simp only[z3];done));intro K hK;go_simp;refine hK _ ?_;clear hK K)
            refine zK ?_;intro hS;clear b1 b2 hne hS;have hlt':xP y.key x.key<0:=by have:=bA y.key x.key;rw[hbl]at this;simpa using this.symm
            have Hlt:=Lib.hid hlt';clear hlt' hbl hbl';(go_wp2_with fail);go_roundw
            case rel =>
              refine⟨m+1,by omega,by go_num,(show ∀i (hi:i<O.length),i<m+1->xP (O[i]).key x.key<0 from fun i hi hlt=>?_),hbj.drew⟩;by_cases e:i=m
              · subst e;rw[Hy.out];exact Hlt.out
              · exact hlow.out i hi (by omega)
            case measure=>simp[intOf];omega
          | false =>
            have hbl':Op.bytesLess y.key.toList x.key.toList=false:=hbl;have hge:¬xP y.key x.key<0:=by have:=bA y.key x.key;rw[hbl]at this;simpa using this.symm
            have Hge:=Lib.hid hge;go_upto_region 6 with fail
            refine zA (Bel wr) false (by kernel_rfl) (by kernel_rfl) (by kernel_rfl) (zC wr) ?_;have hne:=zQ wr;have hS:=zC wr;have b1:=zP hkeyj;have b2:=zP hkO;repeat(refine z6 ?_ ?_;(focus(simp only[z3];done));intro K hK;go_simp;refine hK _ ?_;clear hK K)
            refine zK ?_;intro hS;clear b1 b2 hne hS hge hbl hbl';have hbj2:=hbj.drew;have hat:=YL O x m (by omega) hlow.out (fun hk'=>by rw[Hy.out];exact Hge.out);cases heq:(y.key.toList==x.key.toList)with
            | true =>
              go_upto_region 8 with fail
              refine zA (Bel wr.drew) false (by kernel_rfl) (by kernel_rfl) (by kernel_rfl) (zC wr.drew) ?_;have hne:=zQ wr.drew;have hS:=zC wr.drew;have b1:=zP (W:=wr.drew) hkeyj;have b2:=zP (W:=wr.drew) hkO;repeat(refine z6 ?_ ?_;(focus(simp only[z3];done));intro K hK;go_simp;refine hK _ ?_;clear hK K)
              refine zK ?_;intro hS;clear b1 b2 hne hS;have hrj:z9 wr q (o+k*35) 35=some (yH x):=(zB (hbj.block q (zI hr)) _ _).trans hr;have c9:=rlater x y wr.drew.drew.drew;go_upto_region 9 with fail
              refine zA (Bel wr.drew.drew) false (by kernel_rfl) (by kernel_rfl) (by kernel_rfl) (zC wr.drew.drew) ?_;have hne:=zQ wr.drew.drew;have hS:=zC wr.drew.drew;have b1:=zY (W:=wr.drew.drew) hrj;have b2:=zY (W:=wr.drew.drew) hrO;repeat(refine z6 ?_ ?_;(focus(simp only[z3];done));intro K hK;go_simp;refine hK _ ?_;clear hK K)
              refine zH ?_ ?_ ?_;(focus(exact hS));(focus(simp only[z3];done));intro K hK;go_simp;refine(c9).mono ?_;rintro e w' ⟨rfl,hb⟩;replace hS:=yN hS hb;refine⟨_,rfl,hS,hK _ _ ?_⟩;clear hK K hb;repeat(refine z6 ?_ ?_;(focus(simp only[z3];done));intro K hK;go_simp;refine hK _ ?_;clear hK K)
              refine zK ?_;intro hS;have hS':Below wr.drew.drew.heap.size wr.drew.drew w':=hS;have hbw':Below WR.heap.size WR w':=hbj2.drew.trans (hS'.mono hbj2.size);have hk1:(O[m]?).map (·.key)=some x.key:=by
                rw[List.getElem?_eq_getElem hmlt,Hy.out];have:=beq_iff_eq.1 heq;simp[toList_inj.1 this]
              rw[dif_pos ⟨hmlt,hk1⟩]at hat;simp only[Hy.out]at hat;have Hat:=Lib.hid hat;clear hat b1 b2 hne hS c9 heq hk1;have hownw:=hown.below hbw';have hrw:z9 w' q (o+k*35) 35=some (yH x):=(zB (hbw'.block q (zI hr)) _ _).trans hr;have hBw:=hb.trans (hbw'.mono hb.size);cases hlater:n5 x y with
              | true =>
                have hat2:=Hat.out;rw[if_pos hlater]at hat2;obtain⟨w6,hst,hown6,hk6⟩:=pU qO hownw hmlt (lJ x) (jK x);have hgw:=(hown.at_base (x:=g) (by simp[blk])).1;have hBw6:Below w.heap.size w w6:=hBw.trans (hk6.below hBw.size (by simpa using hgw));rw[<-List.map_set,<-hat2]at hown6;have hl6:O.length=(lY O x).length:=by rw[hat2,List.length_set]
                have Hl6:=Lib.hid hl6;have Hat2:=Lib.hid hat2;clear hat2 hl6;(go_wp2_with fail);go_roundw
                case rel=>exact⟨k+1,_,cap1,by omega,by go_num,(by rw[Htk.out,<-Hl6.out]),(by rw[Htk.out];show Own _ _ _ _ _ _ _ _;rw[<-Hl6.out];exact hown6),hBw6⟩
                case measure=>simp[intOf];omega
              | false =>
                have hat2:=Hat.out;rw[if_neg (by rw[hlater];simp)]at hat2;have Hat2:=Lib.hid hat2;clear hat2;(go_wp2_with fail);go_roundw
                case rel=>exact⟨k+1,_,cap1,by omega,by go_num,(by rw[Htk.out,Hat2.out]),(by rw[Htk.out,Hat2.out];exact hownw),hBw⟩
                case measure=>simp[intOf];omega
            | false =>
              go_upto_region 8 with fail
              refine zA (Bel wr.drew) false (by kernel_rfl) (by kernel_rfl) (by kernel_rfl) (zC wr.drew) ?_;have hne:=zQ wr.drew;have hS:=zC wr.drew;have b1:=zP (W:=wr.drew) hkeyj;have b2:=zP (W:=wr.drew) hkO;repeat(refine z6 ?_ ?_;(focus(simp only[z3];done));intro K hK;go_simp;refine hK _ ?_;clear hK K)
              refine zK ?_;intro hS;clear b1 b2 hne hS;have hk1:¬(m<O.length/\(O[m]?).map (·.key)=some x.key):=by
                rintro⟨_,hh⟩;rw[List.getElem?_eq_getElem hmlt,Hy.out]at hh;have e1:y.key=x.key:=by simpa using hh
                rw[e1]at heq;simp at heq
              rw[dif_neg hk1]at hat;have Hat:=Lib.hid hat;have hbw':Below WR.heap.size WR wr.drew.drew:=hbj2.drew;have hownw:=hown.below hbw';have hrw:z9 wr.drew.drew q (o+k*35) 35=some (yH x):=(zB (hbw'.block q (zI hr)) _ _).trans hr;have hBw:=hb.trans (hbw'.mono hb.size);clear hat hk1 heq hkO hrO hkeyj;generalize wr.drew.drew=W at *;have hcap:=hownw.cap_le.1;have hmc:m<=cap1:=by omega
              have hmc2:¬m=cap1:=by omega
              have hsWf:∀w',Below W.heap.size W w'->SlR w' (some ⟨g,0,none⟩) m 35 ((O.map yH).take m):=fun w' hb=>(hownw.below hb).slr.take_ (m:=m) (by omega);have hs4f:∀w',Below W.heap.size W w'->SlR w' (some ⟨g,m*35,none⟩) (O.length-m) 35 ((O.map yH).drop m):=fun w' hb=>(by have:=(hownw.below hb).slr.drop_ (m:=m) (by omega);rwa [Nat.zero_add]at this);have hf1:(some ⟨g,0,none⟩:Option Addr)=none->cap1=0:=nofun;have hf2:(some ⟨g,m*35,none⟩:Option Addr)=none->cap1-m=0:=nofun;have hown0:=Own.empty W W.heap.size 140 35 (Nat.le_refl _);have hBW:Below W.heap.size W (W.alloc (.cells #[] 140)):=(Below.refl _ _).alloc (Nat.le_refl _) _;have hsW:=hsWf _ hBW;have hrone:∀r∈(O.map yH).take m,∀u∈r.toList,u.oneCell'=true:=fun r hr=>(by obtain⟨y',_,rfl⟩:=List.mem_map.1 (List.mem_of_mem_take hr);exact jK _);have hrone2:∀r∈(O.map yH).drop m,∀u∈r.toList,u.oneCell'=true:=fun r hr=>(by obtain⟨y',_,rfl⟩:=List.mem_map.1 (List.mem_of_mem_drop hr);exact jK _);go_upto_region 12 with(at_builtin;refine yD qO rfl hown0 rfl hsW hf1 hrone (by omega) (by omega) (by simp) ?_;intro A2 cap2 w2 hown2 hk2 hsub2)
              simp only[Nat.zero_add,List.nil_append]at hown2;have hwW:Below W.heap.size W w2:=(hBW).trans (hk2.below (by simp) (by simp[blk]));have hrw2:z9 w2 q (o+k*35) 35=some (yH x):=(zB (hwW.block q (zI hrw)) _ _).trans hrw;have hB3:Below w2.heap.size w2 (w2.alloc (.cells (yH x) 140)):=(Below.refl _ _).alloc (Nat.le_refl _) _;have hown3:=hown2.below hB3;have hrow3:z9 (w2.alloc (.cells (yH x) 140)) w2.heap.size 0 35=some (yH x):=by simp[go_sem]
              have hsz2:=hwW.size;go_upto_region 13 with(at_builtin;refine yX qO rfl hown3 rfl hrow3 (jK _) (by omega) (by omega) (by simp;omega) ?_;intro A4 cap4 w4 hown4 hk4 hsub4)
              have hwW4:Below W.heap.size W w4:=(hwW.trans (hB3.mono hsz2)).trans (hk4.below (by simp;omega) (fun x hx=>(hown2.at_base hx).1));have hs4:=hs4f _ hwW4;have hsz4:=hwW4.size;clear hown3 hrow3 hB3 hown0 hBW hsW hrw2 hsWf hs4f;go_upto_region 14 with(at_builtin;refine yD qO rfl hown4 rfl hs4 hf2 hrone2 (by omega) (by omega) (by omega) ?_;intro A5 cap5 w5 hown5 hk5 hsub5)
              have hwW5:Below W.heap.size W w5:=hwW4.trans (hk5.below (by omega) (fun x hx=>(hown4.at_base hx).1));have hBW5:=hBw.trans (hwW5.mono hBw.size);have hO5:(O.map yH).take m ++ [yH x]++(O.map yH).drop m=(xR (R.take (k+1))).map yH:=by rw[Htk.out,Hat.out];simp[List.map_take,List.map_drop]
              have hL5:(xR (R.take (k+1))).length=m+1+(O.length-m):=by rw[Htk.out,Hat.out];simp;omega
              rw[hO5]at hown5;have hown6:=hown5.mono hBw.size;have HL:=Lib.hid hL5;clear hown5 hown4 hown2 hO5 hL5 hs4;(go_wp2_with fail);go_roundw
              case rel=>exact⟨k+1,A5,cap5,by omega,by go_num,(by rw[HL.out]),(show Own _ _ _ _ _ _ _ _ by rw[HL.out];exact hown6),hBW5⟩
              case measure=>simp[intOf];omega
        · have hmO:m=O.length:=by omega
          have HmO:=Lib.hid hmO;have hat:=YL O x m hm hlow.out (fun hk'=>absurd hk' (by omega));rw[dif_neg (fun hh=>absurd hh.1 (by omega))]at hat;have Hat:=Lib.hid hat;have hd:decide (m<O.length)=false:=by simpa using hmlt
          clear hat hmO hmlt hm;go_upto_region 6 with fail
          refine zA (Bel wr) false (by kernel_rfl) (by kernel_rfl) (by kernel_rfl) (zC wr) ?_;have hne:=zQ wr;have hS:=zC wr;repeat(refine z6 ?_ ?_;(focus(simp only[z3];done));intro K hK;go_simp;refine hK _ ?_;clear hK K)
          refine zK ?_;intro hS;clear hne hS;go_upto_region 8 with fail
          refine zA (Bel wr.drew) false (by kernel_rfl) (by kernel_rfl) (by kernel_rfl) (zC wr.drew) ?_;have hne:=zQ wr.drew;have hS:=zC wr.drew;repeat(refine z6 ?_ ?_;(focus(simp only[z3];done));intro K hK;go_simp;refine hK _ ?_;clear hK K)
          refine zK ?_;intro hS;clear hne hS;have hbw':Below WR.heap.size WR wr.drew.drew:=hbj.drew.drew;have hownw:=hown.below hbw';have hrw:z9 wr.drew.drew q (o+k*35) 35=some (yH x):=(zB (hbw'.block q (zI hr)) _ _).trans hr;have hBw:=hb.trans (hbw'.mono hb.size);clear hkeyj hd;generalize wr.drew.drew=W at *;have hcap:=hownw.cap_le;have hdrop:(O.map yH).drop m = []:=List.drop_eq_nil_of_le (by simp[HmO.out]);have hml:m<=1000000:=by have:=HmO.out;omega
          rcases hown.addr with rfl | ⟨g,rfl⟩
          · obtain⟨hO0,rfl⟩:=hcap.2 rfl;have hm0:m=0:=by have:=HmO.out;omega
            subst hm0;have hO:O = []:=List.eq_nil_of_length_eq_zero hO0;have HO:=Lib.hid hO;have hsWf:∀w',Below W.heap.size W w'->SlR w' none 0 35 ((O.map yH).take 0):=fun w' hb=>(by rw[HO.out];exact SlR.nil_);have hs4f:∀w',Below W.heap.size W w'->SlR w' none O.length 35 ((O.map yH).drop 0):=fun w' hb=>(by rw[HO.out];exact SlR.nil_);have hf1:(none:Option Addr)=none->0=0:=fun _=>rfl;have hf2:(none:Option Addr)=none->0=0:=fun _=>rfl;clear hO0 hO hcap hml hdrop;have hown0:=Own.empty W W.heap.size 140 35 (Nat.le_refl _);have hBW:Below W.heap.size W (W.alloc (.cells #[] 140)):=(Below.refl _ _).alloc (Nat.le_refl _) _;have hsW:=hsWf _ hBW;have hrone:∀r∈(O.map yH).take 0,∀u∈r.toList,u.oneCell'=true:=fun r hr=>(by obtain⟨y',_,rfl⟩:=List.mem_map.1 (List.mem_of_mem_take hr);exact jK _);have hrone2:∀r∈(O.map yH).drop 0,∀u∈r.toList,u.oneCell'=true:=fun r hr=>(by obtain⟨y',_,rfl⟩:=List.mem_map.1 (List.mem_of_mem_drop hr);exact jK _);go_upto_region 12 with(at_builtin;refine yD qO rfl hown0 rfl hsW hf1 hrone (by omega) (by omega) (by simp) ?_;intro A2 cap2 w2 hown2 hk2 hsub2)
            simp only[Nat.zero_add,List.nil_append]at hown2;have hwW:Below W.heap.size W w2:=(hBW).trans (hk2.below (by simp) (by simp[blk]));have hrw2:z9 w2 q (o+k*35) 35=some (yH x):=(zB (hwW.block q (zI hrw)) _ _).trans hrw;have hB3:Below w2.heap.size w2 (w2.alloc (.cells (yH x) 140)):=(Below.refl _ _).alloc (Nat.le_refl _) _;have hown3:=hown2.below hB3;have hrow3:z9 (w2.alloc (.cells (yH x) 140)) w2.heap.size 0 35=some (yH x):=by simp[go_sem]
            have hsz2:=hwW.size;go_upto_region 13 with(at_builtin;refine yX qO rfl hown3 rfl hrow3 (jK _) (by omega) (by omega) (by simp;omega) ?_;intro A4 cap4 w4 hown4 hk4 hsub4)
            have hwW4:Below W.heap.size W w4:=(hwW.trans (hB3.mono hsz2)).trans (hk4.below (by simp;omega) (fun x hx=>(hown2.at_base hx).1));have hs4:=hs4f _ hwW4;have hsz4:=hwW4.size;clear hown3 hrow3 hB3 hown0 hBW hsW hrw2 hsWf hs4f;go_upto_region 14 with(at_builtin;refine yD qO rfl hown4 rfl hs4 hf2 hrone2 (by omega) (by omega) (by omega) ?_;intro A5 cap5 w5 hown5 hk5 hsub5)
            have hwW5:Below W.heap.size W w5:=hwW4.trans (hk5.below (by omega) (fun x hx=>(hown4.at_base hx).1));have hBW5:=hBw.trans (hwW5.mono hBw.size);have hO5:(O.map yH).take 0 ++ [yH x]++(O.map yH).drop 0=(xR (R.take (k+1))).map yH:=by rw[Htk.out,Hat.out];simp[List.map_take,List.map_drop]
            have hL5:(xR (R.take (k+1))).length=0+1+O.length:=by rw[Htk.out,Hat.out];simp;omega
            rw[hO5]at hown5;have hown6:=hown5.mono hBw.size;have HL:=Lib.hid hL5;clear hown5 hown4 hown2 hO5 hL5 hs4;(go_wp2_with fail);go_roundw
            case rel=>exact⟨k+1,A5,cap5,by omega,by go_num,(by rw[HL.out]),(show Own _ _ _ _ _ _ _ _ by rw[HL.out];exact hown6),hBW5⟩
            case measure=>simp[intOf];omega
          · have hmc:m<=cap1:=by have:=hcap.1;have:=HmO.out;omega
            have hsWf:∀w',Below W.heap.size W w'->SlR w' (some ⟨g,0,none⟩) m 35 ((O.map yH).take m):=fun w' hb=>(hownw.below hb).slr.take_ (m:=m) (by have:=HmO.out;omega);have hf1:(some ⟨g,0,none⟩:Option Addr)=none->cap1=0:=nofun;clear hcap;have hmz:m<=O.length:=by have:=HmO.out;omega
            have hs4g:∀w' A',SlR w' A' (O.length-m) 35 ((O.map yH).drop m):=fun w' A'=>(by rw[hdrop,HmO.out,Nat.sub_self];exact⟨rfl,fun h=>absurd h (by omega)⟩);clear hdrop;by_cases hmc2:m=cap1
            · have Hmc2:=Lib.hid hmc2;obtain rfl:m=cap1:=hmc2;have hs4f:∀w',Below W.heap.size W w'->SlR w' (some ⟨g,0,none⟩) (O.length-m) 35 ((O.map yH).drop m):=fun w' _=>hs4g w' _;have hf2:(some ⟨g,0,none⟩:Option Addr)=none->0=0:=nofun;clear hs4g;have hown0:=Own.empty W W.heap.size 140 35 (Nat.le_refl _);have hBW:Below W.heap.size W (W.alloc (.cells #[] 140)):=(Below.refl _ _).alloc (Nat.le_refl _) _;have hsW:=hsWf _ hBW;have hrone:∀r∈(O.map yH).take m,∀u∈r.toList,u.oneCell'=true:=fun r hr=>(by obtain⟨y',_,rfl⟩:=List.mem_map.1 (List.mem_of_mem_take hr);exact jK _);have hrone2:∀r∈(O.map yH).drop m,∀u∈r.toList,u.oneCell'=true:=fun r hr=>(by obtain⟨y',_,rfl⟩:=List.mem_map.1 (List.mem_of_mem_drop hr);exact jK _);go_upto_region 12 with(at_builtin;refine yD qO rfl hown0 rfl hsW hf1 hrone (by omega) (by omega) (by simp) ?_;intro A2 cap2 w2 hown2 hk2 hsub2)
              simp only[Nat.zero_add,List.nil_append]at hown2;have hwW:Below W.heap.size W w2:=(hBW).trans (hk2.below (by simp) (by simp[blk]));have hrw2:z9 w2 q (o+k*35) 35=some (yH x):=(zB (hwW.block q (zI hrw)) _ _).trans hrw;have hB3:Below w2.heap.size w2 (w2.alloc (.cells (yH x) 140)):=(Below.refl _ _).alloc (Nat.le_refl _) _;have hown3:=hown2.below hB3;have hrow3:z9 (w2.alloc (.cells (yH x) 140)) w2.heap.size 0 35=some (yH x):=by simp[go_sem]
              have hsz2:=hwW.size;go_upto_region 13 with(at_builtin;refine yX qO rfl hown3 rfl hrow3 (jK _) (by omega) (by omega) (by simp;omega) ?_;intro A4 cap4 w4 hown4 hk4 hsub4)
              have hwW4:Below W.heap.size W w4:=(hwW.trans (hB3.mono hsz2)).trans (hk4.below (by simp;omega) (fun x hx=>(hown2.at_base hx).1));have hs4:=hs4f _ hwW4;have hsz4:=hwW4.size;clear hown3 hrow3 hB3 hown0 hBW hsW hrw2 hsWf hs4f;go_upto_region 14 with(at_builtin;refine yD qO rfl hown4 rfl hs4 hf2 hrone2 (by omega) (by omega) (by omega) ?_;intro A5 cap5 w5 hown5 hk5 hsub5)
              have hwW5:Below W.heap.size W w5:=hwW4.trans (hk5.below (by omega) (fun x hx=>(hown4.at_base hx).1));have hBW5:=hBw.trans (hwW5.mono hBw.size);have hO5:(O.map yH).take m ++ [yH x]++(O.map yH).drop m=(xR (R.take (k+1))).map yH:=by rw[Htk.out,Hat.out];simp[List.map_take,List.map_drop]
              have hL5:(xR (R.take (k+1))).length=m+1+(O.length-m):=by rw[Htk.out,Hat.out];simp;omega
              rw[hO5]at hown5;have hown6:=hown5.mono hBw.size;have HL:=Lib.hid hL5;clear hown5 hown4 hown2 hO5 hL5 hs4;(go_wp2_with fail);go_roundw
              case rel=>exact⟨k+1,A5,cap5,by omega,by go_num,(by rw[HL.out]),(show Own _ _ _ _ _ _ _ _ by rw[HL.out];exact hown6),hBW5⟩
              case measure=>simp[intOf];omega
            · have hs4f:∀w',Below W.heap.size W w'->SlR w' (some ⟨g,m*35,none⟩) (O.length-m) 35 ((O.map yH).drop m):=fun w' _=>hs4g w' _;have hf2:(some ⟨g,m*35,none⟩:Option Addr)=none->cap1-m=0:=nofun;clear hs4g;have hown0:=Own.empty W W.heap.size 140 35 (Nat.le_refl _);have hBW:Below W.heap.size W (W.alloc (.cells #[] 140)):=(Below.refl _ _).alloc (Nat.le_refl _) _;have hsW:=hsWf _ hBW;have hrone:∀r∈(O.map yH).take m,∀u∈r.toList,u.oneCell'=true:=fun r hr=>(by obtain⟨y',_,rfl⟩:=List.mem_map.1 (List.mem_of_mem_take hr);exact jK _);have hrone2:∀r∈(O.map yH).drop m,∀u∈r.toList,u.oneCell'=true:=fun r hr=>(by obtain⟨y',_,rfl⟩:=List.mem_map.1 (List.mem_of_mem_drop hr);exact jK _);go_upto_region 12 with(at_builtin;refine yD qO rfl hown0 rfl hsW hf1 hrone (by omega) (by omega) (by simp) ?_;intro A2 cap2 w2 hown2 hk2 hsub2)
              simp only[Nat.zero_add,List.nil_append]at hown2;have hwW:Below W.heap.size W w2:=(hBW).trans (hk2.below (by simp) (by simp[blk]));have hrw2:z9 w2 q (o+k*35) 35=some (yH x):=(zB (hwW.block q (zI hrw)) _ _).trans hrw;have hB3:Below w2.heap.size w2 (w2.alloc (.cells (yH x) 140)):=(Below.refl _ _).alloc (Nat.le_refl _) _;have hown3:=hown2.below hB3;have hrow3:z9 (w2.alloc (.cells (yH x) 140)) w2.heap.size 0 35=some (yH x):=by simp[go_sem]
              have hsz2:=hwW.size;go_upto_region 13 with(at_builtin;refine yX qO rfl hown3 rfl hrow3 (jK _) (by omega) (by omega) (by simp;omega) ?_;intro A4 cap4 w4 hown4 hk4 hsub4)
              have hwW4:Below W.heap.size W w4:=(hwW.trans (hB3.mono hsz2)).trans (hk4.below (by simp;omega) (fun x hx=>(hown2.at_base hx).1));have hs4:=hs4f _ hwW4;have hsz4:=hwW4.size;clear hown3 hrow3 hB3 hown0 hBW hsW hrw2 hsWf hs4f;go_upto_region 14 with(at_builtin;refine yD qO rfl hown4 rfl hs4 hf2 hrone2 (by omega) (by omega) (by omega) ?_;intro A5 cap5 w5 hown5 hk5 hsub5)
              have hwW5:Below W.heap.size W w5:=hwW4.trans (hk5.below (by omega) (fun x hx=>(hown4.at_base hx).1));have hBW5:=hBw.trans (hwW5.mono hBw.size);have hO5:(O.map yH).take m ++ [yH x]++(O.map yH).drop m=(xR (R.take (k+1))).map yH:=by rw[Htk.out,Hat.out];simp[List.map_take,List.map_drop]
              have hL5:(xR (R.take (k+1))).length=m+1+(O.length-m):=by rw[Htk.out,Hat.out];simp;omega
              rw[hO5]at hown5;have hown6:=hown5.mono hBw.size;have HL:=Lib.hid hL5;clear hown5 hown4 hown2 hO5 hL5 hs4;(go_wp2_with fail);go_roundw
              case rel=>exact⟨k+1,A5,cap5,by omega,by go_num,(by rw[HL.out]),(show Own _ _ _ _ _ _ _ _ by rw[HL.out];exact hown6),hBW5⟩
              case measure=>simp[intOf];omega
    · (go_wp2_with fail);go_ret;have e:k=n:=by omega
      have e2:R.take k=R:=List.take_of_length_le (by omega);refine⟨A1,cap1,?_,(by rw[e2]at hown;exact hown),hb⟩;rw[e2];rfl
def mB (x:Row):xZ:=⟨x.key,x.val⟩
abbrev OwnP (w:World) (B:Nat) (A:Option Addr) (cap:Nat) (L:List xZ):Prop:=Own w B 122 2 A L.length cap (L.map zN)
theorem rlistL (w:World) (A:Option Addr) (n cap:Nat) (R:List Row) (h:kP w A n R) (hn:n<=1000000) :
    Calls Tryz.prog 46 #[.slice A n cap] w fun e w'=>∃A' cap',e = .returned (.slice A' ((xR R).map mB).length cap')/\OwnP w' w.heap.size A' cap' ((xR R).map mB)/\Below w.heap.size w w':=by
  have hol:(xR R).length<=1000000:=by have:=tN R;have:=kP.len h;omega
  obtain⟨O,hO⟩:∃O,xR R=O:=⟨_,rfl⟩
  have c1:=rlatest w A n cap R h hn;rw[hO]at c1 hol |-;clear hO;go_enter Tryz.func46,Tryz.ntmps46
  (go_wp2_with fail);refine c1.mono ?_;rintro e w1 ⟨A1,cap1,rfl,hown1,hb1⟩;have hs1:kP w1 A1 O.length O:=hown1.slr;clear c1;(go_wp2_with fail);go_loopw [3,5] (fun out i wr=>∃(k:Nat) (A2:Option Addr) (cap2:Nat),k<=O.length/\i = .int .i64 k/\out = .slice A2 k cap2/\Own wr w1.heap.size 122 2 A2 k cap2 (((O.take k).map mB).map zN)/\Below w1.heap.size w1 wr) (fun _ i _=>O.length-(intOf i).toNat)
  case atStart=>exact⟨0,none,0,Nat.zero_le _,rfl,rfl,Own.nil _ _ _ _,Below.refl _ _⟩
  case round =>
    obtain⟨k,A2,cap2,hk,rfl,rfl,hown,hb⟩:=hrel;by_cases hlt:k<O.length
    · obtain⟨q,o,rfl,hr,hkey,hval,_,_⟩:=kP.get (SlR.below hs1 hb) hlt hlt;have hq:q<w1.heap.size:=SlR.old hs1 rfl (by omega);have hqb:q∉blk A2:=fun hx=>(by have:=(hown.at_base hx).1;omega);have htk:((O.take (k+1)).map mB).map zN=((O.take k).map mB).map zN ++ [zN (mB O[k])]:=by
        have e:O.take (k+1)=O.take k ++ [O[k]]:=by rw[List.take_add_one,List.getElem?_eq_getElem hlt];rfl
        rw[e,List.map_append,List.map_append];rfl
      obtain⟨x,hx⟩:∃x,O[k]'hlt=x:=⟨_,rfl⟩
      rw[hx]at hkey hval htk;have Htk:=Lib.hid htk;have hsz:=hb.size;clear hx hr htk;go_upto_region 6 with fail
      refine zA (Kp (blk A2) wr) false (by kernel_rfl) (by kernel_rfl) (by kernel_rfl) (zW (blk A2) wr) ?_;have hne:=xA (blk A2) wr;have hS:=zW (blk A2) wr;have b1:=zM hkey hqb;have b2:=zM hval hqb;repeat(refine z6 ?_ ?_;(focus(simp only[z3];done));intro K hK;go_simp;refine hK _ ?_;clear hK K)
      refine zH ?_ ?_ ?_;(focus(exact hS));(focus(simp only[z3];done));intro K hK;go_simp;refine zZ (z4.trans (z4.trans (z4.refl (blk A2) wr) (z4.drew _) (by simp)) (z4.alloc _ _) (by simp)) (fun hS2=>?_);refine hK _ _ ?_;clear hK K;have hk0:z4 [] wr (wr.drew.alloc (.cells (zN ⟨x.key,x.val⟩) 122)):=z4.trans (z4.drew wr) (z4.alloc _ _) (by simp);have hownr:=hown.kept hk0 (by simp);have hrow2:z9 (wr.drew.alloc (.cells (zN ⟨x.key,x.val⟩) 122)) wr.heap.size 0 2=some (zN ⟨x.key,x.val⟩):=by simp[go_sem]
      refine wN yL rfl hownr rfl hrow2 (xQ _) (by omega) (by omega) (by simp;omega) ?_;intro A3 cap3 w3 hown3 hk3 hsub3;refine zZ (z4.trans (hk0.mono (S':=blk A2) (by simp)) hk3 (fun x hx=>.inl hx)) (fun hS3=>?_);repeat(refine z6 ?_ ?_;(focus(simp only[z3];done));intro K hK;go_simp;refine hK _ ?_;clear hK K)
      refine zK ?_;intro hS;have hb3:Below w1.heap.size w1 w3:=hb.trans ((z4.trans (hk0.mono (S':=blk A2) (by simp)) hk3 (fun x hx=>.inl hx)).below hsz (fun x hx=>(hown.at_base hx).1));clear hne hS hS2 hS3 b1 b2;(go_wp2_with fail);go_roundw
      case rel=>exact⟨k+1,A3,cap3,by omega,by go_num,rfl,by rw[Htk.out];exact hown3,hb3⟩
      case measure=>simp[intOf];omega
    · have e:k=O.length:=by omega
      have e2:O.take k=O:=List.take_of_length_le (by omega);have hown':OwnP wr w.heap.size A2 cap2 (O.map mB):=by rw[e2]at hown;show Own _ _ _ _ _ _ _ _;rw[List.length_map,<-e];exact hown.mono hb1.size
      have Ho:=Lib.hid hown';have El:=Lib.hid e;clear e e2 hown hown';(go_wp2_with fail);go_ret;refine⟨A2,cap2,?_,Ho.out,xM hb1 hb⟩;rw[List.length_map,<-El.out];rfl
def numR (k:Int) (x:RV):Int:=if k=1 then x.tal else 0
def kh (k:Int) (x:RV):List xZ :=
  if k=1 then[]else if k=2 then(kD (gR x.adds x.gone)).map gM else if k=3 then(xR x.last).map mB
  else if k=4 then kY (lvM x.mL x.mO)else mD x.sL x.sG
def bytesRV (k:Int) (x:RV):List UInt8 :=
  if k=1 then putTB x.tal else if k=2 then putB (gR x.adds x.gone) (yF x8 x.gone)else if k=3 then putLB ((xR x.last).map XO)
  else if k=4 then putMB (lvM x.mL x.mO) (yF zO x.mO)else putSB x.sL x.sG
theorem xg {X G:List xH} {z:xH}:z∈gR X G↔z∈X/\z∉G:=by
  unfold gR;rw[List.mem_filter,qI bD];simp
theorem mem_lvM {X:List j6} {G:List zJ} {z:j6}:z∈lvM X G↔z∈X/\z.id∉G:=by
  unfold lvM;rw[qI t9,List.mem_filter];simp
theorem rel_b {x:RV} {L G:List xH} (h:aL x (.b L G)):gR x.adds x.gone=L/\yF x8 x.gone=G:=by
  obtain⟨a1,a2,a3,a4⟩:=h;refine⟨jT bD ((xE bD _).filter _) a1 fun z=>?_,jT bD (xE bD _) a2 fun z=>?_⟩
  · rw[xg,a4]
  · rw[qI bD,a3]
theorem rel_m {x:RV} {X:List j6} {O:List zJ} (h:aL x (.m X O)):lvM x.mL x.mO=X/\yF zO x.mO=O:=by
  obtain⟨a1,a2,a3,a4⟩:=h;subst a3;refine⟨jT t9 (xE t9 _) a1 fun z=>?_,pQ qP a2⟩;rw[mem_lvM,a4]
theorem rel_num {x:RV} {s:VSt} (h:aL x s):numR s.kind x=s.num:=by
  cases s with
  | t n=>exact h
  | b L G=>rfl
  | l L=>rfl
  | m X O=>rfl
  | s N G=>rfl
theorem yc {x:RV} {s:VSt} (h:aL x s):kh s.kind x=s.pairs:=by
  cases s with
  | t n=>rfl
  | b L G=>show(kD (gR x.adds x.gone)).map gM=_;rw[(rel_b h).1];rfl
  | l L =>
    obtain⟨a1,_,_⟩:=h;show(xR x.last).map mB=L.map tI;rw[a1,List.map_map];rfl
  | m X O=>show kY (lvM x.mL x.mO)=_;rw[(rel_m h).1];rfl
  | s N G =>
    obtain⟨a1,a2,a3,a4⟩:=h;show mD x.sL x.sG=mD N G;rw[a2];have e:j4 x.sL=j4 N:=wS (fun n=>(a4 n).symm) a3.forest;show pS (j4 x.sL) x.sG=pS (j4 N) x.sG;rw[e]
theorem ids_cons (I:List zJ) (d:zJ):xU zO (yF zO I) d=yF zO (d :: I):=jT qP (vR qP (xE qP _)) (xE qP _) fun z=>by
  rw[vE qP,qI qP,qI qP,List.mem_cons]
section
open Go.RowKit Stb
def qN (O:List zG) (m:zG):List zG:=if m.id∈O.map zG.id then O else O ++ [m]
def qS (R:List zG):List zG:=R.foldl qN []
theorem mV (R:List zG) (m:zG):qS (R ++ [m])=qN (qS R) m:=by
  unfold qS;rw[List.foldl_append];rfl
theorem VM (R:List zG) (k:Nat) (h:k<R.length):qS (R.take (k+1))=qN (qS (R.take k)) (R[k]'h):=by
  rw[List.take_succ_eq_append_getElem h,mV]
theorem Z2 (R:List zG):(qS R).length<=R.length:=by
  have:∀(R O:List zG),(R.foldl qN O).length<=O.length+R.length:=by
    intro R;induction R with
    | nil=>intro O;simp
    | cons m R ih =>
      intro O;rw[List.foldl_cons];refine Nat.le_trans (ih _) ?_;unfold qN;split <;> simp <;> omega
  simpa[qS]using this R []
theorem Z1:∀(R O:List zG),O.length<=(R.foldl qN O).length
  | [],_=>Nat.le_refl _
  | m :: R,O=>by
    rw[List.foldl_cons];refine Nat.le_trans ?_ (Z1 R _);unfold qN;split <;> simp
theorem eG (R:List zG) (k:Nat):(qS (R.take k)).length<=(qS R).length:=by
  have h:=Z1 (R.drop k) (qS (R.take k));have e:(R.drop k).foldl qN (qS (R.take k))=qS R:=by
    unfold qS;rw[<-List.foldl_append,List.take_append_drop]
  rwa [e]at h
def kL (O:List zG):Prop:=O.Pairwise fun a b=>a.id≠b.id
theorem kL.nodup {O:List zG} (h:kL O):O.Nodup:=List.Pairwise.imp (fun h e=>h (congrArg _ e)) h
theorem kL.inj:∀ {O:List zG},kL O->∀a∈O,∀b∈O,a.id=b.id->a=b
  | [],_,a,ha,_,_,_=>by simp at ha
  | x :: O,h,a,ha,b,hb,e=>by
    obtain⟨h1,h2⟩:=List.pairwise_cons.1 h;rcases List.mem_cons.1 ha with e1 | ha <;> rcases List.mem_cons.1 hb with e2 | hb
    · rw[e1,e2]
    · rw[e1]at e;exact absurd e (h1 b hb)
    · rw[e2]at e;exact absurd e.symm (h1 a ha)
    · exact kL.inj h2 a ha b hb e
theorem kL.of {O:List zG} (hn:O.Nodup) (h:∀a∈O,∀b∈O,a.id=b.id->a=b):kL O:=by
  induction O with
  | nil=>exact List.Pairwise.nil
  | cons x O ih =>
    obtain⟨h1,h2⟩:=List.nodup_cons.1 hn;exact List.pairwise_cons.2 ⟨fun b hb e=>h1 (by rw[h x (by simp) b (by simp[hb]) e];exact hb),ih h2 fun a ha b hb=>h a (by simp[ha]) b (by simp[hb])⟩
theorem kL.sub {O P:List zG} (h:kL O) (hs:P.Sublist O):kL P:=List.Pairwise.sublist hs h
theorem kL.perm {O P:List zG} (h:kL O) (hp:O.Perm P):kL P :=
  kL.of (hp.nodup_iff.1 h.nodup) fun a ha b hb=>h.inj a (hp.mem_iff.2 ha) b (hp.mem_iff.2 hb)
theorem kL.step {O:List zG} (h:kL O) (m:zG):kL (qN O m):=by
  unfold qN;split
  · exact h
  · rename_i hn
    exact List.pairwise_append.2 ⟨h,List.pairwise_singleton _ _,fun a ha b hb e=>hn (by
      have e2:b=m:=by simpa using hb
      subst e2;exact List.mem_map.2 ⟨a,ha,e⟩)⟩
theorem lN (R:List zG):kL (qS R):=by
  have:∀(R O:List zG),kL O->kL (R.foldl qN O):=by
    intro R;induction R with
    | nil=>intro O h;exact h
    | cons m R ih=>intro O h;rw[List.foldl_cons];exact ih _ (h.step m)
  exact this R [] List.Pairwise.nil
theorem YI {O:List zG} {m z:zG}:z∈qN O m->z∈O\/z=m:=by
  unfold qN;split
  · exact .inl
  · intro h;simpa using h
theorem yx (R:List zG):∀z∈qS R,z∈R:=by
  have:∀(R O:List zG) (z:zG),z∈R.foldl qN O->z∈O\/z∈R:=by
    intro R;induction R with
    | nil=>intro O z h;exact .inl h
    | cons m R ih =>
      intro O z h;rw[List.foldl_cons]at h;rcases ih _ z h with h | h
      · exact(YI h).elim .inl fun e=>.inr (by simp[e])
      · exact .inr (by simp[h])
  intro z hz;exact(this R [] z hz).elim (fun h=>by simp at h) id
theorem Z3 (R:List zG) (d:zJ):d∈(qS R).map zG.id↔d∈R.map zG.id:=by
  have:∀(R O:List zG),d∈(R.foldl qN O).map zG.id↔d∈O.map zG.id\/d∈R.map zG.id:=by
    intro R;induction R with
    | nil=>intro O;simp
    | cons m R ih =>
      intro O;rw[List.foldl_cons,ih,List.map_cons,List.mem_cons];have:d∈(qN O m).map zG.id↔d∈O.map zG.id\/d=m.id:=by
        unfold qN;split
        · rename_i hm
          exact⟨.inl,fun h=>h.elim id fun e=>by rw[e];exact hm⟩
        · rw[List.map_append,List.mem_append];simp
      rw[this,or_assoc]
  rw[show(d∈R.map zG.id)↔(d∈([]:List zG).map zG.id\/d∈R.map zG.id) by simp];exact this R []
def tY (a b:zG):Int:=orC (vK a.h b.h) (orC (zO a.id b.id) (xP a.body b.body))
theorem sZ:j8 tY :=
  j8.of (c:=fun (x y:Int×(zJ×ByteArray))=>orC (vK x.1 y.1) (orC (zO x.2.1 y.2.1) (xP x.2.2 y.2.2)))
    (j8.pair totI (j8.pair qP pO)) (fun n=>(n.h,n.id,n.body))
    (fun x y h=>by simp only[Prod.mk.injEq]at h;cases x;cases y;simp_all) (fun _ _=>rfl)
theorem lt_mk {a b:zG} (hi:a.id≠b.id):tY a b<0↔yC a b:=by
  rw[kH];have hid:zO a.id b.id≠0:=fun e=>hi ((jO _ _).1 e);unfold tY orC vK;by_cases e:a.h=b.h
  · rw[if_pos (by rw[if_neg (by omega),if_neg (by omega)]),if_neg hid];constructor
    · intro h;exact .inr ⟨e,h⟩
    · rintro(h | h)
      · omega
      · exact h.2
  · rw[if_neg (by(repeat' split) <;> omega)];by_cases h1:a.h<b.h
    · rw[if_pos h1];exact⟨fun _=>.inl h1,fun _=>by omega⟩
    · rw[if_neg h1,if_pos (by omega)];exact⟨fun h=>by omega,fun h=>by rcases h with h | h <;> omega⟩
theorem xm {a b:zG} (hi:a.id≠b.id) (h:¬yC a b):yC b a :=
  Classical.byContradiction fun h'=>hi (Q5 a b h h')
def tB (R:List zG):List zG:=yF tY (qS R)
theorem lI (R:List zG):(tB R).Perm (qS R) :=
  (List.perm_ext_iff_of_nodup ((xE sZ _).nodup sZ) (lN R).nodup).2 fun _=>qI sZ
theorem jz (R:List zG):kL (tB R):=(lN R).perm (lI R).symm
theorem cD (R:List zG):(tB R).length=(qS R).length:=(lI R).length_eq
theorem jy (R:List zG):Ris tY (tB R):=xE sZ _
theorem jx (R:List zG):∀z∈tB R,z∈R:=fun z hz=>yx R z ((lI R).mem_iff.1 hz)
theorem XH {f f':Nat->zG} {O:List zG} (hO:kL O) (hf:∀k (h:k<O.length),f k=O[k]) (hs:Sw 0 O.length f f') (hr:Srt yC 0 O.length f'):(List.range O.length).map f'=yF tY O:=by
  have hid:∀i j,i<O.length->j<O.length->(f i).id=(f j).id->i=j:=fun i j hi hj e=>by
    rw[hf i hi,hf j hj]at e;rcases Nat.lt_trichotomy i j with h | h | h
    · exact absurd e (List.pairwise_iff_getElem.1 hO i j hi hj h)
    · exact h
    · exact absurd e.symm (List.pairwise_iff_getElem.1 hO j i hj hi h)
  have hs2:Sw 0 O.length (fun k=>(f k).id) (fun k=>(f' k).id):=by
    obtain⟨s,t,e,p,q,o⟩:=hs;exact⟨s,t,fun k=>by show(f' k).id=_;rw[e k],p,q,o⟩
  have hid':=hs2.inj hid;refine jT sZ ?_ (xE sZ _) fun z=>?_
  · refine List.pairwise_iff_getElem.2 fun i j hi hj hij=>?_;simp only[List.length_map,List.length_range]at hi hj;simp only[List.getElem_map,List.getElem_range];have hne:(f' i).id≠(f' j).id:=fun e=>(by have:=hid' i j hi hj e;omega);exact(lt_mk hne).2 (xm (fun e=>hne e.symm) (hr i j (Nat.zero_le _) hij hj))
  · rw[qI sZ,List.mem_map];constructor
    · rintro⟨k,hk,rfl⟩;rw[List.mem_range]at hk;obtain⟨j,_,hj,e⟩:=hs.at_ (Nat.zero_le k) hk;rw[e,hf j hj];exact List.getElem_mem _
    · intro hz;obtain⟨k,hk,rfl⟩:=List.getElem_of_mem hz;obtain⟨j,_,hj,e⟩:=hs.to_ (Nat.zero_le k) hk;exact⟨j,List.mem_range.2 hj,by rw[<-e,hf k hk]⟩
def stF (k:Int) (F:List zG):VSt:=F.foldl (fun s m=>doS m (oOf m) s) (VSt.new k)
theorem new_kind {k:Int} (h1:1<=k) (h5:k<=5):(VSt.new k).kind=k:=by
  have:k=1\/k=2\/k=3\/k=4\/k=5:=by omega
  rcases this with rfl | rfl | rfl | rfl | rfl <;> rfl
theorem ZI:∀(F:List zG) (s:VSt),(F.foldl (fun s m=>doS m (oOf m) s) s).kind=s.kind
  | [],_=>rfl
  | m :: F,s=>by rw[List.foldl_cons,ZI F];exact QZ _ _ _
theorem XG {k:Int} (h1:1<=k) (h5:k<=5) (F:List zG):(stF k F).kind=k:=(ZI F _).trans (new_kind h1 h5)
theorem xh (k:Int) {F:List zG} (h1:kL F) (hv:∀m∈F,(oOf m).val.size<=16):fA F (stF k F):=by
  have:∀(G P:List zG) (s:VSt),fA P s->kL (P++G)->(∀m∈G,(oOf m).val.size<=16)->fA (P++G) (G.foldl (fun s m=>doS m (oOf m) s) s):=by
    intro G;induction G with
    | nil=>intro P s h _ _;simpa using h
    | cons m G ih =>
      intro P s h ho hv;rw[List.foldl_cons];have e:P++m :: G=(P ++ [m])++G:=by simp
      rw[e]at ho |-;refine ih _ _ (eK h (hv m (by simp)) fun a ha e=>?_) ho fun a ha=>hv a (by simp[ha]);have h2:=(List.pairwise_append.1 ho).1;exact(List.pairwise_append.1 h2).2.2 a ha m (by simp) e
  exact this F [] _ (Z5 k) (by simpa using h1) hv
theorem nW {F:List zG} {N:List zT} {G:List zJ} (h1:kL F) (h:fA F (.s N G)):fJ N:=by
  obtain⟨a1,_,_⟩:=h;refine⟨fun a ha b hb e=>?_,fun a ha=>?_⟩
  · obtain⟨m,hm,_,rfl,_⟩:=(a1 a).1 ha;obtain⟨m',hm',_,rfl,_⟩:=(a1 b).1 hb;rw[h1.inj m hm m' hm' e]
  · obtain⟨m,_,_,_,he⟩:=(a1 a).1 ha;exact(eH he).1
theorem Q4 {F F':List zG} {s s':VSt} (hp:F.Perm F') (h1:kL F) (h:fA F s) (h':fA F' s') (hk:s.kind=s'.kind):s.num=s'.num/\s.pairs=s'.pairs:=by
  have hs:=VQ hp h h' hk;cases s <;> cases s' <;> try exact hs.elim
  · exact⟨hs,rfl⟩
  · obtain⟨e1,e2⟩:=hs;subst e1;subst e2;exact⟨rfl,rfl⟩
  · have e:_=_:=hs;subst e;exact⟨rfl,rfl⟩
  · obtain⟨e1,e2⟩:=hs;subst e1;subst e2;exact⟨rfl,rfl⟩
  · obtain⟨e1,e2⟩:=hs;subst e2;refine⟨rfl,?_⟩;show pS (j4 _) _=pS (j4 _) _;rw[wS e1 (nW h1 h)]
def kK (t:ByteArray) (R:List zG):List zG:=(tB R).filter fun m=>decide (kE t m)
def dR (t:ByteArray) (R:List zG):VSt:=stF (yO t) (kK t R)
theorem i6 (t:ByteArray) (R:List zG):kL (kK t R):=(jz R).sub List.filter_sublist
theorem fitM_ris (t:ByteArray) (R:List zG):Ris tY (kK t R):=(jy R).filter _
theorem wK {t:ByteArray} {R:List zG} {m:zG} (h:m∈kK t R):kE t m:=by
  have:=(List.mem_filter.1 h).2;simpa using this
theorem fitM_val {t:ByteArray} {R:List zG} {m:zG} (h:m∈kK t R):(oOf m).val.size<=16:=(fF _ (wK h).1).2.2.2.2.1
theorem r6 (t:ByteArray) (R:List zG):fA (kK t R) (dR t R):=xh _ (i6 t R) fun _ h=>fitM_val h
def ofK (k:Nat) (F:List zG):List zG:=F.filter fun a=>decide ((oOf a).k=k)
def V7 (G:List zG) (a:zG):Bool:=G.any fun r=>decide ((oOf r).val=(oOf a).val)&&decide (a.id∈(oOf r).refs)
def J8 (F:List zG):List xZ:=((ofK 2 F).filter fun a=>!V7 (ofK 3 F) a).map fun a=>gM (oOf a).val
theorem vr {F:List zG} {a:zG}:V7 (ofK 3 F) a=true↔∃r∈F,(oOf r).k=3/\(oOf r).val=(oOf a).val/\a.id∈(oOf r).refs:=by
  unfold V7 ofK;rw[List.any_eq_true];simp only[List.mem_filter,decide_eq_true_eq,Bool.and_eq_true];exact⟨fun ⟨r,⟨h1,h2⟩,h3⟩=>⟨r,h1,h2,h3⟩,fun ⟨r,h1,h2,h3⟩=>⟨r,⟨h1,h2⟩,h3⟩⟩
theorem ya {l:List ByteArray} (h:Ris xP l):Ris yG (l.map gM):=by
  refine List.pairwise_map.2 (List.Pairwise.imp (fun {a b} h=>?_) h);have h':xP a b<0:=h;show orL [xP a b,_]<0;show(if xP a b=0 then _ else xP a b)<0;rw[if_neg (by omega)];exact h'
theorem bagD_ok {F:List zG} {L G:List xH} (h:fA F (.b L G)) (hk:∀m∈F,(oOf m).k=2\/(oOf m).k=3):yF yG (J8 F)=(kD L).map gM:=by
  obtain⟨_,_,a3,a4⟩:=h;refine jT jH (xE jH _) (ya (xE pO _)) fun z=>?_;rw[qI jH];unfold J8 kD;simp only[List.mem_map,List.mem_filter,qI pO,Bool.not_eq_true'];have hg:∀a:zG,V7 (ofK 3 F) a=false↔(⟨a.id,(oOf a).val⟩:xH)∉G:=fun a=>by
    rw[a3,<-Bool.not_eq_true,vr];refine not_congr ⟨fun ⟨r,h1,h2,h3,h4⟩=>⟨r,h1,by omega,h3.symm,h4⟩,fun ⟨r,h1,h2,h3,h4⟩=>⟨r,h1,(hk r h1).resolve_left h2,h3.symm,h4⟩⟩
  constructor
  · rintro⟨a,⟨h1,h2⟩,rfl⟩;obtain⟨h3,h4⟩:=List.mem_filter.1 h1;exact⟨_,⟨⟨a.id,(oOf a).val⟩,(a4 _).2 ⟨⟨a,h3,by simpa using h4,rfl⟩,(hg a).1 h2⟩,rfl⟩,rfl⟩
  · rintro⟨v,⟨x,hx,rfl⟩,rfl⟩;obtain⟨⟨a,h1,h2,rfl⟩,h3⟩:=(a4 x).1 hx;exact⟨a,⟨List.mem_filter.2 ⟨h1,by simpa using h2⟩,(hg a).2 h3⟩,rfl⟩
structure jN (F:List zG) (M:List (ByteArray×zG)):Prop where
  mem:∀p∈M,p.2∈F/\(oOf p.2).key=p.1/\∀m∈F,(oOf m).key=p.1->¬0<orL [vK (oOf m).n (oOf p.2).n,zO m.id p.2.id]
  all:∀m∈F,(oOf m).key∈M.map (·.1)
theorem best_nil:jN [] []:=⟨by simp,by simp⟩
def mT (a b:zG):Int:=orL [vK (oOf a).n (oOf b).n,zO a.id b.id]
theorem ordB_eq (a b:zG):mT a b=orC (vK (oOf a).n (oOf b).n) (zO a.id b.id):=by
  unfold mT orL orL orC;by_cases h:vK (oOf a).n (oOf b).n=0
  · rw[if_pos h,if_pos h];by_cases h2:zO a.id b.id=0
    · rw[if_pos h2,h2];rfl
    · rw[if_neg h2]
  · rw[if_neg h,if_neg h]
def cmpNI (x y:Int×zJ):Int:=orC (vK x.1 y.1) (zO x.2 y.2)
theorem sY:j8 cmpNI:=j8.pair totI qP
theorem YD (a b:zG):mT a b=cmpNI ((oOf a).n,a.id) ((oOf b).n,b.id):=ordB_eq a b
theorem aZ (a:zG):mT a a=0:=by rw[YD];exact sY.self _
theorem VH {a b d:zG} (h1:0<mT b a) (h2:¬0<mT d a):¬0<mT d b:=by
  rw[YD]at *;intro h;have e1:=sY.anti ((oOf b).n,b.id) ((oOf a).n,a.id);have e2:=sY.anti ((oOf d).n,d.id) ((oOf b).n,b.id);have e3:=sY.anti ((oOf d).n,d.id) ((oOf a).n,a.id);have:=sY.trans ((oOf a).n,a.id) ((oOf b).n,b.id) ((oOf d).n,d.id) (by omega) (by omega);omega
theorem jN.new {F:List zG} {M:List (ByteArray×zG)} (h:jN F M) {a:zG} (hn:(oOf a).key∉M.map (·.1)):jN (F ++ [a]) (gB M (oOf a).key a):=by
  unfold gB;rw[if_neg hn];refine⟨fun p hp=>?_,fun m hm=>?_⟩
  · rcases List.mem_append.1 hp with hp | hp
    · obtain⟨h1,h2,h3⟩:=h.mem p hp;exact⟨by simp[h1],h2,kA.2 ⟨h3,fun e=>absurd (List.mem_map.2 ⟨p,hp,e.symm⟩) hn⟩⟩
    · have e:p=((oOf a).key,a):=by simpa using hp
      subst e;refine⟨by simp,rfl,kA.2 ⟨fun m hm e=>absurd (show(oOf a).key∈M.map (·.1) by rw[<-show(oOf m).key=(oOf a).key from e];exact h.all m hm) hn,fun _=>?_⟩⟩;have:=aZ a;unfold mT at this;show ¬0<orL _;rw[this];omega
  · rw[List.map_append,List.mem_append];rcases List.mem_append.1 hm with hm | hm
    · exact .inl (h.all m hm)
    · have e:m=a:=by simpa using hm
      subst e;exact .inr (by simp)
theorem jN.better {F:List zG} {M:List (ByteArray×zG)} (h:jN F M) {a b:zG} (hb:((oOf a).key,b)∈M) (hg:0<mT a b):jN (F ++ [a]) (gB M (oOf a).key a):=by
  have hin:(oOf a).key∈M.map (·.1):=List.mem_map.2 ⟨_,hb,rfl⟩;obtain⟨_,_,hb3⟩:=h.mem _ hb;unfold gB;rw[if_pos hin];refine⟨fun p hp=>?_,fun m hm=>?_⟩
  · obtain⟨q,hq,rfl⟩:=List.mem_map.1 hp;obtain⟨h1,h2,h3⟩:=h.mem q hq;by_cases e:q.1=(oOf a).key
    · rw[if_pos e];refine⟨by simp,rfl,kA.2 ⟨fun m hm e2=>VH hg (hb3 m hm e2),fun _=>?_⟩⟩;have:=aZ a;unfold mT at this;show ¬0<orL _;rw[this];omega
    · rw[if_neg e];exact⟨by simp[h1],h2,kA.2 ⟨h3,fun e2=>absurd e2.symm e⟩⟩
  · have e:(M.map fun p=>if p.1=(oOf a).key then((oOf a).key,a)else p).map (·.1)=M.map (·.1):=by
      rw[List.map_map];refine List.map_congr_left fun p _=>?_;simp only[Function.comp_apply];split
      · rename_i h;exact h.symm
      · rfl
    rw[e];rcases List.mem_append.1 hm with hm | hm
    · exact h.all m hm
    · have e:m=a:=by simpa using hm
      subst e;exact hin
theorem jN.worse {F:List zG} {M:List (ByteArray×zG)} (h:jN F M) {a b:zG} (hb:((oOf a).key,b)∈M) (hnd:(M.map (·.1)).Nodup) (hg:¬0<mT a b):jN (F ++ [a]) M:=by
  refine⟨fun p hp=>?_,fun m hm=>?_⟩
  · obtain⟨h1,h2,h3⟩:=h.mem p hp;refine⟨by simp[h1],h2,kA.2 ⟨h3,fun e=>?_⟩⟩;have e2:p=((oOf a).key,b):=by
      obtain⟨i,hi,rfl⟩:=List.getElem_of_mem hp;obtain⟨j,hj,ej⟩:=List.getElem_of_mem hb;have hi':(M.map (·.1))[i]? = some (oOf a).key:=by rw[List.getElem?_map,List.getElem?_eq_getElem hi,Option.map_some,e]
      have hj':(M.map (·.1))[j]? = some (oOf a).key:=by rw[List.getElem?_map,List.getElem?_eq_getElem hj,Option.map_some,ej]
      have:=gG hnd hi' hj';subst this;exact ej
    rw[e2];exact hg
  · rcases List.mem_append.1 hm with hm | hm
    · exact h.all m hm
    · have e:m=a:=by simpa using hm
      subst e;exact List.mem_map.2 ⟨_,hb,rfl⟩
def sB (p:ByteArray×zG):xZ:=⟨p.1,(oOf p.2).val⟩
theorem cO:∀ {L:List bB},gY L->Ris yG (L.map tI)
  | [],_=>Ris.nil
  | p :: L,h=>by
    rw[List.map_cons];refine fP.2 ⟨fun y hy=>?_,cO h.2⟩;obtain⟨r,hr,rfl⟩:=List.mem_map.1 hy;have h3:xP p.1 r.1<0:=h.1 r hr;show(if xP p.1 r.1=0 then _ else xP p.1 r.1)<0;rw[if_neg (by omega)];exact h3
theorem BJ:∀ {L:List bB} {k:ByteArray} {x:xJ},gY L->(k,x)∈L->bT L k=some x
  | [],_,_,_,h=>by simp at h
  | p :: L,k,x,hr,h=>by
    rw[q7];rcases List.mem_cons.1 h with h | h
    · rw[<-h,if_pos rfl]
    · have h2:xP p.1 k<0:=hr.1 _ h;rw[if_neg (fun e=>by rw[e,ZN]at h2;omega)];exact BJ hr.2 h
theorem K7 {a b:zG} (h:a.id≠b.id):vJ (vA a) (vA b)=mT a b:=by
  have hid:zO a.id b.id≠0:=fun e=>h ((jO _ _).1 e);show(if vK (oOf a).n (oOf b).n=0 then(if zO a.id b.id=0 then _ else zO a.id b.id)else vK (oOf a).n (oOf b).n)=(if vK (oOf a).n (oOf b).n=0 then(if zO a.id b.id=0 then _ else zO a.id b.id)else vK (oOf a).n (oOf b).n)
  rw[if_neg hid,if_neg hid]
theorem BR {F:List zG} {M:List (ByteArray×zG)} (h1:kL F) (h:jN F M) {p:ByteArray×zG} (hp:p∈M) {u:xJ} (hu:dU F p.1 (some u)) (hc:∀m∈F,bU (oOf m).key (vA m)=0):u=vA p.2:=by
  obtain⟨b1,b2,b3⟩:=h.mem p hp;obtain⟨⟨m,hm,_,hk,rfl⟩,hx⟩:=hu;by_cases e:m.id=p.2.id
  · rw[h1.inj m hm p.2 b1 e]
  · have h4:¬0<mT m p.2:=b3 m hm hk;have h5:=hx p.2 b1 (hc p.2 b1) b2;rw[K7 (fun e2=>e e2.symm)]at h5;rw[YD]at h4 h5;have h6:=sY.anti ((oOf m).n,m.id) ((oOf p.2).n,p.2.id);have h7:cmpNI ((oOf m).n,m.id) ((oOf p.2).n,p.2.id)=0:=by omega
    have h8:=(sY.zero _ _).1 h7;simp only[Prod.mk.injEq]at h8;exact absurd h8.2 e
theorem lastD_ok {F:List zG} {L:List bB} {M:List (ByteArray×zG)} (h:fA F (.l L)) (h1:kL F) (hB:jN F M) (hc:∀m∈F,bU (oOf m).key (vA m)=0):yF yG (M.map sB)=L.map tI:=by
  obtain⟨a1,a2⟩:=h;refine jT jH (xE jH _) (cO a1.1) fun z=>?_;rw[qI jH];constructor
  · intro hz;obtain⟨p,hp,rfl⟩:=List.mem_map.1 hz;obtain⟨b1,b2,b3⟩:=hB.mem p hp;have hl:=a2 p.1;cases hg:bT L p.1 with
    | none=>rw[hg]at hl;exact absurd b2 (hl p.2 b1 (hc _ b1))
    | some u =>
      rw[hg]at hl;have e:=BR h1 hB hp hl hc;subst e;exact List.mem_map.2 ⟨_,getL_mem hg,rfl⟩
  · intro hz;obtain⟨q,hq,rfl⟩:=List.mem_map.1 hz;have hg:=BJ a1.1 (show(q.1,q.2)∈L from hq);have hl:=a2 q.1;rw[hg]at hl;obtain⟨⟨m,hm,_,hk,_⟩,_⟩:=id hl;obtain⟨p,hp,e⟩:=List.mem_map.1 (hB.all m hm);have e2:p.1=q.1:=e.trans hk;rw[<-e2]at hl;have e3:=BR h1 hB hp hl hc;refine List.mem_map.2 ⟨p,hp,?_⟩;show(⟨p.1,(oOf p.2).val⟩:xZ)=⟨q.1,q.2.val⟩
    rw[e2,e3];rfl
def t6 (F:List zG):List zJ:=F.flatMap fun r=>(oOf r).refs
def keyP (a:zG):xZ:=⟨(oOf a).key,(oOf a).val⟩
def tL (F:List zG):List xZ:=(F.filter fun a=>decide (a.id∉t6 F)).map keyP
theorem xe {F:List zG} {X:List j6} {O:List zJ} (h:fA F (.m X O)):yF yG (tL F)=kY X:=by
  obtain⟨_,_,a3,a4⟩:=h;refine dC jH fun z=>?_;unfold tL;simp only[List.mem_map,List.mem_filter,decide_eq_true_eq];have ho:∀d,d∈t6 F↔d∈O:=fun d=>(by rw[a3];unfold t6;rw[List.mem_flatMap]);constructor
  · rintro⟨a,⟨h1,h2⟩,rfl⟩;exact⟨mK a,(a4 _).2 ⟨⟨a,h1,rfl⟩,fun h=>h2 ((ho _).2 h)⟩,rfl⟩
  · rintro⟨x,hx,rfl⟩;obtain⟨⟨a,h1,rfl⟩,h2⟩:=(a4 x).1 hx;exact⟨a,⟨h1,fun h=>h2 ((ho _).1 h)⟩,rfl⟩
def okN (a:zG):Bool:=decide (g6 (jU a)=0)
def QI (F:List zG):List zG:=(ofK 6 F).filter okN
def sK (F:List zG):List zT:=(QI F).map jU
def s8 (F:List zG):List zJ:=(ofK 7 F).map fun a=>(oOf a).ref
def behD (F:List zG) (r:zJ):List zG:=(QI F).reverse.filter fun a=>decide ((oOf a).ref=r)
theorem nV {F:List zG} {a:zG}:a∈QI F↔a∈F/\(oOf a).k=6/\g6 (jU a)=0:=by
  unfold QI ofK okN;simp only[List.mem_filter,decide_eq_true_eq,and_assoc]
theorem tM {F:List zG} {z:zT}:z∈sK F↔∃a∈F,(oOf a).k=6/\z=jU a/\g6 z=0:=by
  unfold sK;rw[List.mem_map];constructor
  · rintro⟨a,ha,rfl⟩;obtain⟨h1,h2,h3⟩:=nV.1 ha;exact⟨a,h1,h2,rfl,h3⟩
  · rintro⟨a,h1,h2,rfl,h3⟩;exact⟨a,nV.2 ⟨h1,h2,h3⟩,rfl⟩
theorem rX {F:List zG} (h1:kL F):fJ (sK F):=by
  refine⟨fun a ha b hb e=>?_,fun a ha=>?_⟩
  · obtain⟨m,hm,_,rfl,_⟩:=tM.1 ha;obtain⟨m',hm',_,rfl,_⟩:=tM.1 hb;rw[h1.inj m hm m' hm' e]
  · obtain⟨m,_,_,_,he⟩:=tM.1 ha;exact(eH he).1
theorem ku (F:List zG):(sK F).length<=F.length:=by
  unfold sK QI ofK;rw[List.length_map];exact Nat.le_trans (List.length_filter_le _ _) (List.length_filter_le _ _)
theorem qx {F:List zG} (hr:Ris tY F) (h1:kL F) (r:zJ):(behD F r).map jU=xY (sK F) r:=by
  refine jT BX ?_ (cP _ _) fun z=>?_
  · unfold behD QI ofK;refine List.pairwise_map.2 (List.Pairwise.sublist List.filter_sublist (List.pairwise_reverse.2 (List.Pairwise.sublist (List.Sublist.trans List.filter_sublist List.filter_sublist) ?_)));refine List.Pairwise.imp (fun {a b} h=>?_) (List.Pairwise.and hr h1);have h2:=iE (a:=jU a) (b:=jU b) h.2;have h3:gX (jU a).h (jU a).id (jU b).h (jU b).id=true:=(lt_mk h.2).1 h.1;rw[h3]at h2;exact of_decide_eq_true h2
  · rw[nT,tM,List.mem_map];unfold behD;constructor
    · rintro⟨a,ha,rfl⟩;obtain⟨h2,h3⟩:=List.mem_filter.1 ha;obtain⟨h4,h5,h6⟩:=nV.1 (List.mem_reverse.1 h2);exact⟨⟨a,h4,h5,rfl,h6⟩,of_decide_eq_true h3⟩
    · rintro⟨⟨a,h4,h5,rfl,h6⟩,h7⟩;exact⟨a,List.mem_filter.2 ⟨List.mem_reverse.2 (nV.2 ⟨h4,h5,h6⟩),decide_eq_true h7⟩,rfl⟩
theorem kj {T:List zT} {G G':List zJ} (h:∀z,z∈G↔z∈G'):pS T G=pS T G':=by
  unfold pS;congr 2
  refine List.filter_congr fun n _=>?_;rw[decide_eq_decide,h]
theorem listD_ok {F:List zG} {N:List zT} {G:List zJ} (h:fA F (.s N G)) (h1:kL F) (hk:∀m∈F,(oOf m).k=6\/(oOf m).k=7):pS (j4 (sK F)) (s8 F)=mD N G:=by
  have hf:=rX h1;obtain⟨a1,_,a3⟩:=h;have hn:∀z,z∈sK F↔z∈N:=fun z=>(by rw[tM,a1]);have hg:∀z,z∈s8 F↔z∈G:=fun z=>by
    rw[a3];unfold s8 ofK;simp only[List.mem_map,List.mem_filter,decide_eq_true_eq];constructor
    · rintro⟨a,⟨h2,h3⟩,rfl⟩;exact⟨a,h2,by omega,rfl⟩
    · rintro⟨a,h2,h3,rfl⟩;exact⟨a,⟨h2,(hk a h2).resolve_left h3⟩,rfl⟩
  show _=pS (j4 N) G;rw[wS hn hf,kj hg]
def cA (F:List zG):Int:=F.foldl (fun n m=>wrap64 (n+(oOf m).n)) 0
theorem sumD_ok (F:List zG):stF 1 F = .t (cA F):=by
  have:∀(F:List zG) (n:Int),F.foldl (fun s m=>doS m (oOf m) s) (.t n) = .t (F.foldl (fun n m=>wrap64 (n+(oOf m).n)) n):=by
    intro F;induction F with
    | nil=>intro n;rfl
    | cons m F ih=>intro n;rw[List.foldl_cons,List.foldl_cons];exact ih _
  exact this F 0
theorem zj (F:List zG) (k:Nat) (h:k<F.length):cA (F.take (k+1))=wrap64 (cA (F.take k)+(oOf (F[k]'h)).n):=by
  unfold cA;rw[List.take_succ_eq_append_getElem h,List.foldl_append];rfl
end
section
open Go.RowKit Stb
def cH (O:List zG):List zJ:=(O.map zG.id).reverse
theorem aT (O:List zG) (x:zJ):x∈cH O↔x∈O.map zG.id:=by unfold cH;rw[List.mem_reverse]
theorem JX (O:List zG) (m:zG):m.id :: cH O=cH (O ++ [m]):=by unfold cH;simp
instance:Inhabited zG:=⟨r7⟩
def atF (L:List zG):Nat->zG:=fun k=>L[k]!
theorem vo (L:List zG):nK (atF L) L.length=L.map zL:=by
  unfold nK atF;apply List.ext_getElem
  · simp
  · intro k h1 h2;simp at h1;simp[h1]
theorem QD (w:World):Calls Tryz.prog 173 #[.slice none 0 0,.int .i64 0,.int .i64 0,.func (.func 119) #[] #[]] w fun e w'=>e = .returned (.tuple #[])/\w=w':=by
  go_enter Tryz.func173,Tryz.ntmps173
  (go_wp2_with fail);refine wp_loop_rounds 2 ?_;rw[rounds_succ];(go_wp2_with fail);go_end0;exact⟨rfl,rfl⟩
theorem JS (w:World):Calls Tryz.prog 147 #[.slice none 0 0,.int .i64 0,.func (.func 119) #[] #[]] w fun e w'=>e = .returned (.tuple #[])/\w=w':=by
  go_enter Tryz.func147,Tryz.ntmps147
  (go_wp2_with fail);refine wp_loop_rounds 2 ?_;rw[rounds_succ];(go_wp2_with fail);refine(QD _).mono ?_;rintro e w1 ⟨rfl,rfl⟩;(go_wp2_with fail);refine wp_loop_rounds 2 ?_;rw[rounds_succ];(go_wp2_with fail);go_end0;exact⟨rfl,rfl⟩
theorem cE (w:World):Calls Tryz.prog 118 #[.slice none 0 0,.func (.func 119) #[] #[]] w fun e w'=>e = .returned (.tuple #[])/\w=w':=by
  go_enter Tryz.func118,Tryz.ntmps118
  (go_wp2_with fail);refine(JS _).mono ?_;rintro e w1 ⟨rfl,rfl⟩;(go_wp2_with fail);refine bodyPost_end (results_none rfl _ _ _) rfl ?_;exact⟨rfl,rfl⟩
@[go_sem ↓] theorem bsMark_rw (n:Nat) (parts:Array (Nat×Value)):Instr.buildSlice 40 n parts=bsS 40 n parts:=rfl
@[go_sem] theorem bsMark_run (w:World) (x:zG):(bsS 40 1 #[(0,.agg (zL x))]).run Tryz.prog w = .ok (.slice (some ⟨w.heap.size,0,none⟩) 1 1) (w.alloc (.cells (zL x) 45)) :=
  k8 rF (by omega) w _ (fS _)
theorem JU (A:Option Addr) (n cap:Nat) (R:List zG) (w:World) (hm:q9 w A n R) (hn:n<=1000) (ho:(qS R).length<=30) :
    Calls Tryz.prog 88 #[.slice A n cap] w fun e w'=>∃A' cap',e = .returned (.slice A' (tB R).length cap')/\Own w' w.heap.size 45 34 A' (tB R).length cap' ((tB R).map zL)/\Below w.heap.size w w':=by
  have hmm:=@run_makeMap Tryz.prog;have k1:=qQ.new (kv:=idV) (ok:=VN) w w.heap.size rfl;have hb0:Below w.heap.size w (w.alloc (.map #[] 0)):=(Below.refl _ _).alloc (Nat.le_refl _) _;have hlen:=hm.len;go_enter Tryz.func88,Tryz.ntmps88
  (go_wp2_with fail);obtain⟨gm,hgm⟩:∃gm,w.heap.size=gm:=⟨_,rfl⟩
  have hgs:(w.alloc (.map #[] 0)).heap.size=gm+1:=by simp[hgm]
  obtain⟨W,hW⟩:∃W,w.alloc (.map #[] 0)=W:=⟨_,rfl⟩
  rw[hW]at k1 hb0 hgs;rw[hW,hgm];rw[hgm]at k1 hb0;have Hgm:=Lib.hid hgm;have hmw:q9 W A n R:=SlR.below hm (by rw[hgm];exact hb0);clear hW hgm;go_loopw [3,10] (fun out iv wr=>∃(k:Nat) (A1:Option Addr) (cap1:Nat),k<=n/\iv = .int .i64 k/\out = .slice A1 (qS (R.take k)).length cap1/\Own wr (gm+1) 45 34 A1 (qS (R.take k)).length cap1 ((qS (R.take k)).map zL)/\lF wr gm (cH (qS (R.take k)))/\Below gm w wr/\gm+1<=wr.heap.size) (fun _ iv _=>n-(intOf iv).toNat)
  case atStart=>exact⟨0,none,0,Nat.zero_le _,rfl,rfl,Own.nil _ _ _ _,k1,hb0,by rw[hgs];omega⟩
  case round =>
    clear k1 hb0;obtain⟨k,A1,cap1,hk,rfl,rfl,hown,hset,hb,hsz⟩:=hrel;by_cases hlt:k<n
    · have hbw:Below w.heap.size w wr:=by rw[Hgm.out];exact hb
      obtain⟨q,o,rfl,hrow,_,_⟩:=q9.get (SlR.below hm hbw) hlt (by omega);have htk:=VM R k (by omega);have hol:=Nat.le_trans (eG R k) ho;obtain⟨m,hmm2⟩:∃m,R[k]'(by omega)=m:=⟨_,rfl⟩
      rw[hmm2]at hrow htk;clear hmm2;obtain⟨O,hO⟩:∃O,qS (R.take k)=O:=⟨_,rfl⟩
      rw[hO]at hown hset htk hol |-;clear hO;have Htk:=Lib.hid htk;clear htk;have hb1:Below wr.heap.size wr (wr.alloc (.cells (zL m) 45)):=(Below.refl _ _).alloc (Nat.le_refl _) _;have hr1:z9 (wr.alloc (.cells (zL m) 45)) wr.heap.size 0 34=some (zL m):=by simp[go_sem]
      have hown1:=hown.below hb1;have hset1:=qQ.below hset hb1;have hgr:=hset.lt;have hb2:Below gm w (wr.alloc (.cells (zL m) 45)):=hb.trans (hb1.mono (by omega));have hsz1:wr.heap.size<(wr.alloc (.cells (zL m) 45)).heap.size:=by simp
      go_upto_region 6 with fail
      obtain⟨gx,hgx⟩:∃gx,wr.heap.size=gx:=⟨_,rfl⟩
      obtain⟨W1,hW1⟩:∃W1,W1=wr.alloc (.cells (zL m) 45):=⟨_,rfl⟩
      rw[<-hW1]at hr1 hown1 hset1 hb2 hsz1 |-;rw[hgx]at hr1 hsz hsz1 hgr |-;clear hW1 hgx hb1 hown hset hb hrow hbw;have hri:z9 W1 gx 0 32=some (idC m.id):=by have:=zV hr1 (j:=0) (m:=32) (by omega);rwa [jM]at this
      by_cases hin:m.id∈O.map zG.id
      · have hk1:=ihit hset1 ((aT O m.id).2 hin);have e1:qN O m=O:=if_pos hin;have htk:=Htk.out;rw[e1]at htk;have Htk2:=Lib.hid htk;clear e1 htk hin;(go_wp2_with fail);go_roundw
        case rel=>exact⟨k+1,A1,cap1,by omega,by go_num,by rw[Htk2.out],by rw[Htk2.out];exact hown1,by rw[Htk2.out];exact hset1,hb2,by omega⟩
        case measure=>simp[intOf];omega
      · have hk1:=imiss hset1 (fun h=>hin ((aT O m.id).1 h));obtain⟨w2,hrun,hset2,hk2⟩:=iput (x:=m.id) hset1;have e1:qN O m=O ++ [m]:=if_neg hin;have htk:=Htk.out;rw[e1]at htk;have Htk2:=Lib.hid htk;have hngx:gx∉[gm]:=by simp;omega
        have hr2:z9 w2 gx 0 34=some (zL m):=(hk2.row (by omega) hngx _ _).trans hr1;have hown2:=hown1.kept hk2 (fun x hx=>by have:=(hown1.at_base hx).1;simp;omega);have hb3:Below gm w w2:=hb2.trans (hk2.below (by omega) (by simp));have hsz2:=hk2.size;rw[JX]at hset2;clear e1 htk hin hset1 hown1;have hbx:Below w2.heap.size w2 (w2.alloc (.cells (zL m) 45)):=(Below.refl _ _).alloc (Nat.le_refl _) _;have hown3:=hown2.below hbx;have hr3:z9 (w2.alloc (.cells (zL m) 45)) w2.heap.size 0 34=some (zL m):=by simp[go_sem]
        have hset3:=qQ.below hset2 hbx;have hsz3:(w2.alloc (.cells (zL m) 45)).heap.size=w2.heap.size+1:=by simp
        go_upto_region 8 with fail
        go_wp2_with (at_builtin;refine yX rF rfl hown3 rfl hr3 (mX _) (by omega) (by omega) (by omega) ?_;intro A2 cap2 w4 hown4 hk4 hsub4)
        have hset4:lF w4 gm (cH (O ++ [m])):=hset3.kept hk4 (fun hx=>by have:=(hown2.at_base hx).1;omega);have hb4:Below gm w w4:=(hb3.trans (hbx.mono (by omega))).trans (hk4.below (by omega) (fun x hx=>by have:=(hown2.at_base hx).1;omega));have hown5:Own w4 (gm+1) 45 34 A2 (O ++ [m]).length cap2 ((O ++ [m]).map zL):=by simpa using hown4
        have hsz4:=hk4.size;have hol5:((O.length:Int)+1)=((O ++ [m]).length:Int):=by simp
        have Hol5:=Lib.hid hol5;clear hown4 hown3 hown2 hset3 hset2 hb3 hrun hk2 hol5;(go_wp2_with fail);go_roundw
        case rel=>exact⟨k+1,A2,cap2,by omega,by go_num,by rw[Htk2.out];simp,by rw[Htk2.out];exact hown5,by rw[Htk2.out];exact hset4,hb4,by omega⟩
        case measure=>simp[intOf];omega
    · have hkn:k=n:=by omega
      subst hkn;have e2:R.take k=R:=List.take_of_length_le (by omega);have hO1:=lN R;have hOl:=ho;have hsrt:tB R=yF tY (qS R):=rfl;have hsl:=cD R;rw[e2]at hown hset |-;obtain⟨O,hO⟩:∃O,qS R=O:=⟨_,rfl⟩
      rw[hO]at hown hO1 hOl hsrt hsl |-;have Hsl:=Lib.hid hsl;have Hsrt:=Lib.hid hsrt;have HO1:=Lib.hid hO1;have hown0:=hown.mono (B':=gm) (by omega);clear hset hown e2 hO hsrt hO1 hsl;rcases hown0.addr with rfl | ⟨g,rfl⟩
      · have hn0:O.length=0:=(hown0.cap_le.2 rfl).1;have hO0:O = []:=List.eq_nil_of_length_eq_zero hn0;subst hO0;obtain⟨_,rfl⟩:=hown0.cap_le.2 rfl;have c2:=cE wr;(go_wp2_with fail);refine c2.mono ?_;rintro e w2 ⟨rfl,rfl⟩;(go_wp2_with fail);have e3:tB R = []:=Hsrt.out;go_ret;exact⟨none,0,by rw[e3];rfl,by rw[e3];exact Own.nil _ _ _ _,by rw[Hgm.out];exact hb⟩
      · have hF:jR wr gm g O.length cap1 (atF O):=by show Own _ _ _ _ _ _ _ _;rw[vo];exact hown0
        have c2:=cF wr gm g O.length cap1 (atF O) hF (by omega);have hg:=hown0.at_base (x:=g) (by simp[blk]);clear hown0 hF;(go_wp2_with fail);refine c2.mono ?_;rintro e w2 ⟨rfl,⟨f2,ho2,hs2,hr2⟩,hk2⟩;have hrows:nK f2 O.length=(tB R).map zL:=by
          rw[Hsrt.out,<-XH HO1.out (fun k h=>by unfold atF;rw[getElem!_pos O k h]) hs2 hr2];unfold nK;rw[List.map_map];rfl
        have hown2:Own w2 gm 45 34 (some ⟨g,0,none⟩) O.length cap1 ((tB R).map zL):=by rw[<-hrows];exact ho2
        have hb2:Below gm w w2:=hb.trans (hk2.below (by omega) (by simp;omega));clear c2 ho2 hs2 hr2 hk2 hrows hb;(go_wp2_with fail);go_ret;exact⟨some ⟨g,0,none⟩,cap1,by rw[Hsl.out];rfl,by rw[Hgm.out,Hsl.out];exact hown2,by rw[Hgm.out];exact hb2⟩
end
section
open Go.RowKit Stb
structure jA (w:World) (B:Nat) (A:Option Addr) (n cap:Nat) (L:List yE):Prop where
  own:Own w B 168 70 A n cap (L.map yK)
  refs:∀a∈L,g4 w a/\∀x∈blk a.A,x<w.heap.size/\x∉blk A
theorem jA.below {w w':World} {B:Nat} {A:Option Addr} {n cap:Nat} {L:List yE} (h:jA w B A n cap L) (hb:Below w.heap.size w w'):jA w' B A n cap L :=
  ⟨h.own.below hb,fun a ha=>⟨(h.refs a ha).1.below hb,fun x hx=>⟨Nat.lt_of_lt_of_le ((h.refs a ha).2 x hx).1 hb.size,((h.refs a ha).2 x hx).2⟩⟩⟩
theorem jA.mono {w:World} {B B':Nat} {A:Option Addr} {n cap:Nat} {L:List yE} (h:jA w B A n cap L) (hB:B'<=B):jA w B' A n cap L:=⟨h.own.mono hB,h.refs⟩
theorem lC (t:ByteArray) (A:Option Addr) (n cap:Nat) (R:List zG) (w:World) (hm:q9 w A n R) (hn:n<=1000) (ho:(qS R).length<=30) (hs:∀m∈R,m.body.size<=600) (hp:yZ w) :
    Calls Tryz.prog 54 #[.int .i64 (yO t),.slice A n cap] w fun e w'=>∃A' cap' L,e = .returned (.slice A' L.length cap')/\jA w' w.heap.size A' L.length cap' L/\L.map yE.m=kK t R/\Below w.heap.size w w':=by
  have c1:=JU A n cap R w hm hn ho;have hSl:(tB R).length<=30:=by rw[cD];exact ho
  have hSs:∀m∈tB R,m.body.size<=600:=fun m h=>hs m (jx R m h);have hF:kK t R=(tB R).filter fun m=>decide (kE t m):=rfl;obtain⟨S,hS⟩:∃S,tB R=S:=⟨_,rfl⟩
  rw[hS]at c1 hSl hSs hF;rw[hF];obtain⟨K,hK⟩:∃K,yO t=K:=⟨_,rfl⟩
  have HK:=Lib.hid hK;rw[hK];clear hS hF hs hm hK;go_enter Tryz.func54,Tryz.ntmps54
  (go_wp2_with fail);refine c1.mono ?_;rintro e w1 ⟨A1,cap1,rfl,hown,hb1⟩;have hp1:=hp.below hb1;have hSlr:q9 w1 A1 S.length S:=hown.slr;clear c1 hown hp;(go_wp2_with fail);go_loopw [5,13] (fun out iv wr=>∃(k:Nat) (A2:Option Addr) (cap2:Nat) (L:List yE),k<=S.length/\iv = .int .i64 k/\out = .slice A2 L.length cap2/\jA wr w1.heap.size A2 L.length cap2 L/\Hid (L.map yE.m=(S.take k).filter fun m=>decide (kE t m))/\L.length<=k/\Below w1.heap.size w1 wr) (fun _ iv _=>S.length-(intOf iv).toNat)
  case atStart=>exact⟨0,none,0,[],Nat.zero_le _,rfl,rfl,⟨Own.nil _ _ _ _,by simp⟩,(show _=_ by simp),Nat.le_refl _,Below.refl _ _⟩
  case round =>
    obtain⟨k,A2,cap2,L,hk,rfl,rfl,hacts,hL,hlk,hb⟩:=hrel;by_cases hlt:k<S.length
    · obtain⟨q,o,rfl,hrow,_,_⟩:=q9.get (SlR.below hSlr hb) hlt hlt;have htk:(S.take (k+1)).filter (fun m=>decide (kE t m))=(S.take k).filter (fun m=>decide (kE t m))++if kE t (S[k]'hlt)then[S[k]'hlt]else[]:=by
        rw[List.take_succ_eq_append_getElem hlt,List.filter_append];congr 1
        by_cases h:kE t (S[k]'hlt)
        · rw[if_pos h];simp[h]
        · rw[if_neg h];simp[h]
      have hbs:=hSs _ (List.getElem_mem hlt);obtain⟨m,hmm⟩:∃m,S[k]'hlt=m:=⟨_,rfl⟩
      rw[hmm]at hrow htk hbs;have Htk:=Lib.hid htk;clear hmm htk;have hfit:kE t m↔opE m.body.data.toList=0/\k7 (opO m.body.data.toList).k=K:=by unfold kE;rw[HK.out]
      have hb0:Below wr.heap.size wr (wr.alloc (.cells (zL m) 45)):=(Below.refl _ _).alloc (Nat.le_refl _) _;have hr0:z9 (wr.alloc (.cells (zL m) 45)) wr.heap.size 0 34=some (zL m):=by simp[go_sem]
      have hp0:yZ (wr.alloc (.cells (zL m) 45)):=(hp1.below hb).below hb0;have ha0:=hacts.below hb0;have hw0:Below w1.heap.size w1 (wr.alloc (.cells (zL m) 45)):=hb.trans (hb0.mono hb.size);go_upto_region 5 with fail
      obtain⟨gx,hgx⟩:∃gx,wr.heap.size=gx:=⟨_,rfl⟩
      obtain⟨W0,hW0⟩:∃W0,W0=wr.alloc (.cells (zL m) 45):=⟨_,rfl⟩
      rw[<-hW0]at hr0 hp0 ha0 hw0 |-;rw[hgx]at hr0 |-;clear hW0 hgx hb0 hacts hb hrow;have hbd:W0.cell? ⟨gx,33,none⟩=some (.string m.body):=by have:=z8 hr0 (j:=33) (by omega);rwa [mY,Nat.zero_add]at this
      have cop:=op_Of m.body W0 hp0 (by omega);obtain⟨l,hl⟩:∃l,m.body.data.toList=l:=⟨_,rfl⟩
      have Hl:=Lib.hid hl;rw[hl]at cop hfit;obtain⟨E,hE⟩:∃E,opE l=E:=⟨_,rfl⟩
      have HE:=Lib.hid hE;rw[hE]at hfit;have Hfit:=Lib.hid hfit;clear hl hfit;(go_wp2_with fail);refine cop.mono ?_;rintro en w3 ⟨V,rfl,hok,hbad,hb3⟩;rw[hE]at hok hbad |-;have hr3:z9 w3 gx 0 34=some (zL m):=(zB (hb3.block gx (zI hr0)) _ _).trans hr0;have ha3:=ha0.below hb3;have hw3:=hw0.trans (hb3.mono hw0.size);have HA2:Hid (∀x∈blk A2,x<W0.heap.size):=fun x hx=>(ha0.own.at_base hx).2;clear cop hb3 ha0 hr0 hbd;by_cases h0:E=0
      · subst h0;obtain⟨A3,c3,rfl,hown⟩:=hok rfl;have hA3:∀x∈blk A3,x<w3.heap.size/\x∉blk A2:=fun x hx=>⟨(hown.at_base hx).2,fun hm=>by have h1:=(hown.at_base hx).1;have h2:=HA2.out x hm;omega⟩;have hoo:=fF l hE;have href:y8 w3 A3 (opO l).refs.length (opO l).refs:=hown.slr;obtain⟨x,hx⟩:∃x:OpP,(⟨(opO l).k,(opO l).n,(opO l).key,(opO l).val,(opO l).ref,.slice A3 (opO l).refs.length c3⟩:OpP)=x:=⟨_,rfl⟩
        have cb:=fun W=>VK (opO l).k W (by have:=hoo.2.2.1;omega);have hact:(⟨m,A3,c3⟩:yE)=⟨m,A3,c3⟩:=rfl;have hrow:yK ⟨m,A3,c3⟩=dAC ⟨(opO l).k,(opO l).n,(opO l).key,(opO l).val,(opO l).ref,.slice A3 (opO l).refs.length c3⟩ m.id m.h:=by unfold yK opM oOf;dsimp only;rw[Hl.out]
        have hrf:g4 w3 ⟨m,A3,c3⟩:=by unfold g4 oOf;dsimp only;rw[Hl.out];exact href
        have hfit':kE t m↔k7 (opO l).k=K:=by rw[Hfit.out];exact⟨fun h=>h.2,fun h=>⟨rfl,h⟩⟩
        have HA3:=Lib.hid hA3;clear hok hbad hown hE href hx Hfit hact hA3;unfold opC;obtain⟨o1,ho1⟩:∃o1,opO l=o1:=⟨_,rfl⟩
        rw[ho1]at cb hrow hfit' |-;clear ho1 hoo;obtain⟨B1,hB1⟩:∃B1,k7 o1.k=B1:=⟨_,rfl⟩
        rw[hB1]at cb hfit';have Hfit:=Lib.hid hfit';have Hrow:=Lib.hid hrow;clear hB1 hfit' hrow;have hb4:Below w3.heap.size w3 (w3.alloc (.cells (zD ⟨o1.k,o1.n,o1.key,o1.val,o1.ref,.slice A3 o1.refs.length c3⟩) 105)):=(Below.refl _ _).alloc (Nat.le_refl _) _;have hr4:z9 (w3.alloc (.cells (zD ⟨o1.k,o1.n,o1.key,o1.val,o1.ref,.slice A3 o1.refs.length c3⟩) 105)) gx 0 34=some (zL m):=(zB (hb4.block gx (zI hr3)) _ _).trans hr3;have hro4:z9 (w3.alloc (.cells (zD ⟨o1.k,o1.n,o1.key,o1.val,o1.ref,.slice A3 o1.refs.length c3⟩) 105)) w3.heap.size 0 37=some (zD ⟨o1.k,o1.n,o1.key,o1.val,o1.ref,.slice A3 o1.refs.length c3⟩):=by simp[go_sem]
        have ha4:=ha3.below hb4;have hrf4:=hrf.below hb4;have hw4:=hw3.trans (hb4.mono hw3.size);have hz4:w3.heap.size<(w3.alloc (.cells (zD ⟨o1.k,o1.n,o1.key,o1.val,o1.ref,.slice A3 o1.refs.length c3⟩) 105)).heap.size:=by simp
        go_upto_region 6 with fail
        obtain⟨go,hgo⟩:∃go,w3.heap.size=go:=⟨_,rfl⟩
        have Hgo:=Lib.hid hgo;obtain⟨W4,hW4⟩:∃W4,W4=(w3.alloc (.cells (zD ⟨o1.k,o1.n,o1.key,o1.val,o1.ref,.slice A3 o1.refs.length c3⟩) 105)):=⟨_,rfl⟩
        rw[<-hW4]at hr4 hro4 ha4 hrf4 hw4 hz4 |-;rw[hgo]at hro4 hz4 |-;clear hW4 hgo hb4 hr3 ha3 hrf hw3;have hcK:=z8 hro4 (j:=0) (by omega);rw[qH,Nat.zero_add]at hcK;change W4.cell? _=some (.int .i64 (o1.k:Int))at hcK;have cb1:=cb W4;clear cb;obtain⟨bb,hbb⟩:∃bb:Bool,(B1==K)=bb:=⟨_,rfl⟩
        have Hbb:=Lib.hid hbb;(go_wp2_with fail);refine cb1.mono ?_;rintro e w5 ⟨rfl,rfl⟩;clear cb1;have hid:z9 W4 gx 0 32=some (idC m.id):=by have:=zV hr4 (j:=0) (m:=32) (by omega);rwa [jM]at this
        have hht:W4.cell? ⟨gx,32,none⟩=some (.int .i64 m.h):=by have:=z8 hr4 (j:=32) (by omega);rwa [vI,Nat.zero_add]at this
        have hLl:L.length<=30:=by omega
        cases bb with
        | true =>
          have hft:kE t m:=Hfit.out.2 (by simpa using Hbb.out);have htk:=Htk.out;rw[if_pos hft]at htk;have Htk2:=Lib.hid htk;clear htk hft;have hbx:Below W4.heap.size W4 (W4.alloc (.cells (dAC ⟨o1.k,o1.n,o1.key,o1.val,o1.ref,.slice A3 o1.refs.length c3⟩ m.id m.h) 168)):=(Below.refl _ _).alloc (Nat.le_refl _) _;have hown1:=ha4.own.below hbx;have hrow2:z9 (W4.alloc (.cells (dAC ⟨o1.k,o1.n,o1.key,o1.val,o1.ref,.slice A3 o1.refs.length c3⟩ m.id m.h) 168)) W4.heap.size 0 70=some (dAC ⟨o1.k,o1.n,o1.key,o1.val,o1.ref,.slice A3 o1.refs.length c3⟩ m.id m.h):=by simp[go_sem]
          have hws:=hw4.size;have hb1s:=hb1.size;have hxs:W4.heap.size<(W4.alloc (.cells (dAC ⟨o1.k,o1.n,o1.key,o1.val,o1.ref,.slice A3 o1.refs.length c3⟩ m.id m.h) 168)).heap.size:=by simp
          go_upto_region 8 with(at_builtin;refine yX k9 rfl hown1 rfl hrow2 (YT _ _ _ rfl) (by omega) (by omega) (by omega) ?_;intro A6 cap6 w6 hown6 hk6 hsub6)
          have hkb:∀x∈blk A2,w1.heap.size<=x:=fun x hx=>(ha4.own.at_base hx).1;have hb6:Below w1.heap.size w1 w6:=(hw4.trans (hbx.mono hws)).trans (hk6.below (by omega) hkb);have hz6:=hk6.size;have hacts6:jA w6 w1.heap.size A6 (L ++ [(⟨m,A3,c3⟩:yE)]).length cap6 (L ++ [(⟨m,A3,c3⟩:yE)]):=by
            refine⟨by simpa[Hrow.out]using hown6,fun a ha=>?_⟩;have hold:g4 W4 a/\∀x∈blk a.A,x<W4.heap.size/\x∉blk A2:=by
              rcases List.mem_append.1 ha with ha | ha
              · exact ha4.refs a ha
              · have e:a=(⟨m,A3,c3⟩:yE):=by simpa using ha
                subst e;exact⟨hrf4,fun x hx=>⟨by have:=(HA3.out x hx).1;have:=Hgo.out;omega,(HA3.out x hx).2⟩⟩
            refine⟨SlR.kept (hold.1.below hbx) hk6 (fun x hx=>(hold.2 x hx).2),fun x hx=>⟨by have:=(hold.2 x hx).1;omega,fun hm=>?_⟩⟩;rcases hsub6 x hm with h1 | h1
            · exact(hold.2 x hx).2 h1
            · have:=(hold.2 x hx).1;omega
          have hL6:Hid ((L ++ [(⟨m,A3,c3⟩:yE)]).map yE.m=(S.take (k+1)).filter fun m=>decide (kE t m)):=(show _=_ by rw[Htk2.out,List.map_append,hL.out];rfl)
          have hle6:((L.length:Int)+1)=((L ++ [(⟨m,A3,c3⟩:yE)]).length:Int):=by simp
          clear hown6 hk6 hsub6 hown1 hrow2 hbx ha4 hw4 hbb;(go_wp2_with fail);go_roundw
          case rel=>exact⟨k+1,A6,cap6,L ++ [(⟨m,A3,c3⟩:yE)],by omega,by go_num,by simp,hacts6,hL6,by simp;omega,hb6⟩
          case measure=>simp[intOf];omega
        | false =>
          have hft:¬kE t m:=fun h=>(by have h1:=Hfit.out.1 h;have h2:=Hbb.out;simp[h1]at h2);have htk:=Htk.out;rw[if_neg hft,List.append_nil]at htk;have Htk2:=Lib.hid htk;clear htk hft;(go_wp2_with fail);go_roundw
          case rel=>exact⟨k+1,A2,cap2,L,by omega,by go_num,rfl,ha4,(show _=_ by rw[Htk2.out];exact hL.out),by omega,hw4⟩
          case measure=>simp[intOf];omega
      · have hft:¬kE t m:=fun h=>h0 (Hfit.out.1 h).1;have hV:=hbad h0;subst hV;have htk:=Htk.out;rw[if_neg hft,List.append_nil]at htk;have Htk2:=Lib.hid htk;have hne:(E==0)=false:=by simpa using h0
        have hb4:Below w3.heap.size w3 (w3.alloc (.cells (zD yJ) 105)):=(Below.refl _ _).alloc (Nat.le_refl _) _;have ha4:=ha3.below hb4;have hw4:=hw3.trans (hb4.mono hw3.size);clear htk hft hok hbad hE Hfit h0 ha3 hw3 hr3;(go_wp2_with fail);go_roundw
        case rel=>exact⟨k+1,A2,cap2,L,by omega,by go_num,rfl,ha4,(show _=_ by rw[Htk2.out];exact hL.out),by omega,hw4⟩
        case measure=>simp[intOf];omega
    · have e2:S.take k=S:=List.take_of_length_le (by omega);have hL2:=hL.out;rw[e2]at hL2;have hb2:Below w.heap.size w wr:=hb1.trans (hb.mono hb1.size);have hacts2:=hacts.mono (B':=w.heap.size) hb1.size;clear e2 hacts hL hb;(go_wp2_with fail);go_ret;exact⟨A2,cap2,L,rfl,hacts2,hL2,hb2⟩
end
section
open Go.RowKit Stb
abbrev kM (a:yE):Nat:=(oOf a.m).k
theorem of1_any (a:yE) (k:Int) (g:Nat) (w:World) (hc:w.cell? ⟨g,0,none⟩=some (.int .i64 k)) :
    Calls Tryz.prog 128 #[.agg (yK a),.pointer (some ⟨g,0,none⟩)] w fun e w'=>e = .returned (.bool (decide ((kM a:Int)=k)))/\Below w.heap.size w w':=by
  have hb:Below w.heap.size w (w.alloc (.cells (yK a) 168)):=(Below.refl _ _).alloc (Nat.le_refl _) _;have hc1:=(hb.cell (p:=⟨g,0,none⟩) (World.block_lt_of_cell? w _ hc)).trans hc;go_enter Tryz.func128,Tryz.ntmps128
  (go_wp2_with fail);go_ret;exact⟨zS (by simp[BEq.beq]),hb⟩
theorem some_of (k:Int) (g:Nat) (A:Option Addr) (n cap:Nat) (L:List yE) (B:Nat) (w:World) (ha:jA w B A n cap L) (hn:n<=30) (hc:w.cell? ⟨g,0,none⟩=some (.int .i64 k)) :
    Calls Tryz.prog 127 #[.slice A n cap,.func (.func 128) #[] #[.pointer (some ⟨g,0,none⟩)]] w fun e w'=>∃A' cap',e = .returned (.slice A' (L.filter fun a=>decide ((kM a:Int)=k)).length cap')/\jA w' w.heap.size A' (L.filter fun a=>decide ((kM a:Int)=k)).length cap' (L.filter fun a=>decide ((kM a:Int)=k))/\Below w.heap.size w w':=by
  have hlen:L.length=n:=by simpa using ha.own.len
  have hgl:=World.block_lt_of_cell? w _ hc;go_enter Tryz.func127,Tryz.ntmps127
  (go_wp2_with fail);go_loopw [5,10] (fun out iv wr=>∃(i:Nat) (A2:Option Addr) (cap2:Nat),i<=n/\iv = .int .i64 i/\out = .slice A2 ((L.take i).filter fun a=>decide ((kM a:Int)=k)).length cap2/\jA wr w.heap.size A2 ((L.take i).filter fun a=>decide ((kM a:Int)=k)).length cap2 ((L.take i).filter fun a=>decide ((kM a:Int)=k))/\Below w.heap.size w wr) (fun _ iv _=>n-(intOf iv).toNat)
  case atStart=>exact⟨0,none,0,Nat.zero_le _,rfl,rfl,⟨Own.nil _ _ _ _,by simp⟩,Below.refl _ _⟩
  case round =>
    obtain⟨i,A2,cap2,hi,rfl,rfl,hacts,hb⟩:=hrel;by_cases hlt:i<n
    · have hLr:=(ha.below hb)
      obtain⟨q,o,rfl,hrow⟩:=q6.get hLr.own.slr hlt (by omega);have htk:(L.take (i+1)).filter (fun a=>decide ((kM a:Int)=k))=(L.take i).filter (fun a=>decide ((kM a:Int)=k))++if(kM (L[i]'(by omega)):Int)=k then[L[i]'(by omega)]else[]:=by
        rw[List.take_succ_eq_append_getElem (by omega),List.filter_append];congr 1
        by_cases h:(kM (L[i]'(by omega)):Int)=k
        · rw[if_pos h];simp[h]
        · rw[if_neg h];simp[h]
      obtain⟨a,haa⟩:∃a,L[i]'(by omega)=a:=⟨_,rfl⟩
      have hraf:=hLr.refs _ (List.getElem_mem (l:=L) (n:=i) (by omega));have hraw:=(ha.refs _ (List.getElem_mem (l:=L) (n:=i) (by omega))).2;rw[haa]at hrow htk hraf hraw;have Htk:=Lib.hid htk;have hP:((L.take i).filter fun a=>decide ((kM a:Int)=k)).length<=30:=Nat.le_trans (List.length_filter_le _ _) (by rw[List.length_take];omega);obtain⟨P,hPe⟩:∃P,((L.take i).filter fun a=>decide ((kM a:Int)=k))=P:=⟨_,rfl⟩
      rw[hPe]at hP hacts Htk |-;have hb0:Below wr.heap.size wr (wr.alloc (.cells (yK a) 168)):=(Below.refl _ _).alloc (Nat.le_refl _) _;have hr0:z9 (wr.alloc (.cells (yK a) 168)) wr.heap.size 0 70=some (yK a):=by simp[go_sem]
      have hc0:(wr.alloc (.cells (yK a) 168)).cell? ⟨g,0,none⟩=some (.int .i64 k):=((hb.trans (hb0.mono hb.size)).cell (p:=⟨g,0,none⟩) hgl).trans hc;have ha0:=hacts.below hb0;have hw0:Below w.heap.size w (wr.alloc (.cells (yK a) 168)):=hb.trans (hb0.mono hb.size);have hraf0:g4 (wr.alloc (.cells (yK a) 168)) a:=hraf.1.below hb0;have hz0:wr.heap.size<(wr.alloc (.cells (yK a) 168)).heap.size:=by simp
      clear haa hPe htk hLr hacts;go_upto_region 5 with fail
      obtain⟨gx,hgx⟩:∃gx,wr.heap.size=gx:=⟨_,rfl⟩
      obtain⟨W0,hW0⟩:∃W0,W0=wr.alloc (.cells (yK a) 168):=⟨_,rfl⟩
      rw[<-hW0]at hr0 hc0 ha0 hw0 hraf0 hz0 |-;have hbk:∀x∈blk a.A,x<W0.heap.size/\x∉blk A2:=fun x hx=>⟨by have:=(hraf.2 x hx).1;omega,fun hm=>by have h1:=(hraw x hx).1;have h2:=(ha0.own.at_base hm).1;omega⟩;rw[hgx]at hr0 hz0 |-;have c1:=of1_any a k g W0 hc0;clear hW0 hgx hb0 hb hrow;obtain⟨bb,hbb⟩:∃bb:Bool,decide ((kM a:Int)=k)=bb:=⟨_,rfl⟩
      rw[hbb]at c1;have Hbb:=Lib.hid hbb;have Hbk:=Lib.hid hbk;clear hbb hraw hraf hbk;(go_wp2_with fail);refine c1.mono ?_;rintro e W1 ⟨rfl,hb1⟩;have hr1:z9 W1 gx 0 70=some (yK a):=(zB (hb1.block gx hz0) _ _).trans hr0;have ha1:=ha0.below hb1;have hw1:=hw0.trans (hb1.mono hw0.size);have hraf1:=hraf0.below hb1;have hz1:=hb1.size;clear c1 hb1 hr0 ha0 hw0 hraf0;cases bb with
      | true =>
        have htk:=Htk.out;rw[if_pos (of_decide_eq_true Hbb.out)]at htk;have Htk2:=Lib.hid htk;clear htk;have hbx:Below W1.heap.size W1 (W1.alloc (.cells (yK a) 168)):=(Below.refl _ _).alloc (Nat.le_refl _) _;have hown1:=ha1.own.below hbx;have hrow2:z9 (W1.alloc (.cells (yK a) 168)) W1.heap.size 0 70=some (yK a):=by simp[go_sem]
        have hws:=hw1.size;have hxs:W1.heap.size<(W1.alloc (.cells (yK a) 168)).heap.size:=by simp
        go_upto_region 7 with(at_builtin;refine yX k9 rfl hown1 rfl hrow2 (pN _) (by omega) (by omega) (by omega) ?_;intro A6 cap6 w6 hown6 hk6 hsub6)
        have hkb:∀x∈blk A2,w.heap.size<=x:=fun x hx=>(ha1.own.at_base hx).1;have hb6:Below w.heap.size w w6:=(hw1.trans (hbx.mono hws)).trans (hk6.below (by omega) hkb);have hacts6:jA w6 w.heap.size A6 (P ++ [a]).length cap6 (P ++ [a]):=by
          have hz6:=hk6.size;refine⟨by simpa using hown6,fun y hy=>?_⟩;have hold:g4 W1 y/\∀x∈blk y.A,x<W1.heap.size/\x∉blk A2:=by
            rcases List.mem_append.1 hy with hy | hy
            · exact ha1.refs y hy
            · have e:y=a:=by simpa using hy
              subst e;exact⟨hraf1,fun x hx=>⟨by have:=(Hbk.out x hx).1;omega,(Hbk.out x hx).2⟩⟩
          refine⟨SlR.kept (hold.1.below hbx) hk6 (fun x hx=>(hold.2 x hx).2),fun x hx=>⟨by have:=(hold.2 x hx).1;omega,fun hm=>?_⟩⟩;rcases hsub6 x hm with h1 | h1
          · exact(hold.2 x hx).2 h1
          · have:=(hold.2 x hx).1;omega
        clear hown6 hk6 hsub6 hown1 hrow2 hbx ha1 hw1;(go_wp2_with fail);go_roundw
        case rel=>exact⟨i+1,A6,cap6,by omega,by go_num,by rw[Htk2.out];simp,by rw[Htk2.out];exact hacts6,hb6⟩
        case measure=>simp[intOf];omega
      | false =>
        have htk:=Htk.out;rw[if_neg (of_decide_eq_false Hbb.out),List.append_nil]at htk;have Htk2:=Lib.hid htk;clear htk;(go_wp2_with fail);go_roundw
        case rel=>exact⟨i+1,A2,cap2,by omega,by go_num,by rw[Htk2.out],by rw[Htk2.out];exact ha1,hw1⟩
        case measure=>simp[intOf];omega
    · have e2:L.take i=L:=List.take_of_length_le (by omega);rw[e2]at hacts |-;clear e2;(go_wp2_with fail);go_ret;exact⟨A2,cap2,rfl,hacts,hb⟩
theorem YG (k:Int) (A:Option Addr) (n cap:Nat) (L:List yE) (B:Nat) (w:World) (ha:jA w B A n cap L) (hn:n<=30) :
    Calls Tryz.prog 91 #[.slice A n cap,.int .i64 k] w fun e w'=>∃A' cap',e = .returned (.slice A' (L.filter fun a=>decide ((kM a:Int)=k)).length cap')/\jA w' w.heap.size A' (L.filter fun a=>decide ((kM a:Int)=k)).length cap' (L.filter fun a=>decide ((kM a:Int)=k))/\Below w.heap.size w w':=by
  have hb:Below w.heap.size w (w.alloc (.cells #[.int .i64 k] 3)):=(Below.refl _ _).alloc (Nat.le_refl _) _;have c1:=some_of k w.heap.size A n cap L B (w.alloc (.cells #[.int .i64 k] 3)) (ha.below hb) hn (by simp[go_sem]);go_enter Tryz.func91,Tryz.ntmps91
  (go_wp2_with fail);refine c1.mono ?_;rintro e w1 ⟨A',cap',rfl,h1,hb1⟩;have hbb:=xM hb hb1;have h2:=h1.mono (B':=w.heap.size) hb.size;clear c1 h1 hb1 hb;(go_wp2_with fail);go_ret;exact⟨A',cap',rfl,h2,hbb⟩
theorem BW (A:Option Addr) (n cap:Nat) (L:List yE) (B:Nat) (w:World) (ha:jA w B A n cap L) (hn:n<=30) (hlo:∀a∈L,-2147483648<=(oOf a.m).n/\(oOf a.m).n<2147483648) :
    Calls Tryz.prog 55 #[.slice A n cap] w fun e w'=>e = .returned (.int .i64 (cA (L.map yE.m)))/\Below w.heap.size w w':=by
  have hlen:L.length=n:=by simpa using ha.own.len
  go_enter Tryz.func55,Tryz.ntmps55
  (go_wp2_with fail);go_loopw [3,8] (fun s iv wr=>∃i:Nat,i<=n/\iv = .int .i64 i/\s = .int .i64 (cA ((L.take i).map yE.m))/\Below w.heap.size w wr) (fun _ iv _=>n-(intOf iv).toNat)
  case atStart=>exact⟨0,Nat.zero_le _,rfl,rfl,Below.refl _ _⟩
  case round =>
    obtain⟨i,hi,rfl,rfl,hb⟩:=hrel;by_cases hlt:i<n
    · obtain⟨q,o,rfl,hrow⟩:=q6.get (ha.below hb).own.slr hlt (by omega);have htk:cA ((L.take (i+1)).map yE.m)=wrap64 (cA ((L.take i).map yE.m)+(oOf (L[i]'(by omega)).m).n):=by
        rw[List.map_take,List.map_take,zj _ _ (by simp;omega)];simp
      have hl:=hlo _ (List.getElem_mem (l:=L) (n:=i) (by omega));obtain⟨a,haa⟩:∃a,L[i]'(by omega)=a:=⟨_,rfl⟩
      rw[haa]at hrow htk hl;obtain⟨s,hs⟩:∃s,cA ((L.take i).map yE.m)=s:=⟨_,rfl⟩
      rw[hs]at htk |-;have Htk:=Lib.hid htk;have hb0:Below w.heap.size w (wr.alloc (.cells (yK a) 168)):=hb.alloc hb.size _;clear haa hs htk;(go_wp2_with fail);go_roundw
      case rel=>exact⟨i+1,by omega,by go_num,by rw[Htk.out],hb0⟩
      case measure=>simp[intOf];omega
    · have e2:L.take i=L:=List.take_of_length_le (by omega);rw[e2];clear e2;(go_wp2_with fail);go_ret;exact⟨rfl,hb⟩
end
section
open Go.RowKit Go.Sort Go.Shelf
theorem dpcmp (x y:xZ) (w:World):Calls Tryz.prog 133 #[.agg (zN x),.agg (zN y)] w fun e w'=>e = .returned (.int .i64 (yG x y))/\Gr w w':=by
  go_enter Tryz.func133,Tryz.ntmps133
  go_upto_region 1 with fail
  obtain⟨W,hW⟩:∃W,W=(w.alloc (.cells (zN x) 122)).alloc (.cells (zN y) 122):=⟨_,rfl⟩
  have hB:Gr w W:=by rw[hW];exact((Gr.refl _).alloc _).alloc _
  have a3:W.cell? ⟨w.heap.size,0,none⟩=some (.string x.key):=by rw[hW];simp[go_sem]
  have a4:W.cell? ⟨w.heap.size+1,0,none⟩=some (.string y.key):=by rw[hW];simp[go_sem]
  have a5:W.cell? ⟨w.heap.size,1,none⟩=some (.string x.val):=by rw[hW];simp[go_sem]
  have a6:W.cell? ⟨w.heap.size+1,1,none⟩=some (.string y.val):=by rw[hW];simp[go_sem]
  rw[<-hW];clear hW;refine zA (Gr W) false (by kernel_rfl) (by kernel_rfl) (by kernel_rfl) (Gr.drew W) ?_;have hne:=gr_some W;have hS:=Gr.drew W;have b3:=lQ a3;have b4:=lQ a4;have b5:=lQ a5;have b6:=lQ a6;repeat(refine z6 ?_ ?_;(focus(simp only[z3];done));intro K hK;go_simp;refine hK _ ?_;clear hK K)
  refine zH ?_ ?_ ?_;(focus(exact hS));(focus(simp only[z3];done));intro K hK;go_simp;refine(BO _ _ _).mono ?_;rintro e w' ⟨rfl,rfl⟩;refine⟨_,rfl,hS,hK _ _ ?_⟩;clear hK K;repeat(refine z6 ?_ ?_;(focus(simp only[z3];done));intro K hK;go_simp;refine hK _ ?_;clear hK K)
  refine zH ?_ ?_ ?_;(focus(exact hS));(focus(simp only[z3];done));intro K hK;go_simp;refine(BO _ _ _).mono ?_;rintro e w' ⟨rfl,rfl⟩;refine⟨_,rfl,hS,hK _ _ ?_⟩;clear hK K;refine zH ?_ ?_ ?_;(focus(exact hS));(focus(simp only[z3];done));intro K hK;go_simp;refine zZ (Gr.alloc hS _) (fun hS=>?_);refine hK _ _ ?_;clear hK K;refine zH ?_ ?_ ?_;(focus(exact hS));(focus(simp only[z3];done));intro K hK;go_simp;refine(ko W.heap.size 2 [xP x.key y.key,xP x.val y.val] (by simp) (W.alloc (.cells #[.int .i64 (xP x.key y.key),.int .i64 (xP x.val y.val)] 3)).drew (Z0 W _ _)).mono ?_;rintro e w' ⟨rfl,rfl⟩;refine⟨_,rfl,hS,hK _ _ ?_⟩;clear hK K;repeat(refine z6 ?_ ?_;(focus(simp only[z3];done));intro K hK;go_simp;refine hK _ ?_;clear hK K)
  refine zK ?_;intro hS;(go_wp2_with fail);go_ret;exact⟨rfl,hB.trans hS⟩
theorem QX (w:World) (B:Nat) (A:Option Addr) (n cap:Nat) (S:List xZ) (hown:Own w B 122 2 A n cap (S.map zN)) (hn:S.length<=1000000) :
    Calls Tryz.prog 132 #[.slice A n cap,.func (.func 133) #[] #[]] w fun e w'=>e = .returned (.tuple #[])/\Own w' B 122 2 A n cap ((nN S).map zN)/\z4 (blk A) w w':=by
  have hl:S.length=n:=by simpa using hown.len
  rcases hown.addr with rfl | ⟨g,rfl⟩
  · have hn0:n=0:=(hown.cap_le.2 rfl).1;subst hn0;have hS:S = []:=List.eq_nil_of_length_eq_zero hl;subst hS;refine(AnyF.slices_SortFunc_none Tryz.laySortPair none cap (.func (.func 133) #[] #[]) w).mono ?_;rintro e w' ⟨rfl,rfl⟩;exact⟨rfl,by simpa[nN]using hown,z4.refl _ _⟩
  · subst hl;have hH:=own_holds (enc:=zN) (by omega) bF hown;have hcmp:CmpLays Tryz.prog 133 #[] (fun x:xZ=>(zN x).toList) 2 yG g 0 S.toArray.size w:=fun m os dk _ x y=>dpcmp x y _;have hgl:g<w.heap.size:=(hown.at_base (x:=g) (by simp[blk])).2;have hcon:=AnyQ.slices_SortFunc_total Tryz.laySortPair 2 xy JV (fun x:xZ=>(zN x).toList) (by simp) (fun x v hv=>xQ x v hv) yG (swo_of jH) 133 #[] g 0 cap S.toArray w
      (enters_of Tryz.func133 (by kernel_rfl) rfl) hcmp hH hgl (by simp;omega) (fun x y h1 h2=>by
        simp only[ltOf,decide_eq_false_iff_not]at h1 h2;exact Classical.byContradiction fun e=>h2 (jH.flip h1 e))
    have e1:S.toArray.size=S.length:=by simp
    rw[e1]at hcon;refine hcon.mono ?_;rintro e w' ⟨rfl,n,os,rfl⟩;have e2:(S.toArray.toList.mergeSort fun x y=>!(ltOf yG y x))=nN S:=rfl;rw[e2];obtain⟨h1,h2⟩:=VF (enc:=zN) (by omega) bF hown n (nN S) (cZ S).length_eq os;exact⟨rfl,h1,h2.mono (by simp[blk])⟩
theorem K5 (w:World) (B:Nat) (A:Option Addr) (k cap:Nat) (S:List xZ) (hown:Own w B 122 2 A k cap (S.map zN)) (hn:k<=1000000) (hB:B<=w.heap.size) :
    Calls Tryz.prog 93 #[.slice A k cap] w fun e w'=>∃A' cap',e = .returned (.slice A' (yF yG S).length cap')/\Own w' B 122 2 A' (yF yG S).length cap' ((yF yG S).map zN)/\Below B w w':=by
  have hSl:S.length=k:=by simpa using hown.len
  have hlist:yF yG S=yF yG (nN S):=dC jH fun z=>(cZ S).mem_iff.symm;have Hlist:=Lib.hid hlist;have cs:=QX w B A k cap S hown (by omega);clear hlist;go_enter Tryz.func93,Tryz.ntmps93
  (go_wp2_with fail);refine cs.mono ?_;rintro e w2 ⟨rfl,hown2,hk2⟩;have hb2:Below B w w2:=hk2.below hB fun x hx=>(hown.at_base hx).1;clear cs hk2;rcases hown2.addr with rfl | ⟨q,rfl⟩
  · have hk0:k=0:=(hown2.cap_le.2 rfl).1;have hS0:S = []:=List.eq_nil_of_length_eq_zero (hSl.trans hk0);subst hS0;subst hk0;clear hSl;have cn:=J0 w2 cap;(go_wp2_with fail);refine cn.mono ?_;rintro e w3 ⟨rfl,rfl⟩;(go_wp2_with fail);go_ret;exact⟨none,cap,rfl,by simpa[nN,yF]using hown2,hb2⟩
  · have cc:=aE w2 B q k cap (nN S) hown2 (by omega) (ka S);(go_wp2_with fail);refine cc.mono ?_;rintro e w3 ⟨rfl,hown3,hk3⟩;have hb3:=hb2.trans (hk3.below (B:=B) (Nat.le_trans hB hb2.size) (by have:=(hown2.at_base (x:=q) (by simp[blk])).1;simp;omega));rw[<-Hlist.out]at hown3 |-;clear cc hk3 hown2 hown hb2;(go_wp2_with fail);go_ret;exact⟨_,cap,rfl,hown3,hb3⟩
end
section
open Go.RowKit Stb
@[go_sem] theorem storeAct0_run (w:World) (g:Nat) (hg:g=w.heap.size) (z:Array Value) (hz:z.size=70) (e:TypeId):(stS 168 ⟨g,0,none⟩ (.agg (dAC yJ id0 0))).run Tryz.prog (w.alloc (.cells z e)) = .ok () (w.alloc (.cells (dAC yJ id0 0) e)) :=
  hg ▸ qB YM w z _ hz (tX _ _ _) (YT _ _ _ rfl)
def actV (a:yE):Value:=.agg (yK a)
theorem XX (M:List (ByteArray×yE)) (k:ByteArray) (a:yE):(gB M k a).map (fun p=>(p.1,p.2.m))=gB (M.map fun p=>(p.1,p.2.m)) k a.m:=by
  have hk:(M.map fun p=>(p.1,p.2.m)).map (·.1)=M.map (·.1):=by rw[List.map_map];rfl
  unfold gB;rw[hk];split
  · rw[List.map_map,List.map_map];refine List.map_congr_left fun p _=>?_;simp only[Function.comp_apply];split <;> rfl
  · rw[List.map_append];rfl
abbrev okS (k:ByteArray):Prop:=k.size<=maxLen
abbrev BestA (w:World) (b:Nat) (F:List yE) (M:List (ByteArray×yE)):Prop:=∃es clk,qT w b Value.string actV okS M es clk/\jN (F.map yE.m) (M.map fun p=>(p.1,p.2.m))
theorem dlast (A:Option Addr) (n cap:Nat) (L:List yE) (B:Nat) (w:World) (h:jA w B A n cap L) (hn:n<=30) (hl:∀a∈L,(oOf a.m).key.size<=16) (Ps:List xZ) (hPs:∀M,jN (L.map yE.m) M->yF yG (M.map sB)=Ps) :
    Calls Tryz.prog 57 #[.slice A n cap] w fun e w'=>∃A' cap',e = .returned (.slice A' Ps.length cap')/\Own w' w.heap.size 122 2 A' Ps.length cap' (Ps.map zN)/\Below w.heap.size w w':=by
  have hlen:L.length=n:=by simpa using h.own.len
  have hmm:=@run_makeMap Tryz.prog;have k1:=qT.new (kv:=Value.string) (vv:=actV) (ok:=okS) w w.heap.size rfl;have hb0:Below w.heap.size w (w.alloc (.map #[] 0)):=(Below.refl _ _).alloc (Nat.le_refl _) _;have h0:=(h.below hb0).own;have hAb:∀x∈blk A,x<w.heap.size:=fun x hx=>(h.own.at_base hx).2;go_enter Tryz.func57,Tryz.ntmps57
  go_upto_region 2 with fail
  obtain⟨gm,hgm⟩:∃gm,w.heap.size=gm:=⟨_,rfl⟩
  have hgs:(w.alloc (.map #[] 0)).heap.size=gm+1:=by simp[hgm]
  obtain⟨W,hW⟩:∃W,w.alloc (.map #[] 0)=W:=⟨_,rfl⟩
  rw[hW]at k1 hb0 hgs h0;rw[hW,hgm];rw[hgm]at k1 hb0 hAb;have Hgm:=Lib.hid hgm;clear hW hgm h;(go_wp2_with fail);go_loopw [14] (fun iv wr=>∃(i:Nat) (M:List (ByteArray×yE)),i<=n/\iv = .int .i64 i/\BestA wr gm (L.take i) M/\z4 [gm] W wr) (fun iv _=>n-(intOf iv).toNat)
  case atStart=>exact⟨0,[],Nat.zero_le _,rfl,⟨_,_,k1,best_nil⟩,z4.refl _ _⟩
  case round =>
    clear k1;obtain⟨i,M,hi,rfl,⟨es,clk,hmap,hbest⟩,hk⟩:=hrel;by_cases hlt:i<n
    · obtain⟨q,o,rfl,hrow⟩:=q6.get (h0.kept hk (fun x hx=>by have:=hAb x hx;simp;omega)).slr hlt (by omega);have hkey:=hl _ (List.getElem_mem (l:=L) (n:=i) (by omega));have htk:(L.take (i+1)).map yE.m=(L.take i).map yE.m ++ [(L[i]'(by omega)).m]:=by rw[List.take_succ_eq_append_getElem (by omega),List.map_append];rfl
      obtain⟨x,hx⟩:∃x,L[i]'(by omega)=x:=⟨_,rfl⟩
      rw[hx]at hrow hkey htk;have Htk:=Lib.hid htk;have Hbest:=Lib.hid hbest;clear hx htk hbest;have hba:Below wr.heap.size wr (wr.alloc (.cells (yK x) 168)):=(Below.refl _ _).alloc (Nat.le_refl _) _;have hra:z9 (wr.alloc (.cells (yK x) 168)) wr.heap.size 0 70=some (yK x):=by simp[go_sem]
      have hma:=hmap.kept (z4.of_below hba) (by simp);have hka:z4 [gm] W (wr.alloc (.cells (yK x) 168)):=z4.trans hk (z4.of_below hba) (by simp);have hgl:=hmap.lt;go_upto_region 5 with fail
      obtain⟨gx,hgx⟩:∃gx,wr.heap.size=gx:=⟨_,rfl⟩
      have hsx:gx<(wr.alloc (.cells (yK x) 168)).heap.size:=by simp[hgx]
      obtain⟨W0,hW0⟩:∃W0,W0=wr.alloc (.cells (yK x) 168):=⟨_,rfl⟩
      rw[<-hW0]at hra hma hka hsx |-;rw[hgx]at hra hgl |-;clear hW0 hgx hba hmap hk hrow;have f2:W0.cell? ⟨gx,2,none⟩=some (.string (oOf x.m).key):=by have:=z8 hra (j:=2) (by omega);rwa [sS,Nat.zero_add]at this
      by_cases hin:(oOf x.m).key∈M.map (·.1)
      · obtain⟨p,hp,hpk⟩:=List.mem_map.1 hin;have hlk:=hma.hit ZZ Tryz.underlying172 (show okS p.1 by rw[hpk];show _<=_;unfold maxLen;omega) hp true;rw[hpk]at hlk;have hlk':(Instr.lookup 172 (.map (some gm)) (.string (oOf x.m).key) true).run Tryz.prog W0 = .ok (.tuple #[.agg (yK p.2),.bool true]) W0:=hlk;clear hlk;have hbb:Below W0.heap.size W0 (W0.alloc (.cells (yK p.2) 168)):=(Below.refl _ _).alloc (Nat.le_refl _) _;have hrb:z9 (W0.alloc (.cells (yK p.2) 168)) W0.heap.size 0 70=some (yK p.2):=by simp[go_sem]
        have hra2:=(zB (hbb.block gx hsx) 0 70).trans hra;have hmb:=hma.kept (z4.of_below hbb) (by simp);have hkb:z4 [gm] W (W0.alloc (.cells (yK p.2) 168)):=z4.trans hka (z4.of_below hbb) (by simp);go_upto_region 6 with fail
        obtain⟨gp,hgp⟩:∃gp,W0.heap.size=gp:=⟨_,rfl⟩
        have hsp:gp<(W0.alloc (.cells (yK p.2) 168)).heap.size:=by simp[hgp]
        obtain⟨W1,hW1⟩:∃W1,W1=W0.alloc (.cells (yK p.2) 168):=⟨_,rfl⟩
        rw[<-hW1]at hrb hra2 hmb hkb hsp |-;rw[hgp]at hrb hsx |-;clear hW1 hgp hbb hma hka hra f2 hlk';have e1:W1.cell? ⟨gx,1,none⟩=some (.int .i64 (oOf x.m).n):=by have:=z8 hra2 (j:=1) (by omega);rwa [YZ,Nat.zero_add]at this
        have e2:W1.cell? ⟨gp,1,none⟩=some (.int .i64 (oOf p.2.m).n):=by have:=z8 hrb (j:=1) (by omega);rwa [YZ,Nat.zero_add]at this
        have e3:z9 W1 gx 37 32=some (idC x.m.id):=by have:=zV hra2 (j:=37) (m:=32) (by omega);rwa [bV,Nat.zero_add]at this
        have e4:z9 W1 gp 37 32=some (idC p.2.m.id):=by have:=zV hrb (j:=37) (m:=32) (by omega);rwa [bV,Nat.zero_add]at this
        have hO:orL [vK (oOf x.m).n (oOf p.2.m).n,zO x.m.id p.2.m.id]=mT x.m p.2.m:=rfl;obtain⟨N1,hN1⟩:∃N1,vK (oOf x.m).n (oOf p.2.m).n=N1:=⟨_,rfl⟩
        obtain⟨N2,hN2⟩:∃N2,zO x.m.id p.2.m.id=N2:=⟨_,rfl⟩
        have ci:=fun w=>cmp_int (oOf x.m).n (oOf p.2.m).n w;have cd:=fun w=>K6 x.m.id p.2.m.id w;rw[hN1,hN2]at hO;simp only[hN1]at ci;simp only[hN2]at cd;have co:=fun (W:World)=>ko W.heap.size 2 [N1,N2] (by simp) (W.alloc (.cells #[.int .i64 N1,.int .i64 N2] 3)) (Z0 W _ _);rw[hO]at co;obtain⟨c,hc⟩:∃c,mT x.m p.2.m=c:=⟨_,rfl⟩
        rw[hc]at co;have Hc:=Lib.hid hc;clear hN1 hN2 hO hc;refine zA (Bel W1) false (by kernel_rfl) (by kernel_rfl) (by kernel_rfl) (zC W1) ?_;have hne:=zQ W1;have hS:=zC W1;have b1:=zP e1;have b2:=zP e2;have b3:=zY e3;have b4:=zY e4;repeat(refine z6 ?_ ?_;(focus(simp only[z3];done));intro K hK;go_simp;refine hK _ ?_;clear hK K)
        refine zH ?_ ?_ ?_;(focus(exact hS));(focus(simp only[z3];done));intro K hK;go_simp;refine(ci _).mono ?_;rintro e w' ⟨rfl,rfl⟩;refine⟨_,rfl,hS,hK _ _ ?_⟩;clear hK K;repeat(refine z6 ?_ ?_;(focus(simp only[z3];done));intro K hK;go_simp;refine hK _ ?_;clear hK K)
        refine zH ?_ ?_ ?_;(focus(exact hS));(focus(simp only[z3];done));intro K hK;go_simp;refine(cd _).mono ?_;rintro e w' ⟨rfl,hb⟩;replace hS:=yN hS hb;refine⟨_,rfl,hS,hK _ _ ?_⟩;clear hK K hb;repeat(refine z6 ?_ ?_;(focus(simp only[z3];done));intro K hK;go_simp;refine hK _ ?_;clear hK K)
        refine zH ?_ ?_ ?_;(focus(exact hS));(focus(simp only[z3];done));intro K hK;go_simp;refine zZ (rM hS _) (fun hS=>?_);refine hK _ _ ?_;clear hK K;repeat(refine z6 ?_ ?_;(focus(simp only[z3];done));intro K hK;go_simp;refine hK _ ?_;clear hK K)
        refine zH ?_ ?_ ?_;(focus(exact hS));(focus(simp only[z3];done));intro K hK;go_simp;refine(co w').mono ?_;rintro e w' ⟨rfl,rfl⟩;refine⟨_,rfl,hS,hK _ _ ?_⟩;clear hK K;repeat(refine z6 ?_ ?_;(focus(simp only[z3];done));intro K hK;go_simp;refine hK _ ?_;clear hK K)
        refine zK ?_;intro hS;have hbz:Below W1.heap.size W1 (w'.alloc (.cells #[.int .i64 N1,.int .i64 N2] 3)):=hS;obtain⟨W2,hW2⟩:∃W2,w'.alloc (.cells #[.int .i64 N1,.int .i64 N2] 3)=W2:=⟨_,rfl⟩
        rw[hW2]at hbz |-;have hra3:=(zB (hbz.block gx (zI hra2)) 0 70).trans hra2;have hmc:=hmb.kept (z4.of_below hbz) (by simp);have hkc:z4 [gm] W W2:=z4.trans hkb (z4.of_below hbz) (by simp);clear b1 b2 b3 b4 hne hS ci cd co hW2 e1 e2 e3 e4 hra2 hmb hkb hrb hbz;by_cases hc0:0<c
        · have f2:W2.cell? ⟨gx,2,none⟩=some (.string (oOf x.m).key):=by have:=z8 hra3 (j:=2) (by omega);rwa [sS,Nat.zero_add]at this
          obtain⟨w5,es5,clk5,hrun,hm5,hk5⟩:=hmc.update (v:=x) ZZ Tryz.underlying172 (show okS (oOf x.m).key by show _<=_;unfold maxLen;omega);have hrun':(Instr.mapUpdate 172 (.map (some gm)) (.string (oOf x.m).key) (.agg (yK x))).run Tryz.prog W2 = .ok () w5:=hrun;have hnew:Hid (jN ((L.take (i+1)).map yE.m) ((gB M (oOf x.m).key x).map fun p=>(p.1,p.2.m))):=(show jN _ _ by
            rw[Htk.out,XX];refine Hbest.out.better (List.mem_map.2 ⟨p,hp,?_⟩) (a:=x.m) (b:=p.2.m) (by rw[Hc.out];exact hc0);rw[hpk])
          have hkd:z4 [gm] W w5:=z4.trans hkc hk5 (fun y hy=>.inl hy);clear hrun hmc hkc;(go_wp2_with fail);go_roundw
          case rel=>exact⟨i+1,_,by omega,by go_num,⟨es5,clk5,hm5,hnew.out⟩,hkd⟩
          case measure=>simp[intOf];omega
        · have hnew:Hid (jN ((L.take (i+1)).map yE.m) (M.map fun p=>(p.1,p.2.m))):=(show jN _ _ by
            rw[Htk.out];refine Hbest.out.worse (List.mem_map.2 ⟨p,hp,?_⟩) (a:=x.m) (b:=p.2.m) ?_ (by rw[Hc.out];exact hc0)
            · rw[hpk]
            · have e:(M.map fun p=>(p.1,p.2.m)).map (·.1)=M.map (·.1):=by rw[List.map_map];rfl
              rw[e];exact hmc.nodup)
          (go_wp2_with fail);go_roundw
          case rel=>exact⟨i+1,M,by omega,by go_num,⟨es,clk,hmc,hnew.out⟩,hkc⟩
          case measure=>simp[intOf];omega
      · have hlk:=hma.miss ZZ Tryz.underlying172 (rP W0) (show okS (oOf x.m).key by show _<=_;unfold maxLen;omega) hin true;have hlk':(Instr.lookup 172 (.map (some gm)) (.string (oOf x.m).key) true).run Tryz.prog W0 = .ok (.tuple #[.agg (dAC yJ id0 0),.bool false]) W0:=hlk;clear hlk;have hbb:Below W0.heap.size W0 (W0.alloc (.cells (dAC yJ id0 0) 168)):=(Below.refl _ _).alloc (Nat.le_refl _) _;have hra2:=(zB (hbb.block gx hsx) 0 70).trans hra;have hmb:=hma.kept (z4.of_below hbb) (by simp);have hkb:z4 [gm] W (W0.alloc (.cells (dAC yJ id0 0) 168)):=z4.trans hka (z4.of_below hbb) (by simp);go_upto_region 6 with fail
        obtain⟨gp,hgp⟩:∃gp,W0.heap.size=gp:=⟨_,rfl⟩
        obtain⟨W1,hW1⟩:∃W1,W1=W0.alloc (.cells (dAC yJ id0 0) 168):=⟨_,rfl⟩
        rw[<-hW1]at hra2 hmb hkb |-;rw[hgp]at hsx |-;clear hW1 hgp hbb hma hka hra f2 hlk';refine zA (Bel W1) false (by kernel_rfl) (by kernel_rfl) (by kernel_rfl) (zC W1) ?_;have hne:=zQ W1;have hS:=zC W1;repeat(refine z6 ?_ ?_;(focus(simp only[z3];done));intro K hK;go_simp;refine hK _ ?_;clear hK K)
        refine zH ?_ ?_ ?_;(focus(exact hS));(focus(simp only[z3];done));intro K hK;go_simp;refine hK _ _ ?_;clear hK K;repeat(refine z6 ?_ ?_;(focus(simp only[z3];done));intro K hK;go_simp;refine hK _ ?_;clear hK K)
        refine zH ?_ ?_ ?_;(focus(exact hS));(focus(simp only[z3];done));intro K hK;go_simp;refine hK _ _ ?_;clear hK K;repeat(refine z6 ?_ ?_;(focus(simp only[z3];done));intro K hK;go_simp;refine hK _ ?_;clear hK K)
        refine zH ?_ ?_ ?_;(focus(exact hS));(focus(simp only[z3];done));intro K hK;go_simp;refine hK _ _ ?_;clear hK K;repeat(refine z6 ?_ ?_;(focus(simp only[z3];done));intro K hK;go_simp;refine hK _ ?_;clear hK K)
        refine zH ?_ ?_ ?_;(focus(exact hS));(focus(simp only[z3];done));intro K hK;go_simp;refine hK _ _ ?_;clear hK K;repeat(refine z6 ?_ ?_;(focus(simp only[z3];done));intro K hK;go_simp;refine hK _ ?_;clear hK K)
        refine zK ?_;intro hS;have hra3:z9 W1.drew gx 0 70=some (yK x):=hra2;have hmc:=hmb.kept (z4.drew W1) (by simp);have hkc:z4 [gm] W W1.drew:=z4.trans hkb (z4.drew W1) (by simp);obtain⟨W2,hW2⟩:∃W2,W1.drew=W2:=⟨_,rfl⟩
        rw[hW2]at hra3 hmc hkc |-;clear hne hS hW2 hra2 hmb hkb;have f2:W2.cell? ⟨gx,2,none⟩=some (.string (oOf x.m).key):=by have:=z8 hra3 (j:=2) (by omega);rwa [sS,Nat.zero_add]at this
        obtain⟨w5,es5,clk5,hrun,hm5,hk5⟩:=hmc.update (v:=x) ZZ Tryz.underlying172 (show okS (oOf x.m).key by show _<=_;unfold maxLen;omega);have hrun':(Instr.mapUpdate 172 (.map (some gm)) (.string (oOf x.m).key) (.agg (yK x))).run Tryz.prog W2 = .ok () w5:=hrun;have hnew:Hid (jN ((L.take (i+1)).map yE.m) ((gB M (oOf x.m).key x).map fun p=>(p.1,p.2.m))):=(show jN _ _ by
          rw[Htk.out,XX];refine Hbest.out.new (a:=x.m) fun h=>hin ?_;have e:(M.map fun p=>(p.1,p.2.m)).map (·.1)=M.map (·.1):=by rw[List.map_map];rfl
          rwa [e]at h)
        have hkd:z4 [gm] W w5:=z4.trans hkc hk5 (fun y hy=>.inl hy);clear hrun hmc hkc;(go_wp2_with fail);go_roundw
        case rel=>exact⟨i+1,_,by omega,by go_num,⟨es5,clk5,hm5,hnew.out⟩,hkd⟩
        case measure=>simp[intOf];omega
    · have e2:L.take i=L:=List.take_of_length_le (by omega);rw[e2]at hbest;have hres:=hPs _ hbest;have hML:M.length<=30:=by
        have h1:(M.map (·.1)).length<=((L.map fun a=>(oOf a.m).key)).length:=pY hmap.nodup (fun k hk'=>by
          obtain⟨p,hp,rfl⟩:=List.mem_map.1 hk';obtain⟨h1,h2,_⟩:=hbest.mem (p.1,p.2.m) (List.mem_map.2 ⟨p,hp,rfl⟩);obtain⟨a,ha,e⟩:=List.mem_map.1 h1;exact List.mem_map.2 ⟨a,ha,by rw[e];exact h2⟩)
        simp at h1;omega
      have hMP:M.map (fun p=>sB (p.1,p.2.m))=(M.map fun p=>(p.1,p.2.m)).map sB:=by rw[List.map_map];rfl
      rw[<-hMP]at hres;have Hres:=Lib.hid hres;have hbw:Below gm w wr:=hb0.trans (hk.below (B:=gm) (by omega) (by simp));obtain⟨w0,hrun,hR,hb1,hs0⟩:=qT.range (P:=Tryz.prog) hmap Tryz.underlying172;have hlts:=hmap.lt;clear e2 hbest hres hMP hmap hk;go_upto_region 11 with fail
      have hbw0:Below gm w w0:=hbw.trans (hb1.mono (by omega));obtain⟨br,hbr⟩:∃br,wr.heap.size=br:=⟨_,rfl⟩
      rw[hbr]at hrun hR hs0 hlts |-;clear hrun hbw hb1 hbr;go_loopw [8] (fun out wr=>∃(S:List (ByteArray×yE)) (A2:Option Addr) (cap2:Nat),out = .slice A2 S.length cap2/\jV wr gm br Value.string actV okS M S/\Own wr w0.heap.size 122 2 A2 S.length cap2 (S.map fun p=>zN (sB (p.1,p.2.m)))/\Below gm w wr/\w0.heap.size<=wr.heap.size) (fun _ wr=>wr.rangeLeft gm br)
      case atStart=>exact⟨[],none,0,rfl,hR,Own.nil _ _ _ _,hbw0,Nat.le_refl _⟩
      case round =>
        clear hR hbw0;obtain⟨S,A2,cap2,rfl,hR,hown,hb,hsz⟩:=hrel;have hSl:S.length<=30:=Nat.le_trans hR.length hML;rcases hR.next (P:=Tryz.prog) 0 with⟨hperm,hrun⟩ | ⟨p,w1,hpM,hpS,hrun,hR1,hk1,hs1,hl1,hen⟩
        · have hPs2:yF yG (S.map fun p=>sB (p.1,p.2.m))=Ps:=by
            rw[<-Hres.out];exact dC jH fun z=>(hperm.map _).mem_iff
          have hown':Own wr gm 122 2 A2 S.length cap2 ((S.map fun p=>sB (p.1,p.2.m)).map zN):=by
            rw[List.map_map];exact hown.mono (by omega)
          have cp:=K5 wr gm A2 S.length cap2 _ hown' (by omega) (by omega);rw[hPs2]at cp;clear hperm hPs2 hown hown' hR;(go_wp2_with fail);refine cp.mono ?_;rintro e w5 ⟨A5,cap5,rfl,ho5,hb5⟩;have hb6:=hb.trans hb5;clear cp;(go_wp2_with fail);go_ret;exact⟨A5,cap5,rfl,by rw[Hgm.out];exact ho5,by rw[Hgm.out];exact hb6⟩
        · have hownr:=hown.kept hk1 (fun y hy=>by have:=(hown.at_base hy).1;simp;omega);have hb1:Below gm w w1:=hb.trans (hk1.below (by omega) (by simp;omega));obtain⟨pk,px⟩:=p;change (Instr.next _ _ _).run Tryz.prog wr = .ok (.tuple #[.bool true,.string pk,.agg (yK px)]) w1 at hrun;change (Instr.entry _).run Tryz.prog w1 = .ok (.tuple #[.string pk,.agg (yK px)]) w1 at hen;have hbx:Below w1.heap.size w1 ((w1.alloc (.cells (yK px) 168)).alloc (.cells (zN ⟨pk,(oOf px.m).val⟩) 122)):=((Below.refl _ _).alloc (Nat.le_refl _) _).alloc (by simp) _;have hown2:=hownr.below hbx;have hrow2:z9 ((w1.alloc (.cells (yK px) 168)).alloc (.cells (zN ⟨pk,(oOf px.m).val⟩) 122)) (w1.heap.size+1) 0 2=some (zN ⟨pk,(oOf px.m).val⟩):=by simp[go_sem]
          have Hs1:=Lib.hid hs1;clear hs1;go_upto_region 13 with fail
          go_wp2_with (at_builtin;refine yX yL rfl hown2 rfl hrow2 (xQ _) (by omega) (by omega) (by simp;have:=Hs1.out;omega) ?_;intro A' cap' w2 hownA hkA hsubA)
          have hbA:gm∉blk A2:=fun hx=>(by have:=(hown.at_base hx).1;omega);have hrA:br∉blk A2:=fun hx=>(by have:=(hown.at_base hx).1;omega);have hR1x:=hR1.kept (z4.of_below hbx) (by simp) (by simp);have hR2:=hR1x.kept hkA hbA hrA;have hl2:w2.rangeLeft gm br=w1.rangeLeft gm br :=
            (tE hkA hbA hrA hR1x.lt.2 hR1x.lt.1).trans (tE (z4.of_below hbx) (by simp) (by simp) hR1.lt.2 hR1.lt.1)
          have hsz2:w0.heap.size<=w2.heap.size:=by
            have e1:=hbx.size;have e2:=hkA.size;have e3:=Hs1.out;omega
          have hb2:Below gm w w2:=hb1.trans ((hbx.mono (by have:=Hs1.out;omega)).trans (hkA.below (B:=gm) (by simp;have:=Hs1.out;omega) fun y hy=>by have:=(hown.at_base hy).1;omega));clear hrun hen;(go_wp2_with fail);go_roundw
          case rel=>exact⟨S ++ [(pk,px)],A',cap',by simp,hR2,by simpa[sB]using hownA,hb2,hsz2⟩
          case measure=>omega
end
section
open Go.RowKit Stb
theorem VG (F:List zG) (m:zG):t6 (F ++ [m])=t6 F++(oOf m).refs:=by unfold t6;rw[List.flatMap_append];simp
theorem dmulti (A:Option Addr) (n cap:Nat) (L:List yE) (B:Nat) (w:World) (h:jA w B A n cap L) (hn:n<=30) (hl:∀a∈L,(oOf a.m).refs.length<=8) :
    Calls Tryz.prog 58 #[.slice A n cap] w fun e w'=>∃A' cap',e = .returned (.slice A' (yF yG (tL (L.map yE.m))).length cap')/\Own w' w.heap.size 122 2 A' (yF yG (tL (L.map yE.m))).length cap' ((yF yG (tL (L.map yE.m))).map zN)/\Below w.heap.size w w':=by
  have hlen:L.length=n:=by simpa using h.own.len
  have hmm:=@run_makeMap Tryz.prog;have k1:=qQ.new (kv:=idV) (ok:=VN) w w.heap.size rfl;have hb0:Below w.heap.size w (w.alloc (.map #[] 0)):=(Below.refl _ _).alloc (Nat.le_refl _) _;have h0:=h.below hb0;have hAb:∀x∈blk A,x<w.heap.size:=fun x hx=>(h.own.at_base hx).2;have hRb:∀a∈L,∀x∈blk a.A,x<w.heap.size:=fun a ha x hx=>((h.refs a ha).2 x hx).1;go_enter Tryz.func58,Tryz.ntmps58
  go_upto_region 2 with fail
  obtain⟨gm,hgm⟩:∃gm,w.heap.size=gm:=⟨_,rfl⟩
  have hgs:(w.alloc (.map #[] 0)).heap.size=gm+1:=by simp[hgm]
  obtain⟨W,hW⟩:∃W,w.alloc (.map #[] 0)=W:=⟨_,rfl⟩
  rw[hW]at k1 hb0 hgs h0;rw[hW,hgm];rw[hgm]at k1 hb0 hAb hRb;have Hgm:=Lib.hid hgm;clear hW hgm h;(go_wp2_with fail);go_loopw [14] (fun iv wr=>∃(i:Nat),i<=n/\iv = .int .i64 i/\lF wr gm (t6 ((L.take i).map yE.m))/\z4 [gm] W wr) (fun iv _=>n-(intOf iv).toNat)
  case atStart=>exact⟨0,Nat.zero_le _,rfl,k1,z4.refl _ _⟩
  case round =>
    clear k1;obtain⟨i,hi,rfl,hset,hk⟩:=hrel;by_cases hlt:i<n
    · obtain⟨q,o,rfl,hrow⟩:=q6.get (h0.own.kept hk (fun x hx=>by have:=hAb x hx;simp;omega)).slr hlt (by omega);have hmem:=List.getElem_mem (l:=L) (n:=i) (by omega);have hrl:=hl _ hmem;have hrf:=SlR.kept (h0.refs _ hmem).1 hk (fun x hx=>by have:=hRb _ hmem x hx;simp;omega);have hrx:=hRb _ hmem;have htk:t6 ((L.take (i+1)).map yE.m)=t6 ((L.take i).map yE.m)++(oOf (L[i]'(by omega)).m).refs:=by rw[List.take_succ_eq_append_getElem (by omega),List.map_append];exact VG _ _
      obtain⟨x,hx⟩:∃x,L[i]'(by omega)=x:=⟨_,rfl⟩
      rw[hx]at hrow hrl htk hrf hrx;obtain⟨X,hX⟩:∃X,t6 ((L.take i).map yE.m)=X:=⟨_,rfl⟩
      rw[hX]at htk hset;have Htk:=Lib.hid htk;clear hx htk hX hmem;have hba:Below wr.heap.size wr (wr.alloc (.cells (yK x) 168)):=(Below.refl _ _).alloc (Nat.le_refl _) _;have hra:z9 (wr.alloc (.cells (yK x) 168)) wr.heap.size 0 70=some (yK x):=by simp[go_sem]
      have hsa:=qQ.below hset hba;have hrfa:g4 (wr.alloc (.cells (yK x) 168)) x:=SlR.below hrf hba;have hka:z4 [gm] W (wr.alloc (.cells (yK x) 168)):=z4.trans hk (z4.of_below hba) (by simp);have hgl:=hset.lt;go_upto_region 5 with fail
      obtain⟨gx,hgx⟩:∃gx,wr.heap.size=gx:=⟨_,rfl⟩
      obtain⟨W0,hW0⟩:∃W0,W0=wr.alloc (.cells (yK x) 168):=⟨_,rfl⟩
      rw[<-hW0]at hra hsa hka hrfa |-;rw[hgx]at hra hgl |-;clear hW0 hgx hba hset hk hrow hrf;have f36:W0.cell? ⟨gx,36,none⟩=some (.slice x.A (oOf x.m).refs.length x.c):=by have:=z8 hra (j:=36) (by omega);rwa [JE,Nat.zero_add]at this
      obtain⟨J,hJ⟩:∃J,(oOf x.m).refs=J:=⟨_,rfl⟩
      unfold g4 at hrfa;rw[hJ]at f36 Htk hrfa hrl;clear hJ;have hrB:∀y∈blk x.A,y∉[gm]:=fun y hy=>(by have:=hrx y hy;simp;omega);(go_wp2_with fail);go_loopw [22] (fun jv wq=>∃(j:Nat),j<=J.length/\jv = .int .i64 j/\lF wq gm (X++J.take j)/\z4 [gm] W0 wq) (fun jv _=>J.length-(intOf jv).toNat)
      case atStart=>exact⟨0,Nat.zero_le _,rfl,by simpa using hsa,z4.refl _ _⟩
      case round =>
        obtain⟨j,hj,rfl,hset,hk⟩:=hrel;by_cases hlt2:j<J.length
        · obtain⟨q2,o2,hxa,hrow2⟩:=y8.get (SlR.kept hrfa hk hrB) hlt2 hlt2;have hJk:J.take (j+1)=J.take j ++ [J[j]'hlt2]:=List.take_succ_eq_append_getElem hlt2;obtain⟨d,hd⟩:∃d,J[j]'hlt2=d:=⟨_,rfl⟩
          rw[hd]at hrow2 hJk;have HJk:=Lib.hid hJk;rw[hxa]at f36 |-;have hbd:Below wr.heap.size wr (wr.alloc (.cells (idC d) 24)):=(Below.refl _ _).alloc (Nat.le_refl _) _;have hsd:=qQ.below hset hbd;obtain⟨w5,hrun,hs5,hk5⟩:=iput (x:=d) hsd;have hkd:z4 [gm] W0 w5:=z4.trans hk ((z4.of_below hbd).mono (S':=[gm]) (by simp) |>.trans hk5 (fun y hy=>.inl hy)) (fun y hy=>.inl hy);have hs6:lF w5 gm (X++J.take (j+1)):=qQ.congr hs5 (fun y=>by rw[HJk.out,<-List.append_assoc,List.mem_append (s:=X++J.take j),List.mem_singleton,List.mem_cons];exact Or.comm);clear hd hJk hset hk hsd hs5 hk5 hbd;(go_wp2_with fail);go_roundw
          case rel=>exact⟨j+1,by omega,by go_num,hs6,hkd⟩
          case measure=>simp[intOf];omega
        · have e2:J.take j=J:=List.take_of_length_le (by omega);rw[e2]at hset;have hkd:z4 [gm] W wr:=z4.trans hka hk (fun y hy=>.inl hy);clear e2 hk hka;(go_wp2_with fail);go_roundw
          case rel=>exact⟨i+1,by omega,by go_num,by rw[Htk.out];exact hset,hkd⟩
          case measure=>simp[intOf];omega
    · have e2:L.take i=L:=List.take_of_length_le (by omega);rw[e2]at hset;have hbw:Below gm w wr:=hb0.trans (hk.below (B:=gm) (by omega) (by simp));have hown0:=h0.own.kept hk (fun x hx=>by have:=hAb x hx;simp;omega);have hD:tL (L.map yE.m)=(L.filter fun a=>decide (a.m.id∉t6 (L.map yE.m))).map fun a=>keyP a.m:=by
        unfold tL;rw[List.filter_map,List.map_map];rfl
      obtain⟨O,hO⟩:∃O,t6 (L.map yE.m)=O:=⟨_,rfl⟩
      rw[hO]at hset hD;have HD:=Lib.hid hD;have hgl:=hset.lt;clear e2 hO hD hk h0;obtain⟨V,hV⟩:∃V,V=wr:=⟨_,rfl⟩
      rw[<-hV]at hset hbw hown0 hgl |-;clear hV;(go_wp2_with fail);go_loopw [8,32] (fun out iv wq=>∃(j:Nat) (A2:Option Addr) (n2 cap2:Nat),j<=n/\iv = .int .i64 j/\out = .slice A2 n2 cap2/\n2<=j/\Own wq V.heap.size 122 2 A2 n2 cap2 ((((L.take j).filter fun a=>decide (a.m.id∉O)).map fun a=>keyP a.m).map zN)/\Below V.heap.size V wq) (fun _ iv _=>n-(intOf iv).toNat)
      case atStart=>exact⟨0,none,0,0,Nat.zero_le _,rfl,rfl,Nat.le_refl _,Own.nil _ _ _ _,Below.refl _ _⟩
      case round =>
        obtain⟨j,A2,n2,cap2,hj,rfl,rfl,hnj,hown,hb⟩:=hrel;by_cases hlt2:j<n
        · obtain⟨q,o,rfl,hrow⟩:=q6.get (hown0.below hb).slr hlt2 (by omega);have htk:((L.take (j+1)).filter fun a=>decide (a.m.id∉O))=((L.take j).filter fun a=>decide (a.m.id∉O))++if(L[j]'(by omega)).m.id∈O then[]else[L[j]'(by omega)]:=by
            rw[List.take_succ_eq_append_getElem (by omega),List.filter_append];congr 1
            by_cases h:(L[j]'(by omega)).m.id∈O <;> simp[h]
          obtain⟨x,hx⟩:∃x,L[j]'(by omega)=x:=⟨_,rfl⟩
          rw[hx]at hrow htk;obtain⟨P,hP⟩:∃P,((L.take j).filter fun a=>decide (a.m.id∉O))=P:=⟨_,rfl⟩
          rw[hP]at htk hown;have Htk:=Lib.hid htk;clear hx htk hP;have hba:Below wr.heap.size wr (wr.alloc (.cells (yK x) 168)):=(Below.refl _ _).alloc (Nat.le_refl _) _;have hra:z9 (wr.alloc (.cells (yK x) 168)) wr.heap.size 0 70=some (yK x):=by simp[go_sem]
          have hsa:=qQ.below (qQ.below hset hb) hba;have ho0:=hown.below hba;have hw0:Below V.heap.size V (wr.alloc (.cells (yK x) 168)):=hb.trans (hba.mono hb.size);go_upto_region 15 with fail
          obtain⟨gx,hgx⟩:∃gx,wr.heap.size=gx:=⟨_,rfl⟩
          obtain⟨W0,hW0⟩:∃W0,W0=wr.alloc (.cells (yK x) 168):=⟨_,rfl⟩
          rw[<-hW0]at hra hsa ho0 hw0 |-;rw[hgx]at hra |-;clear hW0 hgx hba hown hb hrow;have f37:z9 W0 gx 37 32=some (idC x.m.id):=by have:=zV hra (j:=37) (m:=32) (by omega);rwa [bV,Nat.zero_add]at this
          have f2:W0.cell? ⟨gx,2,none⟩=some (.string (oOf x.m).key):=by have:=z8 hra (j:=2) (by omega);rwa [sS,Nat.zero_add]at this
          have f3:W0.cell? ⟨gx,3,none⟩=some (.string (oOf x.m).val):=by have:=z8 hra (j:=3) (by omega);rwa [dM,Nat.zero_add]at this
          have hws:=hw0.size;by_cases hin:x.m.id∈O
          · have hlk:=ihit hsa hin;have htk:=Htk.out;rw[if_pos hin,List.append_nil]at htk;have Htk2:=Lib.hid htk;clear htk hin;(go_wp2_with fail);go_roundw
            case rel=>exact⟨j+1,A2,n2,cap2,by omega,by go_num,rfl,by omega,by rw[Htk2.out];exact ho0,hw0⟩
            case measure=>simp[intOf];omega
          · have hlk:=imiss hsa hin;have htk:=Htk.out;rw[if_neg hin]at htk;have Htk2:=Lib.hid htk;clear htk hin;have hbx:Below W0.heap.size W0 (W0.alloc (.cells (zN ⟨(oOf x.m).key,(oOf x.m).val⟩) 122)):=(Below.refl _ _).alloc (Nat.le_refl _) _;have hown2:=ho0.below hbx;have hrow2:z9 (W0.alloc (.cells (zN ⟨(oOf x.m).key,(oOf x.m).val⟩) 122)) W0.heap.size 0 2=some (zN ⟨(oOf x.m).key,(oOf x.m).val⟩):=by simp[go_sem]
            go_upto_region 17 with(at_builtin;refine yX yL rfl hown2 rfl hrow2 (xQ _) (by omega) (by omega) (by simp;omega) ?_;intro A6 cap6 w6 hown6 hk6 hsub6)
            have hb6:Below V.heap.size V w6:=(hw0.trans (hbx.mono hws)).trans (hk6.below (by simp;omega) (fun y hy=>(ho0.at_base hy).1));clear hk6 hsub6 hown2 hrow2 hbx ho0 hw0;(go_wp2_with fail);go_roundw
            case rel=>exact⟨j+1,A6,n2+1,cap6,by omega,by go_num,rfl,by omega,by rw[Htk2.out];simpa[keyP]using hown6,hb6⟩
            case measure=>simp[intOf];omega
        · have e2:L.take j=L:=List.take_of_length_le (by omega);rw[e2,<-HD.out]at hown;have cp:=K5 wr V.heap.size A2 n2 cap2 _ hown (by omega) hb.size;have hVs:=hbw.size;have hVg:gm<=V.heap.size:=by omega
          have hb0:Below gm w wr:=hbw.trans (hb.mono hVg);clear e2;(go_wp2_with fail);refine cp.mono ?_;rintro e w5 ⟨A5,cap5,rfl,ho5,hb5⟩;have hb05:=hb0.trans (hb5.mono hVg);have ho6:=ho5.mono (B':=gm) hVg;clear cp ho5 hb5 hown;(go_wp2_with fail);go_ret;exact⟨A5,cap5,rfl,by rw[Hgm.out];exact ho6,by rw[Hgm.out];exact hb05⟩
end
end Go.Proofs.YtgedpfebepdcmaaGreatDoor
