/- Part 10 of the texts that lead to this claim: the walks of the functions and the plain law, in order. -/
import Derived.Test.YtgedpfebepdcmaaGreatDoorMb9
import Derived.IntWalk
namespace Go.Proofs.YtgedpfebepdcmaaGreatDoor
open Go.RowKit
set_option maxRecDepth 100000
set_option maxHeartbeats 8000000
theorem emptyS:(⟨#[]⟩:ByteArray).size=0:=rfl
def RefI3 (w:World) (g:Nat) (X G:List xH):Prop :=
  ∃A n cap A' n' cap',w.cell? ⟨g,3,none⟩=some (.slice A n cap)/\w.cell? ⟨g,4,none⟩=some (.slice A' n' cap')/\qX w A n X/\qX w A' n' G
theorem rlive3 (w:World) (g:Nat) (X G:List xH) (h:RefI3 w g X G) (hX:X.length<=100000) (hG:G.length<=100000) :
    Calls Tryz.prog 79 #[.pointer (some ⟨g,3,none⟩)] w fun e w'=>∃A cap,e = .returned (.slice A (gR X G).length cap)/\OwnR w' w.heap.size A cap (gR X G)/\Below w.heap.size w w':=by
  obtain⟨A,n,cap,A',n',cap',hc0,hc9,h1,h2⟩:=h;have hn:=h1.len;have hn':=h2.len;have hsl:(yF x8 X).length<=100000:=Nat.le_trans (qF X) hX;have c1:=rsorted w A n cap X h1 (by omega);have hlv:gR X G=(yF x8 X).filter fun x=>decide (x∉G):=rfl;obtain⟨Z,hZ⟩:∃Z,yF x8 X=Z:=⟨_,rfl⟩
  rw[hZ]at c1 hsl hlv;have Hlv:=Lib.hid hlv;have Hn':=Lib.hid hn';have hnb:n'<=100000:=by omega
  clear hlv hZ hn hn';go_enter Tryz.func79,Tryz.ntmps79
  (go_wp2_with fail);refine c1.mono ?_;rintro e w1 ⟨ZA,zc,rfl,hownZ,hb1⟩;have hslZ:qX w1 ZA Z.length Z:=hownZ.slr;have hc8:w1.cell? ⟨g,4,none⟩=some (.slice A' n' cap'):=(hb1.cell (p:=⟨g,4,none⟩) (World.block_lt_of_cell? w _ hc9)).trans hc9;have hG1:qX w1 A' n' G:=SlR.below h2 hb1;clear hownZ c1 hc0 hc9;(go_wp2_with fail);go_loopw [3,5] (fun out i wr=>∃(k:Nat) (A1:Option Addr) (cap1:Nat),k<=Z.length/\i = .int .i64 k/\out = .slice A1 ((Z.take k).filter fun x=>decide (x∉G)).length cap1/\OwnR wr w1.heap.size A1 cap1 ((Z.take k).filter fun x=>decide (x∉G))/\Below w1.heap.size w1 wr) (fun _ i _=>Z.length-(intOf i).toNat)
  case atStart=>exact⟨0,none,0,Nat.zero_le _,rfl,rfl,Own.nil _ _ _ _,Below.refl _ _⟩
  case round =>
    obtain⟨k,A1,cap1,hk,rfl,rfl,hown,hb⟩:=hrel;by_cases hlt:k<Z.length
    · obtain⟨q,o,rfl,hr,_,_⟩:=qX.get (SlR.below hslZ hb) hlt hlt;have hc1:wr.cell? ⟨g,4,none⟩=some (.slice A' n' cap'):=(hb.cell (p:=⟨g,4,none⟩) (World.block_lt_of_cell? w1 _ hc8)).trans hc8;have hGr:qX wr A' n' G:=SlR.below hG1 hb;have htk:=QV (fun x=>decide (x∉G)) Z k hlt;have hfl:((Z.take k).filter fun x=>decide (x∉G)).length<=100000:=by
        have:=List.length_filter_le (fun x=>decide (x∉G)) (Z.take k);rw[List.length_take]at this;omega
      obtain⟨x,hx⟩:∃x,Z[k]'hlt=x:=⟨_,rfl⟩
      rw[hx]at hr htk;obtain⟨F,hF⟩:∃F,(Z.take k).filter (fun x=>decide (x∉G))=F:=⟨_,rfl⟩
      rw[hF]at hown hfl htk |-;have HF:=Lib.hid hF;clear hx hF;have hsz:=hb.size;have c2:=rin wr.drew A' n' cap' G x hGr (by omega);by_cases hin:x∈G
      · rw[decide_eq_true hin]at c2;rw[if_neg (by simp[hin])]at htk;have Htk:=Lib.hid htk;clear htk hin;go_upto_region 6 with fail
        refine zA (Bel wr) false (by kernel_rfl) (by kernel_rfl) (by kernel_rfl) (zC wr) ?_;have hne:=zQ wr;have hS:=zC wr;have b1:=zY hr;have b2:=zP hc1;repeat(refine z6 ?_ ?_;(focus(simp only[z3];done));intro K hK;go_simp;refine hK _ ?_;clear hK K)
        refine zH ?_ ?_ ?_;(focus(exact hS));(focus(simp only[z3];done));intro K hK;go_simp;refine(c2).mono ?_;rintro e w' ⟨rfl,hb⟩;replace hS:=yN hS hb;refine⟨_,rfl,hS,hK _ _ ?_⟩;clear hK K hb;repeat(refine z6 ?_ ?_;(focus(simp only[z3];done));intro K hK;go_simp;refine hK _ ?_;clear hK K)
        refine zK ?_;intro hS;have hS':Below wr.heap.size wr w':=hS;have hbz:=xM hb hS';have hown1:=hown.below hS';clear b1 b2 hne hS c2 hr hc1 hown;(go_wp2_with fail);go_roundw
        case rel=>exact⟨k+1,A1,cap1,by omega,by go_num,by rw[Htk.out],by rw[Htk.out];exact hown1,hbz⟩
        case measure=>simp[intOf];omega
      · rw[decide_eq_false hin]at c2;rw[if_pos (by simp[hin])]at htk;have Htk:=Lib.hid htk;clear htk hin;go_upto_region 6 with fail
        refine zA (Bel wr) false (by kernel_rfl) (by kernel_rfl) (by kernel_rfl) (zC wr) ?_;have hne:=zQ wr;have hS:=zC wr;have b1:=zY hr;have b2:=zP hc1;repeat(refine z6 ?_ ?_;(focus(simp only[z3];done));intro K hK;go_simp;refine hK _ ?_;clear hK K)
        refine zH ?_ ?_ ?_;(focus(exact hS));(focus(simp only[z3];done));intro K hK;go_simp;refine(c2).mono ?_;rintro e w' ⟨rfl,hb⟩;replace hS:=yN hS hb;refine⟨_,rfl,hS,hK _ _ ?_⟩;clear hK K hb;repeat(refine z6 ?_ ?_;(focus(simp only[z3];done));intro K hK;go_simp;refine hK _ ?_;clear hK K)
        refine zK ?_;intro hS;have hS':Below wr.heap.size wr w':=hS;have hbz:=xM hb hS';have hown1:=hown.below hS';have hr':z9 w' q (o+k*33) 33=some (y9 x):=(zB (hS'.block q (zI hr)) _ _).trans hr;have hsz':=hS'.size;clear b1 b2 hne hS c2 hr hc1 hown;have hbx:Below w'.heap.size w' (w'.alloc (.cells (y9 x) 151)):=(Below.refl _ _).alloc (Nat.le_refl _) _;have hown2:=hown1.below hbx;have hrow2:z9 (w'.alloc (.cells (y9 x) 151)) w'.heap.size 0 33=some (y9 x):=by simp[go_sem]
        go_wp2_with (at_builtin;refine yX xV rfl hown2 rfl hrow2 (vC _) (by omega) (by omega) (by simp;omega) ?_;intro A2 cap2 w2 hownA hkA hsubA)
        have hbA:Below w1.heap.size w1 w2:=hbz.trans ((hbx.mono (by omega)).trans (hkA.below (B:=w1.heap.size) (by simp;omega) fun y hy=>(hown1.at_base hy).1));(go_wp2_with fail);go_roundw
        case rel=>exact⟨k+1,A2,cap2,by omega,by go_num,by rw[Htk.out];simp,by rw[Htk.out];show Own _ _ _ _ _ _ _ _;rw[List.map_append,List.length_append];exact hownA,hbA⟩
        case measure=>simp[intOf];omega
    · have hke:Z.take k=Z:=List.take_of_length_le (by omega);rw[hke,<-Hlv.out]at hown |-;clear hke;obtain⟨F,hF⟩:∃F,gR X G=F:=⟨_,rfl⟩
      rw[hF]at hown |-;have HF:=Lib.hid hF;clear hF;(go_wp2_with fail);go_ret;exact⟨A1,cap1,by rw[HF.out];rfl,by rw[HF.out];exact hown.mono hb1.size,xM hb1 hb⟩
theorem rlist3 (w:World) (g:Nat) (X G:List xH) (h:RefI3 w g X G) (hX:X.length<=100000) (hG:G.length<=100000) :
    Calls Tryz.prog 45 #[.pointer (some ⟨g,3,none⟩)] w fun e w'=>∃A cap,e = .returned (.slice A (kD (gR X G)).length cap)/\OwnW w' w.heap.size A cap (kD (gR X G))/\Below w.heap.size w w':=by
  have c1:=rlive3 w g X G h hX hG;have hll:=xq X G;obtain⟨Z,hZ⟩:∃Z,gR X G=Z:=⟨_,rfl⟩
  rw[hZ]at c1 hll |-;clear hZ h;go_enter Tryz.func45,Tryz.ntmps45
  (go_wp2_with fail);refine c1.mono ?_;rintro e w1 ⟨RA,rc,rfl,hrow,hb1⟩;have hslZ:qX w1 RA Z.length Z:=hrow.slr;clear hrow c1;(go_wp2_with fail);go_loopw [3,5] (fun out i wr=>∃(k:Nat) (A1:Option Addr) (cap1:Nat),k<=Z.length/\i = .int .i64 k/\out = .slice A1 (kD (Z.take k)).length cap1/\OwnW wr w1.heap.size A1 cap1 (kD (Z.take k))/\Below w1.heap.size w1 wr) (fun _ i _=>Z.length-(intOf i).toNat)
  case atStart=>exact⟨0,none,0,Nat.zero_le _,rfl,rfl,Own.nil _ _ _ _,Below.refl _ _⟩
  case round =>
    obtain⟨k,A1,cap1,hk,rfl,rfl,hown,hb⟩:=hrel;by_cases hlt:k<Z.length
    · obtain⟨q,o,rfl,_,_,hrv⟩:=qX.get (SlR.below hslZ hb) hlt hlt;have htk:=VV Z k hlt;have hol:(kD (Z.take k)).length<=1000000:=by have:=Z7 (Z.take k);simp at this;omega
      have hris:Ris xP (kD (Z.take k)):=xE pO _;obtain⟨O,hO⟩:∃O,kD (Z.take k)=O:=⟨_,rfl⟩
      obtain⟨x,hx⟩:∃x,(Z[k]'hlt).val=x:=⟨_,rfl⟩
      rw[hx]at hrv htk;rw[hO]at htk hol hown hris |-;have Htk:=Lib.hid htk;clear hx hO htk;obtain⟨WR,rfl⟩:∃WR,WR=wr:=⟨wr,rfl⟩
      have hsl:SlR WR A1 O.length 2 (O.map bQ):=hown.slr;(go_wp2_with fail);go_loopw [6] (fun j wj=>∃m:Nat,m<=O.length/\j = .int .i64 m/\Hid (∀i (hi:i<O.length),i<m->xP O[i] x<0)/\Below WR.heap.size WR wj) (fun j _=>O.length-(intOf j).toNat)
      case atStart=>exact⟨0,Nat.zero_le _,rfl,(show ∀i (hi:i<O.length),i<0->_ from fun i _ h=>absurd h (by omega)),Below.refl _ _⟩
      case round =>
        obtain⟨m,hmO,rfl,hlow,hbj⟩:=hrel;have hrj:wr.cell? ⟨q,o+k*33+32,none⟩=some (.string x):=(hbj.cell (p:=⟨q,o+k*33+32,none⟩) (World.block_lt_of_cell? WR _ hrv)).trans hrv;by_cases hmlt:m<O.length
        · obtain⟨g2,og,rfl,hrO⟩:=OwnW.get (SlR.below hsl hbj) hmlt hmlt;obtain rfl:og=0:=by
            rcases hown.addr with e | ⟨g',e⟩
            · cases e
            · injection e with e;injection e
          rw[Nat.zero_add]at hrO;have hmem:O[m]∈O:=List.getElem_mem _;obtain⟨y,hy⟩:∃y,O[m]'hmlt=y:=⟨_,rfl⟩
          rw[hy]at hrO hmem;have Hy:=Lib.hid hy;have Hmem:=Lib.hid hmem;clear hy hmem;cases hbl:bltS y x with
          | true =>
            have hbl':Op.bytesLess y.toList x.toList=true:=hbl;have hyx:xP y x<0:=by have:=bA y x;rw[hbl]at this;simpa using this.symm
            have Hyx:=Lib.hid hyx;clear hyx hbl;go_upto_region 7 with fail
            refine zA (Bel wr) false (by kernel_rfl) (by kernel_rfl) (by kernel_rfl) (zC wr) ?_;have hne:=zQ wr;have hS:=zC wr;have b1:=zP hrj;have b2:=zP hrO;repeat(refine z6 ?_ ?_;(focus(simp only[z3];done));intro K hK;go_simp;refine hK _ ?_;clear hK K)
            refine zK ?_;intro hS;clear b1 b2 hne hS hbl';(go_wp2_with fail);go_roundw
            case rel =>
              refine⟨m+1,by omega,by go_num,(show ∀i (hi:i<O.length),i<m+1->xP O[i] x<0 from fun i hi hlt=>?_),hbj.drew⟩;by_cases e:i=m
              · subst e;rw[Hy.out];exact Hyx.out
              · exact hlow.out i hi (by omega)
            case measure=>simp[intOf];omega
          | false =>
            have hbl':Op.bytesLess y.toList x.toList=false:=hbl;have hyx:¬xP y x<0:=by have:=bA y x;rw[hbl]at this;simpa using this.symm
            by_cases he:y=x
            · have hat:=wH pO hris (x:=x) (by rw[<-he];exact Hmem.out);have Hat:=Lib.hid hat;have h1:(y.toList==x.toList)=true:=by rw[he];simp
              clear hat hyx he hbl;go_upto_region 7 with fail
              refine zA (Bel wr) false (by kernel_rfl) (by kernel_rfl) (by kernel_rfl) (zC wr) ?_;have hne:=zQ wr;have hS:=zC wr;have b1:=zP hrj;have b2:=zP hrO;repeat(refine z6 ?_ ?_;(focus(simp only[z3];done));intro K hK;go_simp;refine hK _ ?_;clear hK K)
              refine zK ?_;intro hS;clear b1 b2 hne hS hbl';go_upto_region 9 with fail
              refine zA (Bel wr.drew) false (by kernel_rfl) (by kernel_rfl) (by kernel_rfl) (zC wr.drew) ?_;have hne:=zQ wr.drew;have hS:=zC wr.drew;have b1:=zP (W:=wr.drew) hrj;have b2:=zP (W:=wr.drew) hrO;repeat(refine z6 ?_ ?_;(focus(simp only[z3];done));intro K hK;go_simp;refine hK _ ?_;clear hK K)
              refine zK ?_;intro hS;clear b1 b2 hne hS h1;have hbz:=hbj.drew.drew;have hown1:=hown.below hbz;have hbb:=hb.trans (hbz.mono hb.size);(go_wp2_with fail);go_roundw
              case rel=>exact⟨k+1,_,cap1,by omega,by go_num,by rw[Htk.out,Hat.out],by rw[Htk.out,Hat.out];exact hown1,hbb⟩
              case measure=>simp[intOf];omega
            · have hat:=vP (c:=xP) O x m hmO hlow.out (fun hk'=>by
                rw[Hy.out];have h1:xP y x≠0:=fun e=>he ((pO.zero _ _).1 e);omega)
              have Hat:=Lib.hid hat;have h1:(y.toList==x.toList)=false:=by rw[beq_eq_false_iff_ne];exact fun e=>he (toList_inj.1 e)
              clear hat hyx he hbl;go_upto_region 7 with fail
              refine zA (Bel wr) false (by kernel_rfl) (by kernel_rfl) (by kernel_rfl) (zC wr) ?_;have hne:=zQ wr;have hS:=zC wr;have b1:=zP hrj;have b2:=zP hrO;repeat(refine z6 ?_ ?_;(focus(simp only[z3];done));intro K hK;go_simp;refine hK _ ?_;clear hK K)
              refine zK ?_;intro hS;clear b1 b2 hne hS hbl';go_upto_region 9 with fail
              refine zA (Bel wr.drew) false (by kernel_rfl) (by kernel_rfl) (by kernel_rfl) (zC wr.drew) ?_;have hne:=zQ wr.drew;have hS:=zC wr.drew;have b1:=zP (W:=wr.drew) hrj;have b2:=zP (W:=wr.drew) hrO;repeat(refine z6 ?_ ?_;(focus(simp only[z3];done));intro K hK;go_simp;refine hK _ ?_;clear hK K)
              refine zK ?_;intro hS;clear b1 b2 hne hS h1;have hbz:=hbj.drew.drew;have hownw:=hown.below hbz;have hBw:=hb.trans (hbz.mono hb.size);have hrw:wr.drew.drew.cell? ⟨q,o+k*33+32,none⟩=some (.string x):=hrj;clear hrO hrj hbj hbz hsl hown;obtain⟨W,hW⟩:∃W,wr.drew.drew=W:=⟨_,rfl⟩
              rw[hW]at hownw hBw hrw |-;clear hW;obtain⟨A1,hA1⟩:∃A1,(some ⟨g2,0,none⟩:Option Addr)=A1:=⟨_,rfl⟩
              rw[hA1]at hownw |-;clear hA1;have hown0:=Own.empty W W.heap.size 122 2 (Nat.le_refl _);have hBW:Below W.heap.size W (W.alloc (.cells #[] 122)):=(Below.refl _ _).alloc (Nat.le_refl _) _;have hcapO:=hownw.cap_le;have hlo:∀w0:World,(slS 41 (.slice A1 O.length cap1) none (some (.int .i64 m)) none).run Tryz.prog w0 = .ok (.slice A1 m cap1) w0:=fun w0=>gJ yL w0 A1 O.length cap1 m (by omega);obtain⟨Ah,ch,hhi,hhs,hhf⟩:=hownw.hi (P:=Tryz.prog) yL (m:=m) hmO;have hslo:SlR (W.alloc (.cells #[] 122)) A1 m 2 ((O.map bQ).take m):=(hownw.below hBW).slr.take_ hmO;have hf1:A1=none->cap1=0:=fun e=>(hcapO.2 e).2;have hrone:∀r∈(O.map bQ).take m,∀u∈r.toList,u.oneCell'=true:=fun r hr=>(by obtain⟨y',_,rfl⟩:=List.mem_map.1 (List.mem_of_mem_take hr);exact lL _);have hrone2:∀r∈(O.map bQ).drop m,∀u∈r.toList,u.oneCell'=true:=fun r hr=>(by obtain⟨y',_,rfl⟩:=List.mem_map.1 (List.mem_of_mem_drop hr);exact lL _);go_upto_region 11 with(at_builtin;refine yD yL rfl hown0 rfl hslo hf1 hrone (by omega) (by omega) (by simp) ?_;intro A2 cap2 w2 hown2 hk2 hsub2)
              simp only[Nat.zero_add,List.nil_append]at hown2;have hwW:Below W.heap.size W w2:=hBW.trans (hk2.below (by simp) (by simp[blk]));have hrw2:w2.cell? ⟨q,o+k*33+32,none⟩=some (.string x):=(hwW.cell (p:=⟨q,o+k*33+32,none⟩) (World.block_lt_of_cell? W _ hrw)).trans hrw;have hB3:Below w2.heap.size w2 (w2.alloc (.cells (zN ⟨x,⟨#[]⟩⟩) 122)):=(Below.refl _ _).alloc (Nat.le_refl _) _;have hown3:=hown2.below hB3;have hrow3:z9 (w2.alloc (.cells (zN ⟨x,⟨#[]⟩⟩) 122)) w2.heap.size 0 2=some (zN ⟨x,⟨#[]⟩⟩):=by simp[go_sem]
              have hsz2:=hwW.size;go_upto_region 12 with(at_builtin;refine yX yL rfl hown3 rfl hrow3 (xQ _) (by omega) (by omega) (by simp;omega) ?_;intro A4 cap4 w4 hown4 hk4 hsub4)
              have hwW4:Below W.heap.size W w4:=(hwW.trans (hB3.mono hsz2)).trans (hk4.below (by simp;omega) (fun x hx=>(hown2.at_base hx).1));have hs4:=hhs w4 ((hownw.below hwW4).slr);have hsz4:=hwW4.size;clear hown3 hrow3 hB3 hown0 hBW hslo hrw2 hlo hcapO;go_upto_region 13 with(at_builtin;refine yD yL rfl hown4 rfl hs4 hhf hrone2 (by omega) (by omega) (by omega) ?_;intro A5 cap5 w5 hown5 hk5 hsub5)
              have hwW5:Below W.heap.size W w5:=hwW4.trans (hk5.below (by omega) (fun x hx=>(hown4.at_base hx).1));have hBW5:=hBw.trans (hwW5.mono hBw.size);have hO5:(O.map bQ).take m ++ [zN ⟨x,⟨#[]⟩⟩]++(O.map bQ).drop m=(kD (Z.take (k+1))).map bQ:=by rw[Htk.out,Hat.out];simp[List.map_take,List.map_drop,bQ,gM]
              have hL5:(kD (Z.take (k+1))).length=m+1+(O.length-m):=by rw[Htk.out,Hat.out];simp;omega
              rw[hO5]at hown5;have hown6:=hown5.mono hBw.size;have HL:=Lib.hid hL5;clear hown5 hown4 hown2 hO5 hL5 hs4 hhi;(go_wp2_with fail);go_roundw
              case rel=>exact⟨k+1,A5,cap5,by omega,by go_num,(by rw[HL.out]),(show Own _ _ _ _ _ _ _ _ by rw[HL.out];exact hown6),hBW5⟩
              case measure=>simp[intOf];omega
        · have hd:decide (m<O.length)=false:=by simpa using hmlt
          have hat:=vP (c:=xP) O x m hmO hlow.out (fun hk'=>absurd hk' hmlt);have Hat:=Lib.hid hat;clear hat;go_upto_region 7 with fail
          refine zA (Bel wr) false (by kernel_rfl) (by kernel_rfl) (by kernel_rfl) (zC wr) ?_;have hne:=zQ wr;have hS:=zC wr;repeat(refine z6 ?_ ?_;(focus(simp only[z3];done));intro K hK;go_simp;refine hK _ ?_;clear hK K)
          refine zK ?_;intro hS;clear hne hS;go_upto_region 9 with fail
          refine zA (Bel wr.drew) false (by kernel_rfl) (by kernel_rfl) (by kernel_rfl) (zC wr.drew) ?_;have hne:=zQ wr.drew;have hS:=zC wr.drew;repeat(refine z6 ?_ ?_;(focus(simp only[z3];done));intro K hK;go_simp;refine hK _ ?_;clear hK K)
          refine zK ?_;intro hS;clear hne hS hd;have hbz:=hbj.drew.drew;have hownw:=hown.below hbz;have hBw:=hb.trans (hbz.mono hb.size);have hrw:wr.drew.drew.cell? ⟨q,o+k*33+32,none⟩=some (.string x):=hrj;clear hrj hbj hbz hsl hown hmlt;obtain⟨W,hW⟩:∃W,wr.drew.drew=W:=⟨_,rfl⟩
          rw[hW]at hownw hBw hrw |-;clear hW;have hown0:=Own.empty W W.heap.size 122 2 (Nat.le_refl _);have hBW:Below W.heap.size W (W.alloc (.cells #[] 122)):=(Below.refl _ _).alloc (Nat.le_refl _) _;have hcapO:=hownw.cap_le;have hlo:∀w0:World,(slS 41 (.slice A1 O.length cap1) none (some (.int .i64 m)) none).run Tryz.prog w0 = .ok (.slice A1 m cap1) w0:=fun w0=>gJ yL w0 A1 O.length cap1 m (by omega);obtain⟨Ah,ch,hhi,hhs,hhf⟩:=hownw.hi (P:=Tryz.prog) yL (m:=m) hmO;have hslo:SlR (W.alloc (.cells #[] 122)) A1 m 2 ((O.map bQ).take m):=(hownw.below hBW).slr.take_ hmO;have hf1:A1=none->cap1=0:=fun e=>(hcapO.2 e).2;have hrone:∀r∈(O.map bQ).take m,∀u∈r.toList,u.oneCell'=true:=fun r hr=>(by obtain⟨y',_,rfl⟩:=List.mem_map.1 (List.mem_of_mem_take hr);exact lL _);have hrone2:∀r∈(O.map bQ).drop m,∀u∈r.toList,u.oneCell'=true:=fun r hr=>(by obtain⟨y',_,rfl⟩:=List.mem_map.1 (List.mem_of_mem_drop hr);exact lL _);go_upto_region 11 with(at_builtin;refine yD yL rfl hown0 rfl hslo hf1 hrone (by omega) (by omega) (by simp) ?_;intro A2 cap2 w2 hown2 hk2 hsub2)
          simp only[Nat.zero_add,List.nil_append]at hown2;have hwW:Below W.heap.size W w2:=hBW.trans (hk2.below (by simp) (by simp[blk]));have hrw2:w2.cell? ⟨q,o+k*33+32,none⟩=some (.string x):=(hwW.cell (p:=⟨q,o+k*33+32,none⟩) (World.block_lt_of_cell? W _ hrw)).trans hrw;have hB3:Below w2.heap.size w2 (w2.alloc (.cells (zN ⟨x,⟨#[]⟩⟩) 122)):=(Below.refl _ _).alloc (Nat.le_refl _) _;have hown3:=hown2.below hB3;have hrow3:z9 (w2.alloc (.cells (zN ⟨x,⟨#[]⟩⟩) 122)) w2.heap.size 0 2=some (zN ⟨x,⟨#[]⟩⟩):=by simp[go_sem]
          have hsz2:=hwW.size;go_upto_region 12 with(at_builtin;refine yX yL rfl hown3 rfl hrow3 (xQ _) (by omega) (by omega) (by simp;omega) ?_;intro A4 cap4 w4 hown4 hk4 hsub4)
          have hwW4:Below W.heap.size W w4:=(hwW.trans (hB3.mono hsz2)).trans (hk4.below (by simp;omega) (fun x hx=>(hown2.at_base hx).1));have hs4:=hhs w4 ((hownw.below hwW4).slr);have hsz4:=hwW4.size;clear hown3 hrow3 hB3 hown0 hBW hslo hrw2 hlo hcapO;go_upto_region 13 with(at_builtin;refine yD yL rfl hown4 rfl hs4 hhf hrone2 (by omega) (by omega) (by omega) ?_;intro A5 cap5 w5 hown5 hk5 hsub5)
          have hwW5:Below W.heap.size W w5:=hwW4.trans (hk5.below (by omega) (fun x hx=>(hown4.at_base hx).1));have hBW5:=hBw.trans (hwW5.mono hBw.size);have hO5:(O.map bQ).take m ++ [zN ⟨x,⟨#[]⟩⟩]++(O.map bQ).drop m=(kD (Z.take (k+1))).map bQ:=by rw[Htk.out,Hat.out];simp[List.map_take,List.map_drop,bQ,gM]
          have hL5:(kD (Z.take (k+1))).length=m+1+(O.length-m):=by rw[Htk.out,Hat.out];simp;omega
          rw[hO5]at hown5;have hown6:=hown5.mono hBw.size;have HL:=Lib.hid hL5;clear hown5 hown4 hown2 hO5 hL5 hs4 hhi;(go_wp2_with fail);go_roundw
          case rel=>exact⟨k+1,A5,cap5,by omega,by go_num,(by rw[HL.out]),(show Own _ _ _ _ _ _ _ _ by rw[HL.out];exact hown6),hBW5⟩
          case measure=>simp[intOf];omega
    · have hke:Z.take k=Z:=List.take_of_length_le (by omega);rw[hke]at hown |-;clear hke;obtain⟨F,hF⟩:∃F,kD Z=F:=⟨_,rfl⟩
      rw[hF]at hown |-;have HF:=Lib.hid hF;clear hF;(go_wp2_with fail);go_ret;exact⟨A1,cap1,by rw[HF.out];rfl,by rw[HF.out];exact hown.mono hb1.size,xM hb1 hb⟩
section
open Go.RowKit
def d6 (m:zG) (o:OpV) (x:RV):RV :=
  if o.k=1 then { x with tal:=wrap64 (x.tal+o.n) }
  else if o.k=2 then { x with adds:=x.adds ++ [⟨m.id,o.val⟩] }
  else if o.k=3 then { x with gone:=x.gone++o.refs.map fun t=>⟨t,o.val⟩ }
  else if o.k=4 then { x with last:=x.last ++ [⟨o.key,o.val,o.n,m.id⟩] }
  else if o.k=5 then { x with mL:=x.mL ++ [⟨m.id,o.key,o.val⟩],mO:=yF zO (x.mO++o.refs) }
  else if o.k=6 then { x with sL:=tQ x.sL ⟨m.id,m.h,o.ref,o.val⟩ }
  else { x with sG:=xU zO x.sG o.ref }
theorem KY (m:zG) (x:RV):cS m x=d6 m (oOf m) x:=rfl
def RV.len (x:RV):Nat:=x.adds.length+x.gone.length+x.last.length+x.mL.length+x.mO.length+x.sL.length+x.sG.length
theorem insN_len (N:List zT) (n:zT):(tQ N n).length<=N.length+1:=by
  unfold tQ;have:=jX (c:=pK) N n
  repeat' split
  all_goals omega
theorem vw (m:zG) (o:OpV) (x:RV) (h:o.refs.length<=8):(d6 m o x).len<=x.len+9:=by
  unfold d6;split
  · exact Nat.le_add_right _ _
  split
  · unfold RV.len;simp;omega
  split
  · unfold RV.len;simp;omega
  split
  · unfold RV.len;simp;omega
  split
  · have:=qF (c:=zO) (x.mO++o.refs);unfold RV.len;simp at this |-;omega
  split
  · have:=insN_len x.sL ⟨m.id,m.h,o.ref,o.val⟩;unfold RV.len;simp only;omega
  · have:=jX (c:=zO) x.sG o.ref;unfold RV.len;simp only;omega
structure lD (x:RV):Prop where
  adds:∀r∈x.adds,small r
  gone:∀r∈x.gone,small r
  last:∀r∈x.last,bU r.key (cJ r)=0
  mL:∀r∈x.mL,r.key.size<=16/\r.val.size<=16
  mO:Ris zO x.mO
  sL:vH x.sL
  sG:Ris zO x.sG
theorem rvOk0:lD rv0:=⟨by simp[rv0],by simp[rv0],by simp[rv0],by simp[rv0],Ris.nil,vH.nil,Ris.nil⟩
theorem rdoS_ok {m:zG} {x:RV} (h:lD x) (he:opE m.body.data.toList=0):lD (cS m x):=by
  have ho:gL (oOf m)/\1<=(oOf m).k/\(oOf m).k<=7/\(oOf m).key.size<=16/\(oOf m).val.size<=16/\(oOf m).refs.length<=8/\bN (oOf m).refs=true/\(oOf m).n<2147483648:=fF _ he;have hv:=ho.2.2.2.2.1;unfold cS;split
  · exact⟨h.adds,h.gone,h.last,h.mL,h.mO,h.sL,h.sG⟩
  split
  · exact⟨fun r hr=>by
      rcases List.mem_append.1 hr with hr | hr
      · exact h.adds r hr
      · have e:r=⟨m.id,(oOf m).val⟩:=by simpa using hr
        rw[e];exact hv,h.gone,h.last,h.mL,h.mO,h.sL,h.sG⟩
  split
  · exact⟨h.adds,fun r hr=>by
      rcases List.mem_append.1 hr with hr | hr
      · exact h.gone r hr
      · obtain⟨t,_,rfl⟩:=List.mem_map.1 hr;exact hv,h.last,h.mL,h.mO,h.sL,h.sG⟩
  split
  · rename_i h4
    exact⟨h.adds,h.gone,fun r hr=>by
      rcases List.mem_append.1 hr with hr | hr
      · exact h.last r hr
      · have e:r=Y5 m:=by simpa using hr
        rw[e];exact rC he h4,h.mL,h.mO,h.sL,h.sG⟩
  split
  · exact⟨h.adds,h.gone,h.last,fun r hr=>by
      rcases List.mem_append.1 hr with hr | hr
      · exact h.mL r hr
      · have e:r=mK m:=by simpa using hr
        rw[e];exact⟨ho.2.2.2.1,hv⟩,xE qP _,h.sL,h.sG⟩
  split
  · exact⟨h.adds,h.gone,h.last,h.mL,h.mO,h.sL.ins _,h.sG⟩
  · exact⟨h.adds,h.gone,h.last,h.mL,h.mO,h.sL,vR qP h.sG⟩
theorem yb {t:ByteArray} {m:zG} {x:RV} (h:lD x):lD (fE t m x):=by
  unfold fE;split
  · rename_i hf;exact rdoS_ok h hf.1
  · exact h
theorem V6 (t:ByteArray) (m:zG) (x:RV):(fE t m x).len<=x.len+9:=by
  unfold fE;split
  · rename_i hf;rw[KY];exact vw _ _ _ (fF _ hf.1).2.2.2.2.2.1
  · omega
def SlX (w:World) (g:Nat) (s:Sl) (k:Nat) (R:List (Array Value)):Prop:=SlW w s.A s.n s.c k R/\g∉blk s.A
theorem SlX.below {w w':World} {g:Nat} {s:Sl} {k:Nat} {R:List (Array Value)} (h:SlX w g s k R) (hb:Below w.heap.size w w'):SlX w' g s k R:=⟨h.1.below hb,h.2⟩
theorem SlX.keep {w w':World} {g:Nat} {s:Sl} {k:Nat} {R:List (Array Value)} (h:SlX w g s k R) (hk:z4 [g] w w'):SlX w' g s k R:=⟨h.1.kept hk (fun x hx hm=>h.2 (by simp at hm;rw[<-hm];exact hx)),h.2⟩
def rvC (t:ByteArray) (si:Sl) (tal:Int) (sa sg sl sm so ss sd:Sl):Array Value:=#[.string t,slV si,.int .i64 tal,slV sa,slV sg,slV sl,slV sm,slV so,slV ss,slV sd]
structure m7 (w:World) (g:Nat) (t:ByteArray) (I:List zJ) (x:RV) (si sa sg sl sm so ss sd:Sl):Prop where
  hp:w.heap[g]? = some (.cells (rvC t si x.tal sa sg sl sm so ss sd) 78 (0,0))
  ids:SlX w g si 32 (I.map idC)
  adds:SlX w g sa 33 (x.adds.map y9)
  gone:SlX w g sg 33 (x.gone.map y9)
  last:SlX w g sl 35 (x.last.map yH)
  mL:SlX w g sm 34 (x.mL.map zX)
  mO:SlX w g so 32 (x.mO.map idC)
  sL:SlX w g ss 66 (x.sL.map yQ)
  sG:SlX w g sd 32 (x.sG.map idC)
def v7 (w:World) (g:Nat) (t:ByteArray) (I:List zJ) (x:RV):Prop:=∃si sa sg sl sm so ss sd,m7 w g t I x si sa sg sl sm so ss sd
section
variable {w w':World} {g:Nat} {t:ByteArray} {I:List zJ} {x:RV} {si sa sg sl sm so ss sd:Sl}
theorem m7.lt (h:m7 w g t I x si sa sg sl sm so ss sd):g<w.heap.size:=(Array.getElem?_eq_some_iff.1 h.hp).1
theorem m7.below (h:m7 w g t I x si sa sg sl sm so ss sd) (k:Below w.heap.size w w'):m7 w' g t I x si sa sg sl sm so ss sd :=
  ⟨(k.block g h.lt).trans h.hp,h.ids.below k,h.adds.below k,h.gone.below k,h.last.below k,h.mL.below k,h.mO.below k,h.sL.below k,h.sG.below k⟩
theorem m7.cell (h:m7 w g t I x si sa sg sl sm so ss sd) (j:Nat) {v:Value} (hv:(rvC t si x.tal sa sg sl sm so ss sd)[j]? = some v):w.cell? ⟨g,j,none⟩=some v:=by
  rw[cell_of_row w g j _ _ _ h.hp];exact hv
theorem v7.below (h:v7 w g t I x) (k:Below w.heap.size w w'):v7 w' g t I x:=by
  obtain⟨si,sa,sg,sl,sm,so,ss,sd,h⟩:=h;exact⟨si,sa,sg,sl,sm,so,ss,sd,h.below k⟩
theorem m7.lens (h:m7 w g t I x si sa sg sl sm so ss sd):x.adds.length=sa.n/\x.gone.length=sg.n/\x.last.length=sl.n/\x.mL.length=sm.n/\x.mO.length=so.n/\x.sL.length=ss.n/\x.sG.length=sd.n:=by
  refine⟨?_,?_,?_,?_,?_,?_,?_⟩
  · simpa using h.adds.1.len
  · simpa using h.gone.1.len
  · simpa using h.last.1.len
  · simpa using h.mL.1.len
  · simpa using h.mO.1.len
  · simpa using h.sL.1.len
  · simpa using h.sG.1.len
theorem m7.set {x':RV} {si' sa' sg' sl' sm' so' ss' sd':Sl} (h:m7 w g t I x si sa sg sl sm so ss sd) (hk:z4 [g] w w')
    (hp:w'.heap[g]? = some (.cells (rvC t si' x'.tal sa' sg' sl' sm' so' ss' sd') 78 (0,0))) (hi:SlX w g si 32 (I.map idC)->SlX w' g si' 32 (I.map idC))
    (h1:(SlX w g sa 33 (x.adds.map y9)->SlX w' g sa' 33 (x'.adds.map y9))) (h2:(SlX w g sg 33 (x.gone.map y9)->SlX w' g sg' 33 (x'.gone.map y9)))
    (h3:(SlX w g sl 35 (x.last.map yH)->SlX w' g sl' 35 (x'.last.map yH))) (h4:(SlX w g sm 34 (x.mL.map zX)->SlX w' g sm' 34 (x'.mL.map zX)))
    (h5:(SlX w g so 32 (x.mO.map idC)->SlX w' g so' 32 (x'.mO.map idC))) (h6:(SlX w g ss 66 (x.sL.map yQ)->SlX w' g ss' 66 (x'.sL.map yQ)))
    (h7:(SlX w g sd 32 (x.sG.map idC)->SlX w' g sd' 32 (x'.sG.map idC))):v7 w' g t I x' :=
  ⟨si',sa',sg',sl',sm',so',ss',sd',hp,hi h.ids,h1 h.adds,h2 h.gone,h3 h.last,h4 h.mL,h5 h.mO,h6 h.sL,h7 h.sG⟩
end
end
theorem YF (X:List Row):∀r∈X.map yH,∀u∈r.toList,u.oneCell'=true:=by
  intro r hr;obtain⟨x,_,rfl⟩:=List.mem_map.1 hr;exact jK x
theorem gD {g:Nat} {w W w':World} (h:z4 [] w W) (k:z4 [g] W w'):z4 [g] w w':=z4.trans (h.mono (by simp)) k (fun x hx=>.inl hx)
theorem vj (m:zG) (o:OpV) (A:Option Addr) (c:Nat) (w:World) (g:Nat) (t:ByteArray) (I:List zJ) (x:RV) (h:v7 w g t I x) (hk:o.k=2) (hkey:o.key.size<=16) (hval:o.val.size<=16) (hrefs:o.refs.length<=8) (hlo:-2147483648<=o.n) (hhi:o.n<2147483648) (hA:y8 w A o.refs.length o.refs) (hgA:g∉blk A) (hok:lD x) (hl:x.len<=10000) :
    Calls Tryz.prog 44 #[.pointer (some ⟨g,0,none⟩),.agg (zL m),.agg (opC o A c)] w fun e w'=>e = .returned (.tuple #[])/\v7 w' g t I (d6 m o x)/\z4 [g] w w':=by
  obtain⟨k,n,key,val,ref,refs⟩:=o;dsimp only at hk hkey hval hrefs hlo hhi hA;subst hk;obtain⟨si,sa,sg,sl,sm,so,ss,sd,h⟩:=h;have hbW:Below w.heap.size w ((w.alloc (.cells (zL m) 45)).alloc (.cells (zD ⟨(2:Int),n,key,val,ref,.slice A refs.length c⟩) 105)):=((Below.refl _ _).alloc (Nat.le_refl _) _).alloc (by simp) _;have rm:z9 ((w.alloc (.cells (zL m) 45)).alloc (.cells (zD ⟨(2:Int),n,key,val,ref,.slice A refs.length c⟩) 105)) w.heap.size 0 34=some (zL m):=by simp[go_sem]
  have ro:z9 ((w.alloc (.cells (zL m) 45)).alloc (.cells (zD ⟨(2:Int),n,key,val,ref,.slice A refs.length c⟩) 105)) (w.heap.size+1) 0 37=some (zD ⟨(2:Int),n,key,val,ref,.slice A refs.length c⟩):=by simp[go_sem]
  have hgl:=h.lt;have hlens:=h.lens;unfold opC;rw[show((2:Nat):Int)=(2:Int)from rfl];go_enter Tryz.func44,Tryz.ntmps44
  go_upto_region 1 with fail
  have hW1:=h.below hbW;have hTA:y8 ((w.alloc (.cells (zL m) 45)).alloc (.cells (zD ⟨(2:Int),n,key,val,ref,.slice A refs.length c⟩) 105)) A refs.length refs:=SlR.below hA hbW;obtain⟨gm,hgm⟩:∃gm,w.heap.size=gm:=⟨_,rfl⟩
  obtain⟨W,hW⟩:∃W,((w.alloc (.cells (zL m) 45)).alloc (.cells (zD ⟨(2:Int),n,key,val,ref,.slice A refs.length c⟩) 105))=W:=⟨_,rfl⟩
  rw[hW]at hbW rm ro hW1 hTA;rw[hW];have Hgm:=Lib.hid hgm;rw[hgm]at rm ro hgl |-;clear hW hgm h hA;have m0:z9 W gm 0 32=some (idC m.id):=by have:=zV rm (j:=0) (m:=32) (by omega);rwa [jM]at this
  have m1:W.cell? ⟨gm,32,none⟩=some (.int .i64 m.h):=by have:=z8 rm (j:=32) (by omega);rwa [vI,Nat.zero_add]at this
  have o0:W.cell? ⟨gm+1,0,none⟩=some (.int .i64 (2:Int)):=by have:=z8 ro (j:=0) (by omega);rwa [qH]at this
  have o1:W.cell? ⟨gm+1,1,none⟩=some (.int .i64 n):=by have:=z8 ro (j:=1) (by omega);rwa [qW]at this
  have o2:W.cell? ⟨gm+1,2,none⟩=some (.string key):=by have:=z8 ro (j:=2) (by omega);rwa [qV]at this
  have o3:W.cell? ⟨gm+1,3,none⟩=some (.string val):=by have:=z8 ro (j:=3) (by omega);rwa [qU]at this
  have o4:z9 W (gm+1) 4 32=some (idC ref):=by have:=zV ro (j:=4) (m:=32) (by omega);rwa [jB]at this
  have o5:W.cell? ⟨gm+1,36,none⟩=some (.slice A refs.length c):=by have:=z8 ro (j:=36) (by omega);rwa [xX]at this
  have hgW:g<W.heap.size:=hW1.lt;have hgm1:gm<W.heap.size:=zI rm;have hgo1:gm+1<W.heap.size:=zI ro;have hbK:z4 [] w W:=z4.of_below hbW;have HbK:=Lib.hid hbK;clear rm ro hbW hbK;unfold RV.len at hl;obtain⟨l1,l2,l3,l4,l5,l6,l7⟩:=hlens;have hX:=hW1.below (w':=W.drew) ((Below.refl _ _).drew);have cc:=radd3 m.id val W.drew g _ sa.A sa.n sa.c x.adds hX.hp rfl hX.adds.1.rd hX.adds.1.nil hX.adds.2 hval (by omega);go_upto_region 5 with fail
  refine zA (Kp [g] W) false (by kernel_rfl) (by kernel_rfl) (by kernel_rfl) (zW [g] W) ?_;have hne:=xA [g] W;have hS:=zW [g] W;have q0:=j5 m0 (S:=[g]) (by simp;omega);have q1:=zM m1 (S:=[g]) (by simp;omega);have p1:=zM o1 (S:=[g]) (by simp;omega);have p2:=zM o2 (S:=[g]) (by simp;omega);have p3:=zM o3 (S:=[g]) (by simp;omega);have p4:=j5 o4 (S:=[g]) (by simp;omega);have p5:=zM o5 (S:=[g]) (by simp;omega);repeat(refine z6 ?_ ?_;(focus(simp only[z3];done));intro K hK;go_simp;refine hK _ ?_;clear hK K)
  refine zH ?_ ?_ ?_;(focus(exact hS));(focus(simp only[z3];done));intro K hK;go_simp;refine cc.mono ?_;rintro e w3 ⟨A',cap',rfl,hp3,hown3,hk3⟩;have hk30:z4 [g] W w3:=z4.trans ((z4.drew W).mono (by simp)) hk3 (fun x hx=>.inl hx);refine⟨_,rfl,hk30,hK _ _ ?_⟩;clear hK K;have hfin:v7 w3 g t I (d6 m ⟨2,n,key,val,ref,refs⟩ x):=hX.set (sa':=⟨A',sa.n+1,cap'⟩) hk3 hp3 (fun h=>h.keep hk3) (fun _=>⟨hown3.slw,fun hx=>by have:=(hown3.at_base hx).1;have:W.drew.heap.size=W.heap.size:=rfl;omega⟩) (fun h=>h.keep hk3) (fun h=>h.keep hk3) (fun h=>h.keep hk3) (fun h=>h.keep hk3) (fun h=>h.keep hk3) (fun h=>h.keep hk3);have hkf:=gD HbK.out hk30;clear cc hown3 hp3;clear q0 q1 p1 p2 p3 p4 p5;repeat(refine z6 ?_ ?_;(focus(simp only[z3];done));intro K hK;go_simp;refine hK _ ?_;clear hK K)
  refine zK ?_;intro hS;clear hne hS;(go_wp2_with fail);go_end0;exact⟨rfl,hfin,hkf⟩
theorem vk (m:zG) (o:OpV) (A:Option Addr) (c:Nat) (w:World) (g:Nat) (t:ByteArray) (I:List zJ) (x:RV) (h:v7 w g t I x) (hk:o.k=1) (hkey:o.key.size<=16) (hval:o.val.size<=16) (hrefs:o.refs.length<=8) (hlo:-2147483648<=o.n) (hhi:o.n<2147483648) (hA:y8 w A o.refs.length o.refs) (hgA:g∉blk A) (hok:lD x) (hl:x.len<=10000) :
    Calls Tryz.prog 44 #[.pointer (some ⟨g,0,none⟩),.agg (zL m),.agg (opC o A c)] w fun e w'=>e = .returned (.tuple #[])/\v7 w' g t I (d6 m o x)/\z4 [g] w w':=by
  obtain⟨k,n,key,val,ref,refs⟩:=o;dsimp only at hk hkey hval hrefs hlo hhi hA;subst hk;obtain⟨si,sa,sg,sl,sm,so,ss,sd,h⟩:=h;have hbW:Below w.heap.size w ((w.alloc (.cells (zL m) 45)).alloc (.cells (zD ⟨(1:Int),n,key,val,ref,.slice A refs.length c⟩) 105)):=((Below.refl _ _).alloc (Nat.le_refl _) _).alloc (by simp) _;have rm:z9 ((w.alloc (.cells (zL m) 45)).alloc (.cells (zD ⟨(1:Int),n,key,val,ref,.slice A refs.length c⟩) 105)) w.heap.size 0 34=some (zL m):=by simp[go_sem]
  have ro:z9 ((w.alloc (.cells (zL m) 45)).alloc (.cells (zD ⟨(1:Int),n,key,val,ref,.slice A refs.length c⟩) 105)) (w.heap.size+1) 0 37=some (zD ⟨(1:Int),n,key,val,ref,.slice A refs.length c⟩):=by simp[go_sem]
  have hgl:=h.lt;have hlens:=h.lens;unfold opC;rw[show((1:Nat):Int)=(1:Int)from rfl];go_enter Tryz.func44,Tryz.ntmps44
  go_upto_region 1 with fail
  have hW1:=h.below hbW;have hTA:y8 ((w.alloc (.cells (zL m) 45)).alloc (.cells (zD ⟨(1:Int),n,key,val,ref,.slice A refs.length c⟩) 105)) A refs.length refs:=SlR.below hA hbW;obtain⟨gm,hgm⟩:∃gm,w.heap.size=gm:=⟨_,rfl⟩
  obtain⟨W,hW⟩:∃W,((w.alloc (.cells (zL m) 45)).alloc (.cells (zD ⟨(1:Int),n,key,val,ref,.slice A refs.length c⟩) 105))=W:=⟨_,rfl⟩
  rw[hW]at hbW rm ro hW1 hTA;rw[hW];have Hgm:=Lib.hid hgm;rw[hgm]at rm ro hgl |-;clear hW hgm h hA;have m0:z9 W gm 0 32=some (idC m.id):=by have:=zV rm (j:=0) (m:=32) (by omega);rwa [jM]at this
  have m1:W.cell? ⟨gm,32,none⟩=some (.int .i64 m.h):=by have:=z8 rm (j:=32) (by omega);rwa [vI,Nat.zero_add]at this
  have o0:W.cell? ⟨gm+1,0,none⟩=some (.int .i64 (1:Int)):=by have:=z8 ro (j:=0) (by omega);rwa [qH]at this
  have o1:W.cell? ⟨gm+1,1,none⟩=some (.int .i64 n):=by have:=z8 ro (j:=1) (by omega);rwa [qW]at this
  have o2:W.cell? ⟨gm+1,2,none⟩=some (.string key):=by have:=z8 ro (j:=2) (by omega);rwa [qV]at this
  have o3:W.cell? ⟨gm+1,3,none⟩=some (.string val):=by have:=z8 ro (j:=3) (by omega);rwa [qU]at this
  have o4:z9 W (gm+1) 4 32=some (idC ref):=by have:=zV ro (j:=4) (m:=32) (by omega);rwa [jB]at this
  have o5:W.cell? ⟨gm+1,36,none⟩=some (.slice A refs.length c):=by have:=z8 ro (j:=36) (by omega);rwa [xX]at this
  have hgW:g<W.heap.size:=hW1.lt;have hgm1:gm<W.heap.size:=zI rm;have hgo1:gm+1<W.heap.size:=zI ro;have hbK:z4 [] w W:=z4.of_below hbW;have HbK:=Lib.hid hbK;clear rm ro hbW hbK;unfold RV.len at hl;obtain⟨l1,l2,l3,l4,l5,l6,l7⟩:=hlens;have hX:=hW1.below (w':=W.drew) ((Below.refl _ _).drew);have hw:IntKind.i64.wrap (x.tal+n)=wrap64 (x.tal+n):=IntWalk.i64_left _;have c2:W.cell? ⟨g,2,none⟩=some (.int .i64 x.tal):=hW1.cell 2 rfl;have hgd:W.drew.heap[g]? = some (.cells (rvC t si x.tal sa sg sl sm so ss sd) 78 (0,0)):=hW1.hp;have hf2:W.drew.frozen? ⟨g,2,none⟩=false:=by simp[World.frozen?,hgd]
  have c2d:W.drew.cell? ⟨g,2,none⟩=some (.int .i64 x.tal):=c2;go_upto_region 3 with fail
  refine xB (Kp [] W) false (by kernel_rfl) (by kernel_rfl) (by kernel_rfl) (by kernel_rfl) (zW [] W) ?_;have hne:=xA [] W;have hS:=zW [] W;have p1:=zM o1 (S:=[]) (by simp);have p2:=zM c2 (S:=[]) (by simp);repeat(refine z6 ?_ ?_;(focus(simp only[z3];done));intro K hK;go_simp;refine hK _ ?_;clear hK K)
  refine jS ?_ ?_;(focus(simp only[z3];done));intro K hK;go_simp;refine hK _ _ ?_;clear hK K;have hks:=z4.setCell W.drew ⟨g,2,none⟩ (.int .i64 (wrap64 (x.tal+n)));have hp3:=zE hgd 2 (.int .i64 (wrap64 (x.tal+n)));have hfin:v7 (W.drew.setCell ⟨g,2,none⟩ (.int .i64 (wrap64 (x.tal+n)))) g t I (d6 m ⟨1,n,key,val,ref,refs⟩ x):=hX.set hks hp3 (fun h=>h.keep hks) (fun h=>h.keep hks) (fun h=>h.keep hks) (fun h=>h.keep hks) (fun h=>h.keep hks) (fun h=>h.keep hks) (fun h=>h.keep hks) (fun h=>h.keep hks);have hkf:z4 [g] w (W.drew.setCell ⟨g,2,none⟩ (.int .i64 (wrap64 (x.tal+n)))):=gD HbK.out (z4.trans ((z4.drew W).mono (S':=[g]) (by simp)) hks (fun x hx=>.inl hx));clear p1 p2 hne hS hks hp3 c2d hf2 hgd c2;(go_wp2_with fail);go_end0;exact⟨rfl,hfin,hkf⟩
theorem vi (m:zG) (o:OpV) (A:Option Addr) (c:Nat) (w:World) (g:Nat) (t:ByteArray) (I:List zJ) (x:RV) (h:v7 w g t I x) (hk:o.k=3) (hkey:o.key.size<=16) (hval:o.val.size<=16) (hrefs:o.refs.length<=8) (hlo:-2147483648<=o.n) (hhi:o.n<2147483648) (hA:y8 w A o.refs.length o.refs) (hgA:g∉blk A) (hok:lD x) (hl:x.len<=10000) :
    Calls Tryz.prog 44 #[.pointer (some ⟨g,0,none⟩),.agg (zL m),.agg (opC o A c)] w fun e w'=>e = .returned (.tuple #[])/\v7 w' g t I (d6 m o x)/\z4 [g] w w':=by
  obtain⟨k,n,key,val,ref,refs⟩:=o;dsimp only at hk hkey hval hrefs hlo hhi hA;subst hk;obtain⟨si,sa,sg,sl,sm,so,ss,sd,h⟩:=h;have hbW:Below w.heap.size w ((w.alloc (.cells (zL m) 45)).alloc (.cells (zD ⟨(3:Int),n,key,val,ref,.slice A refs.length c⟩) 105)):=((Below.refl _ _).alloc (Nat.le_refl _) _).alloc (by simp) _;have rm:z9 ((w.alloc (.cells (zL m) 45)).alloc (.cells (zD ⟨(3:Int),n,key,val,ref,.slice A refs.length c⟩) 105)) w.heap.size 0 34=some (zL m):=by simp[go_sem]
  have ro:z9 ((w.alloc (.cells (zL m) 45)).alloc (.cells (zD ⟨(3:Int),n,key,val,ref,.slice A refs.length c⟩) 105)) (w.heap.size+1) 0 37=some (zD ⟨(3:Int),n,key,val,ref,.slice A refs.length c⟩):=by simp[go_sem]
  have hgl:=h.lt;have hlens:=h.lens;unfold opC;rw[show((3:Nat):Int)=(3:Int)from rfl];go_enter Tryz.func44,Tryz.ntmps44
  go_upto_region 1 with fail
  have hW1:=h.below hbW;have hTA:y8 ((w.alloc (.cells (zL m) 45)).alloc (.cells (zD ⟨(3:Int),n,key,val,ref,.slice A refs.length c⟩) 105)) A refs.length refs:=SlR.below hA hbW;obtain⟨gm,hgm⟩:∃gm,w.heap.size=gm:=⟨_,rfl⟩
  obtain⟨W,hW⟩:∃W,((w.alloc (.cells (zL m) 45)).alloc (.cells (zD ⟨(3:Int),n,key,val,ref,.slice A refs.length c⟩) 105))=W:=⟨_,rfl⟩
  rw[hW]at hbW rm ro hW1 hTA;rw[hW];have Hgm:=Lib.hid hgm;rw[hgm]at rm ro hgl |-;clear hW hgm h hA;have m0:z9 W gm 0 32=some (idC m.id):=by have:=zV rm (j:=0) (m:=32) (by omega);rwa [jM]at this
  have m1:W.cell? ⟨gm,32,none⟩=some (.int .i64 m.h):=by have:=z8 rm (j:=32) (by omega);rwa [vI,Nat.zero_add]at this
  have o0:W.cell? ⟨gm+1,0,none⟩=some (.int .i64 (3:Int)):=by have:=z8 ro (j:=0) (by omega);rwa [qH]at this
  have o1:W.cell? ⟨gm+1,1,none⟩=some (.int .i64 n):=by have:=z8 ro (j:=1) (by omega);rwa [qW]at this
  have o2:W.cell? ⟨gm+1,2,none⟩=some (.string key):=by have:=z8 ro (j:=2) (by omega);rwa [qV]at this
  have o3:W.cell? ⟨gm+1,3,none⟩=some (.string val):=by have:=z8 ro (j:=3) (by omega);rwa [qU]at this
  have o4:z9 W (gm+1) 4 32=some (idC ref):=by have:=zV ro (j:=4) (m:=32) (by omega);rwa [jB]at this
  have o5:W.cell? ⟨gm+1,36,none⟩=some (.slice A refs.length c):=by have:=z8 ro (j:=36) (by omega);rwa [xX]at this
  have hgW:g<W.heap.size:=hW1.lt;have hgm1:gm<W.heap.size:=zI rm;have hgo1:gm+1<W.heap.size:=zI ro;have hbK:z4 [] w W:=z4.of_below hbW;have HbK:=Lib.hid hbK;clear rm ro hbW hbK;unfold RV.len at hl;obtain⟨l1,l2,l3,l4,l5,l6,l7⟩:=hlens;have hX:=hW1.below (w':=W.drew) ((Below.refl _ _).drew);have cc:=rrem3 val A refs.length c refs W.drew g _ sg.A sg.n sg.c x.gone hX.hp rfl hX.gone.1.rd hX.gone.1.nil (SlR.below hTA (zC W)) hval (by omega) (by omega);go_upto_region 7 with fail
  refine zA (Kp [g] W) false (by kernel_rfl) (by kernel_rfl) (by kernel_rfl) (zW [g] W) ?_;have hne:=xA [g] W;have hS:=zW [g] W;have q0:=j5 m0 (S:=[g]) (by simp;omega);have q1:=zM m1 (S:=[g]) (by simp;omega);have p1:=zM o1 (S:=[g]) (by simp;omega);have p2:=zM o2 (S:=[g]) (by simp;omega);have p3:=zM o3 (S:=[g]) (by simp;omega);have p4:=j5 o4 (S:=[g]) (by simp;omega);have p5:=zM o5 (S:=[g]) (by simp;omega);repeat(refine z6 ?_ ?_;(focus(simp only[z3];done));intro K hK;go_simp;refine hK _ ?_;clear hK K)
  refine zH ?_ ?_ ?_;(focus(exact hS));(focus(simp only[z3];done));intro K hK;go_simp;refine cc.mono ?_;rintro e w3 ⟨A',cap',rfl,hp3,hown3,hk3⟩;have hk30:z4 [g] W w3:=z4.trans ((z4.drew W).mono (by simp)) hk3 (fun x hx=>.inl hx);refine⟨_,rfl,hk30,hK _ _ ?_⟩;clear hK K;have hfin:v7 w3 g t I (d6 m ⟨3,n,key,val,ref,refs⟩ x):=hX.set (sg':=⟨A',sg.n+refs.length,cap'⟩) hk3 hp3 (fun h=>h.keep hk3) (fun h=>h.keep hk3) (fun _=>⟨hown3.slw,fun hx=>by have:=(hown3.at_base hx).1;have:W.drew.heap.size=W.heap.size:=rfl;omega⟩) (fun h=>h.keep hk3) (fun h=>h.keep hk3) (fun h=>h.keep hk3) (fun h=>h.keep hk3) (fun h=>h.keep hk3);have hkf:=gD HbK.out hk30;clear cc hp3 hown3;clear q0 q1 p1 p2 p3 p4 p5;repeat(refine z6 ?_ ?_;(focus(simp only[z3];done));intro K hK;go_simp;refine hK _ ?_;clear hK K)
  refine zK ?_;intro hS;clear hne hS;(go_wp2_with fail);go_end0;exact⟨rfl,hfin,hkf⟩
theorem vg (m:zG) (o:OpV) (A:Option Addr) (c:Nat) (w:World) (g:Nat) (t:ByteArray) (I:List zJ) (x:RV) (h:v7 w g t I x) (hk:o.k=5) (hkey:o.key.size<=16) (hval:o.val.size<=16) (hrefs:o.refs.length<=8) (hlo:-2147483648<=o.n) (hhi:o.n<2147483648) (hA:y8 w A o.refs.length o.refs) (hgA:g∉blk A) (hok:lD x) (hl:x.len<=10000) :
    Calls Tryz.prog 44 #[.pointer (some ⟨g,0,none⟩),.agg (zL m),.agg (opC o A c)] w fun e w'=>e = .returned (.tuple #[])/\v7 w' g t I (d6 m o x)/\z4 [g] w w':=by
  obtain⟨k,n,key,val,ref,refs⟩:=o;dsimp only at hk hkey hval hrefs hlo hhi hA;subst hk;obtain⟨si,sa,sg,sl,sm,so,ss,sd,h⟩:=h;have hbW:Below w.heap.size w ((w.alloc (.cells (zL m) 45)).alloc (.cells (zD ⟨(5:Int),n,key,val,ref,.slice A refs.length c⟩) 105)):=((Below.refl _ _).alloc (Nat.le_refl _) _).alloc (by simp) _;have rm:z9 ((w.alloc (.cells (zL m) 45)).alloc (.cells (zD ⟨(5:Int),n,key,val,ref,.slice A refs.length c⟩) 105)) w.heap.size 0 34=some (zL m):=by simp[go_sem]
  have ro:z9 ((w.alloc (.cells (zL m) 45)).alloc (.cells (zD ⟨(5:Int),n,key,val,ref,.slice A refs.length c⟩) 105)) (w.heap.size+1) 0 37=some (zD ⟨(5:Int),n,key,val,ref,.slice A refs.length c⟩):=by simp[go_sem]
  have hgl:=h.lt;have hlens:=h.lens;unfold opC;rw[show((5:Nat):Int)=(5:Int)from rfl];go_enter Tryz.func44,Tryz.ntmps44
  go_upto_region 1 with fail
  have hW1:=h.below hbW;have hTA:y8 ((w.alloc (.cells (zL m) 45)).alloc (.cells (zD ⟨(5:Int),n,key,val,ref,.slice A refs.length c⟩) 105)) A refs.length refs:=SlR.below hA hbW;obtain⟨gm,hgm⟩:∃gm,w.heap.size=gm:=⟨_,rfl⟩
  obtain⟨W,hW⟩:∃W,((w.alloc (.cells (zL m) 45)).alloc (.cells (zD ⟨(5:Int),n,key,val,ref,.slice A refs.length c⟩) 105))=W:=⟨_,rfl⟩
  rw[hW]at hbW rm ro hW1 hTA;rw[hW];have Hgm:=Lib.hid hgm;rw[hgm]at rm ro hgl |-;clear hW hgm h hA;have m0:z9 W gm 0 32=some (idC m.id):=by have:=zV rm (j:=0) (m:=32) (by omega);rwa [jM]at this
  have m1:W.cell? ⟨gm,32,none⟩=some (.int .i64 m.h):=by have:=z8 rm (j:=32) (by omega);rwa [vI,Nat.zero_add]at this
  have o0:W.cell? ⟨gm+1,0,none⟩=some (.int .i64 (5:Int)):=by have:=z8 ro (j:=0) (by omega);rwa [qH]at this
  have o1:W.cell? ⟨gm+1,1,none⟩=some (.int .i64 n):=by have:=z8 ro (j:=1) (by omega);rwa [qW]at this
  have o2:W.cell? ⟨gm+1,2,none⟩=some (.string key):=by have:=z8 ro (j:=2) (by omega);rwa [qV]at this
  have o3:W.cell? ⟨gm+1,3,none⟩=some (.string val):=by have:=z8 ro (j:=3) (by omega);rwa [qU]at this
  have o4:z9 W (gm+1) 4 32=some (idC ref):=by have:=zV ro (j:=4) (m:=32) (by omega);rwa [jB]at this
  have o5:W.cell? ⟨gm+1,36,none⟩=some (.slice A refs.length c):=by have:=z8 ro (j:=36) (by omega);rwa [xX]at this
  have hgW:g<W.heap.size:=hW1.lt;have hgm1:gm<W.heap.size:=zI rm;have hgo1:gm+1<W.heap.size:=zI ro;have hbK:z4 [] w W:=z4.of_below hbW;have HbK:=Lib.hid hbK;clear rm ro hbW hbK;unfold RV.len at hl;obtain⟨l1,l2,l3,l4,l5,l6,l7⟩:=hlens;have hX:=hW1.below (w':=W.drew) ((Below.refl _ _).drew);have hg0:g∉blk A:=hgA;have cc:=rmset6 ⟨m.id,key,val⟩ A refs.length c refs W.drew g _ sm.A sm.n sm.c x.mL so.A so.n so.c x.mO hX.hp rfl rfl hX.mL.1.rd hX.mL.1.nil hX.mO.1.rd hX.mO.2 (SlR.below hTA (zC W)) hg0 hkey hval (by omega) (by omega) (by omega);go_upto_region 11 with fail
  refine zA (Kp [g] W) false (by kernel_rfl) (by kernel_rfl) (by kernel_rfl) (zW [g] W) ?_;have hne:=xA [g] W;have hS:=zW [g] W;have q0:=j5 m0 (S:=[g]) (by simp;omega);have q1:=zM m1 (S:=[g]) (by simp;omega);have p1:=zM o1 (S:=[g]) (by simp;omega);have p2:=zM o2 (S:=[g]) (by simp;omega);have p3:=zM o3 (S:=[g]) (by simp;omega);have p4:=j5 o4 (S:=[g]) (by simp;omega);have p5:=zM o5 (S:=[g]) (by simp;omega);repeat(refine z6 ?_ ?_;(focus(simp only[z3];done));intro K hK;go_simp;refine hK _ ?_;clear hK K)
  refine zH ?_ ?_ ?_;(focus(exact hS));(focus(simp only[z3];done));intro K hK;go_simp;refine cc.mono ?_;rintro e w3 ⟨A3,cap3,A9,cap9,rfl,hp3,hown3,hI3,hb9,hk3⟩;have hk30:z4 [g] W w3:=z4.trans ((z4.drew W).mono (by simp)) hk3 (fun x hx=>.inl hx);refine⟨_,rfl,hk30,hK _ _ ?_⟩;clear hK K;have hfin:v7 w3 g t I (d6 m ⟨5,n,key,val,ref,refs⟩ x):=hX.set (sm':=⟨A3,sm.n+1,cap3⟩) (so':=⟨A9,(yF zO (x.mO++refs)).length,cap9⟩) hk3 hp3 (fun h=>h.keep hk3) (fun h=>h.keep hk3) (fun h=>h.keep hk3) (fun h=>h.keep hk3) (fun _=>⟨hown3.slw,fun hx=>by have:=(hown3.at_base hx).1;have:W.drew.heap.size=W.heap.size:=rfl;omega⟩) (fun _=>⟨hI3,fun hx=>by have:=hb9 g hx;have:W.drew.heap.size=W.heap.size:=rfl;omega⟩) (fun h=>h.keep hk3) (fun h=>h.keep hk3);have hkf:=gD HbK.out hk30;clear cc hp3 hown3 hI3;clear q0 q1 p1 p2 p3 p4 p5;repeat(refine z6 ?_ ?_;(focus(simp only[z3];done));intro K hK;go_simp;refine hK _ ?_;clear hK K)
  refine zK ?_;intro hS;clear hne hS;(go_wp2_with fail);go_end0;exact⟨rfl,hfin,hkf⟩
theorem vf (m:zG) (o:OpV) (A:Option Addr) (c:Nat) (w:World) (g:Nat) (t:ByteArray) (I:List zJ) (x:RV) (h:v7 w g t I x) (hk:o.k=6) (hkey:o.key.size<=16) (hval:o.val.size<=16) (hrefs:o.refs.length<=8) (hlo:-2147483648<=o.n) (hhi:o.n<2147483648) (hA:y8 w A o.refs.length o.refs) (hgA:g∉blk A) (hok:lD x) (hl:x.len<=10000) :
    Calls Tryz.prog 44 #[.pointer (some ⟨g,0,none⟩),.agg (zL m),.agg (opC o A c)] w fun e w'=>e = .returned (.tuple #[])/\v7 w' g t I (d6 m o x)/\z4 [g] w w':=by
  obtain⟨k,n,key,val,ref,refs⟩:=o;dsimp only at hk hkey hval hrefs hlo hhi hA;subst hk;obtain⟨si,sa,sg,sl,sm,so,ss,sd,h⟩:=h;have hbW:Below w.heap.size w ((w.alloc (.cells (zL m) 45)).alloc (.cells (zD ⟨(6:Int),n,key,val,ref,.slice A refs.length c⟩) 105)):=((Below.refl _ _).alloc (Nat.le_refl _) _).alloc (by simp) _;have rm:z9 ((w.alloc (.cells (zL m) 45)).alloc (.cells (zD ⟨(6:Int),n,key,val,ref,.slice A refs.length c⟩) 105)) w.heap.size 0 34=some (zL m):=by simp[go_sem]
  have ro:z9 ((w.alloc (.cells (zL m) 45)).alloc (.cells (zD ⟨(6:Int),n,key,val,ref,.slice A refs.length c⟩) 105)) (w.heap.size+1) 0 37=some (zD ⟨(6:Int),n,key,val,ref,.slice A refs.length c⟩):=by simp[go_sem]
  have hgl:=h.lt;have hlens:=h.lens;unfold opC;rw[show((6:Nat):Int)=(6:Int)from rfl];go_enter Tryz.func44,Tryz.ntmps44
  go_upto_region 1 with fail
  have hW1:=h.below hbW;have hTA:y8 ((w.alloc (.cells (zL m) 45)).alloc (.cells (zD ⟨(6:Int),n,key,val,ref,.slice A refs.length c⟩) 105)) A refs.length refs:=SlR.below hA hbW;obtain⟨gm,hgm⟩:∃gm,w.heap.size=gm:=⟨_,rfl⟩
  obtain⟨W,hW⟩:∃W,((w.alloc (.cells (zL m) 45)).alloc (.cells (zD ⟨(6:Int),n,key,val,ref,.slice A refs.length c⟩) 105))=W:=⟨_,rfl⟩
  rw[hW]at hbW rm ro hW1 hTA;rw[hW];have Hgm:=Lib.hid hgm;rw[hgm]at rm ro hgl |-;clear hW hgm h hA;have m0:z9 W gm 0 32=some (idC m.id):=by have:=zV rm (j:=0) (m:=32) (by omega);rwa [jM]at this
  have m1:W.cell? ⟨gm,32,none⟩=some (.int .i64 m.h):=by have:=z8 rm (j:=32) (by omega);rwa [vI,Nat.zero_add]at this
  have o0:W.cell? ⟨gm+1,0,none⟩=some (.int .i64 (6:Int)):=by have:=z8 ro (j:=0) (by omega);rwa [qH]at this
  have o1:W.cell? ⟨gm+1,1,none⟩=some (.int .i64 n):=by have:=z8 ro (j:=1) (by omega);rwa [qW]at this
  have o2:W.cell? ⟨gm+1,2,none⟩=some (.string key):=by have:=z8 ro (j:=2) (by omega);rwa [qV]at this
  have o3:W.cell? ⟨gm+1,3,none⟩=some (.string val):=by have:=z8 ro (j:=3) (by omega);rwa [qU]at this
  have o4:z9 W (gm+1) 4 32=some (idC ref):=by have:=zV ro (j:=4) (m:=32) (by omega);rwa [jB]at this
  have o5:W.cell? ⟨gm+1,36,none⟩=some (.slice A refs.length c):=by have:=z8 ro (j:=36) (by omega);rwa [xX]at this
  have hgW:g<W.heap.size:=hW1.lt;have hgm1:gm<W.heap.size:=zI rm;have hgo1:gm+1<W.heap.size:=zI ro;have hbK:z4 [] w W:=z4.of_below hbW;have HbK:=Lib.hid hbK;clear rm ro hbW hbK;unfold RV.len at hl;obtain⟨l1,l2,l3,l4,l5,l6,l7⟩:=hlens;have hX:=hW1.below (w':=W.drew) ((Below.refl _ _).drew);have cc:=rsins8 ⟨m.id,m.h,ref,val⟩ W.drew g _ ss.A ss.n ss.c x.sL hX.hp rfl hX.sL.1 hX.sL.2 hok.sL (Nat.le_trans hval (by omega)) (by omega);go_upto_region 13 with fail
  refine zA (Kp [g] W) false (by kernel_rfl) (by kernel_rfl) (by kernel_rfl) (zW [g] W) ?_;have hne:=xA [g] W;have hS:=zW [g] W;have q0:=j5 m0 (S:=[g]) (by simp;omega);have q1:=zM m1 (S:=[g]) (by simp;omega);have p1:=zM o1 (S:=[g]) (by simp;omega);have p2:=zM o2 (S:=[g]) (by simp;omega);have p3:=zM o3 (S:=[g]) (by simp;omega);have p4:=j5 o4 (S:=[g]) (by simp;omega);have p5:=zM o5 (S:=[g]) (by simp;omega);repeat(refine z6 ?_ ?_;(focus(simp only[z3];done));intro K hK;go_simp;refine hK _ ?_;clear hK K)
  refine zH ?_ ?_ ?_;(focus(exact hS));(focus(simp only[z3];done));intro K hK;go_simp;refine cc.mono ?_;rintro e w3 ⟨A',n',cap',rfl,hp3,hsw3,hgA3,hk3⟩;have hk30:z4 [g] W w3:=z4.trans ((z4.drew W).mono (by simp)) hk3 (fun x hx=>.inl hx);refine⟨_,rfl,hk30,hK _ _ ?_⟩;clear hK K;have hfin:v7 w3 g t I (d6 m ⟨6,n,key,val,ref,refs⟩ x):=hX.set (ss':=⟨A',n',cap'⟩) hk3 hp3 (fun h=>h.keep hk3) (fun h=>h.keep hk3) (fun h=>h.keep hk3) (fun h=>h.keep hk3) (fun h=>h.keep hk3) (fun h=>h.keep hk3) (fun _=>⟨hsw3,hgA3⟩) (fun h=>h.keep hk3);have hkf:=gD HbK.out hk30;clear cc hp3 hsw3;clear q0 q1 p1 p2 p3 p4 p5;repeat(refine z6 ?_ ?_;(focus(simp only[z3];done));intro K hK;go_simp;refine hK _ ?_;clear hK K)
  refine zK ?_;intro hS;clear hne hS;(go_wp2_with fail);go_end0;exact⟨rfl,hfin,hkf⟩
theorem ve (m:zG) (o:OpV) (A:Option Addr) (c:Nat) (w:World) (g:Nat) (t:ByteArray) (I:List zJ) (x:RV) (h:v7 w g t I x) (hk:o.k=7) (hkey:o.key.size<=16) (hval:o.val.size<=16) (hrefs:o.refs.length<=8) (hlo:-2147483648<=o.n) (hhi:o.n<2147483648) (hA:y8 w A o.refs.length o.refs) (hgA:g∉blk A) (hok:lD x) (hl:x.len<=10000) :
    Calls Tryz.prog 44 #[.pointer (some ⟨g,0,none⟩),.agg (zL m),.agg (opC o A c)] w fun e w'=>e = .returned (.tuple #[])/\v7 w' g t I (d6 m o x)/\z4 [g] w w':=by
  obtain⟨k,n,key,val,ref,refs⟩:=o;dsimp only at hk hkey hval hrefs hlo hhi hA;subst hk;obtain⟨si,sa,sg,sl,sm,so,ss,sd,h⟩:=h;have hbW:Below w.heap.size w ((w.alloc (.cells (zL m) 45)).alloc (.cells (zD ⟨(7:Int),n,key,val,ref,.slice A refs.length c⟩) 105)):=((Below.refl _ _).alloc (Nat.le_refl _) _).alloc (by simp) _;have rm:z9 ((w.alloc (.cells (zL m) 45)).alloc (.cells (zD ⟨(7:Int),n,key,val,ref,.slice A refs.length c⟩) 105)) w.heap.size 0 34=some (zL m):=by simp[go_sem]
  have ro:z9 ((w.alloc (.cells (zL m) 45)).alloc (.cells (zD ⟨(7:Int),n,key,val,ref,.slice A refs.length c⟩) 105)) (w.heap.size+1) 0 37=some (zD ⟨(7:Int),n,key,val,ref,.slice A refs.length c⟩):=by simp[go_sem]
  have hgl:=h.lt;have hlens:=h.lens;unfold opC;rw[show((7:Nat):Int)=(7:Int)from rfl];go_enter Tryz.func44,Tryz.ntmps44
  go_upto_region 1 with fail
  have hW1:=h.below hbW;have hTA:y8 ((w.alloc (.cells (zL m) 45)).alloc (.cells (zD ⟨(7:Int),n,key,val,ref,.slice A refs.length c⟩) 105)) A refs.length refs:=SlR.below hA hbW;obtain⟨gm,hgm⟩:∃gm,w.heap.size=gm:=⟨_,rfl⟩
  obtain⟨W,hW⟩:∃W,((w.alloc (.cells (zL m) 45)).alloc (.cells (zD ⟨(7:Int),n,key,val,ref,.slice A refs.length c⟩) 105))=W:=⟨_,rfl⟩
  rw[hW]at hbW rm ro hW1 hTA;rw[hW];have Hgm:=Lib.hid hgm;rw[hgm]at rm ro hgl |-;clear hW hgm h hA;have m0:z9 W gm 0 32=some (idC m.id):=by have:=zV rm (j:=0) (m:=32) (by omega);rwa [jM]at this
  have m1:W.cell? ⟨gm,32,none⟩=some (.int .i64 m.h):=by have:=z8 rm (j:=32) (by omega);rwa [vI,Nat.zero_add]at this
  have o0:W.cell? ⟨gm+1,0,none⟩=some (.int .i64 (7:Int)):=by have:=z8 ro (j:=0) (by omega);rwa [qH]at this
  have o1:W.cell? ⟨gm+1,1,none⟩=some (.int .i64 n):=by have:=z8 ro (j:=1) (by omega);rwa [qW]at this
  have o2:W.cell? ⟨gm+1,2,none⟩=some (.string key):=by have:=z8 ro (j:=2) (by omega);rwa [qV]at this
  have o3:W.cell? ⟨gm+1,3,none⟩=some (.string val):=by have:=z8 ro (j:=3) (by omega);rwa [qU]at this
  have o4:z9 W (gm+1) 4 32=some (idC ref):=by have:=zV ro (j:=4) (m:=32) (by omega);rwa [jB]at this
  have o5:W.cell? ⟨gm+1,36,none⟩=some (.slice A refs.length c):=by have:=z8 ro (j:=36) (by omega);rwa [xX]at this
  have hgW:g<W.heap.size:=hW1.lt;have hgm1:gm<W.heap.size:=zI rm;have hgo1:gm+1<W.heap.size:=zI ro;have hbK:z4 [] w W:=z4.of_below hbW;have HbK:=Lib.hid hbK;clear rm ro hbW hbK;unfold RV.len at hl;obtain⟨l1,l2,l3,l4,l5,l6,l7⟩:=hlens;have hX:=hW1.below (w':=W.drew) ((Below.refl _ _).drew);have cc:=rsdel8 ref W.drew g _ sd.A sd.n sd.c x.sG hX.hp rfl hX.sG.1 hX.sG.2 hok.sG (by omega);go_upto_region 15 with fail
  refine zA (Kp [g] W) false (by kernel_rfl) (by kernel_rfl) (by kernel_rfl) (zW [g] W) ?_;have hne:=xA [g] W;have hS:=zW [g] W;have q0:=j5 m0 (S:=[g]) (by simp;omega);have q1:=zM m1 (S:=[g]) (by simp;omega);have p1:=zM o1 (S:=[g]) (by simp;omega);have p2:=zM o2 (S:=[g]) (by simp;omega);have p3:=zM o3 (S:=[g]) (by simp;omega);have p4:=j5 o4 (S:=[g]) (by simp;omega);have p5:=zM o5 (S:=[g]) (by simp;omega);repeat(refine z6 ?_ ?_;(focus(simp only[z3];done));intro K hK;go_simp;refine hK _ ?_;clear hK K)
  refine zH ?_ ?_ ?_;(focus(exact hS));(focus(simp only[z3];done));intro K hK;go_simp;refine cc.mono ?_;rintro e w3 ⟨A',cap',rfl,hp3,hsw3,hgA3,hk3⟩;have hk30:z4 [g] W w3:=z4.trans ((z4.drew W).mono (by simp)) hk3 (fun x hx=>.inl hx);refine⟨_,rfl,hk30,hK _ _ ?_⟩;clear hK K;have hfin:v7 w3 g t I (d6 m ⟨7,n,key,val,ref,refs⟩ x):=hX.set (sd':=⟨A',(xU zO x.sG ref).length,cap'⟩) hk3 hp3 (fun h=>h.keep hk3) (fun h=>h.keep hk3) (fun h=>h.keep hk3) (fun h=>h.keep hk3) (fun h=>h.keep hk3) (fun h=>h.keep hk3) (fun h=>h.keep hk3) (fun _=>⟨hsw3,hgA3⟩);have hkf:=gD HbK.out hk30;clear cc hp3 hsw3;clear q0 q1 p1 p2 p3 p4 p5;repeat(refine z6 ?_ ?_;(focus(simp only[z3];done));intro K hK;go_simp;refine hK _ ?_;clear hK K)
  refine zK ?_;intro hS;clear hne hS;(go_wp2_with fail);go_end0;exact⟨rfl,hfin,hkf⟩
theorem vh (m:zG) (o:OpV) (A:Option Addr) (c:Nat) (w:World) (g:Nat) (t:ByteArray) (I:List zJ) (x:RV) (h:v7 w g t I x) (hk:o.k=4) (hkey:o.key.size<=16) (hval:o.val.size<=16) (hrefs:o.refs.length<=8) (hlo:-2147483648<=o.n) (hhi:o.n<2147483648) (hA:y8 w A o.refs.length o.refs) (hgA:g∉blk A) (hok:lD x) (hl:x.len<=10000) :
    Calls Tryz.prog 44 #[.pointer (some ⟨g,0,none⟩),.agg (zL m),.agg (opC o A c)] w fun e w'=>e = .returned (.tuple #[])/\v7 w' g t I (d6 m o x)/\z4 [g] w w':=by
  obtain⟨k,n,key,val,ref,refs⟩:=o;dsimp only at hk hkey hval hrefs hlo hhi hA;subst hk;obtain⟨si,sa,sg,sl,sm,so,ss,sd,h⟩:=h;have hbW:Below w.heap.size w ((w.alloc (.cells (zL m) 45)).alloc (.cells (zD ⟨(4:Int),n,key,val,ref,.slice A refs.length c⟩) 105)):=((Below.refl _ _).alloc (Nat.le_refl _) _).alloc (by simp) _;have rm:z9 ((w.alloc (.cells (zL m) 45)).alloc (.cells (zD ⟨(4:Int),n,key,val,ref,.slice A refs.length c⟩) 105)) w.heap.size 0 34=some (zL m):=by simp[go_sem]
  have ro:z9 ((w.alloc (.cells (zL m) 45)).alloc (.cells (zD ⟨(4:Int),n,key,val,ref,.slice A refs.length c⟩) 105)) (w.heap.size+1) 0 37=some (zD ⟨(4:Int),n,key,val,ref,.slice A refs.length c⟩):=by simp[go_sem]
  have hgl:=h.lt;have hlens:=h.lens;unfold opC;rw[show((4:Nat):Int)=(4:Int)from rfl];go_enter Tryz.func44,Tryz.ntmps44
  go_upto_region 1 with fail
  have hW1:=h.below hbW;have hTA:y8 ((w.alloc (.cells (zL m) 45)).alloc (.cells (zD ⟨(4:Int),n,key,val,ref,.slice A refs.length c⟩) 105)) A refs.length refs:=SlR.below hA hbW;obtain⟨gm,hgm⟩:∃gm,w.heap.size=gm:=⟨_,rfl⟩
  obtain⟨W,hW⟩:∃W,((w.alloc (.cells (zL m) 45)).alloc (.cells (zD ⟨(4:Int),n,key,val,ref,.slice A refs.length c⟩) 105))=W:=⟨_,rfl⟩
  rw[hW]at hbW rm ro hW1 hTA;rw[hW];have Hgm:=Lib.hid hgm;rw[hgm]at rm ro hgl |-;clear hW hgm h hA;have m0:z9 W gm 0 32=some (idC m.id):=by have:=zV rm (j:=0) (m:=32) (by omega);rwa [jM]at this
  have m1:W.cell? ⟨gm,32,none⟩=some (.int .i64 m.h):=by have:=z8 rm (j:=32) (by omega);rwa [vI,Nat.zero_add]at this
  have o0:W.cell? ⟨gm+1,0,none⟩=some (.int .i64 (4:Int)):=by have:=z8 ro (j:=0) (by omega);rwa [qH]at this
  have o1:W.cell? ⟨gm+1,1,none⟩=some (.int .i64 n):=by have:=z8 ro (j:=1) (by omega);rwa [qW]at this
  have o2:W.cell? ⟨gm+1,2,none⟩=some (.string key):=by have:=z8 ro (j:=2) (by omega);rwa [qV]at this
  have o3:W.cell? ⟨gm+1,3,none⟩=some (.string val):=by have:=z8 ro (j:=3) (by omega);rwa [qU]at this
  have o4:z9 W (gm+1) 4 32=some (idC ref):=by have:=zV ro (j:=4) (m:=32) (by omega);rwa [jB]at this
  have o5:W.cell? ⟨gm+1,36,none⟩=some (.slice A refs.length c):=by have:=z8 ro (j:=36) (by omega);rwa [xX]at this
  have hgW:g<W.heap.size:=hW1.lt;have hgm1:gm<W.heap.size:=zI rm;have hgo1:gm+1<W.heap.size:=zI ro;have hbK:z4 [] w W:=z4.of_below hbW;have HbK:=Lib.hid hbK;clear rm ro hbW hbK;unfold RV.len at hl;obtain⟨l1,l2,l3,l4,l5,l6,l7⟩:=hlens;have hX:=hW1.below (w':=W.drew) ((Below.refl _ _).drew);obtain⟨AX,nX,cX⟩:=sl;obtain⟨xr,hxr⟩:∃xr:Row,xr=⟨key,val,n,m.id⟩:=⟨_,rfl⟩
  have hbld:∀w0:World,(bdS 140 #[(0,.string key),(1,.string val),(2,.int .i64 n),(3,.agg (idC m.id))]).run Tryz.prog w0 = .ok (.agg (yH xr)) w0:=fun w0=>(by rw[hxr];exact buildRow key val n m.id w0);have hxl:(⟨4,n,key,val,ref,refs⟩:OpV).key=key:=rfl;have HX:=Lib.hid hW1;have Hxr:=Lib.hid hxr;have hcs:(rvC t si x.tal sa sg ⟨AX,nX,cX⟩ sm so ss sd)[5]? = some (.slice AX nX cX):=rfl;have hgx:W.heap[g]? = some (.cells (rvC t si x.tal sa sg ⟨AX,nX,cX⟩ sm so ss sd) 78 (0,0)):=hW1.hp;have h1:SlR W AX nX 35 (x.last.map yH):=hW1.last.1.rd;have f1:AX=none->cX=0:=hW1.last.1.nil;have hc0:W.cell? ⟨g,5,none⟩=some (.slice AX nX cX):=hW1.cell 5 rfl;have hln:nX<=100000:=by have e:x.last.length=nX:=l3;omega
  obtain⟨cs,hcse⟩:∃cs,rvC t si x.tal sa sg ⟨AX,nX,cX⟩ sm so ss sd=cs:=⟨_,rfl⟩
  have Hcse:=Lib.hid hcse;rw[hcse]at hcs hgx;obtain⟨X,hXe⟩:∃X,x.last=X:=⟨_,rfl⟩
  rw[hXe]at h1;have HXe:=Lib.hid hXe;have HgW:=Lib.hid hgW;clear hW1 hX hcse hXe hxr hxl l1 l2 l3 l4 l5 l6 l7 hl;go_upto_region 9 with fail
  have q0:=j5 m0 (S:=[]) (by simp);have p1:=zM o1 (S:=[]) (by simp);have p2:=zM o2 (S:=[]) (by simp);have p3:=zM o3 (S:=[]) (by simp);have p5:=zM hc0 (S:=[]) (by simp);refine fX (.loose 0 (.loose 2 (.loose 3 (.loose 4 (.loose 5 (.loose 7 (.loose 8 (.loose 9 (.loose 10 (.loose 11 (.loose 12 (.loose 13 (.loose 14 (.loose 15 (.two 1 (.two 6 (.one 16 (.one 17 (.loose 18 (.loose 19 (.one 20 .done))))) 16 (.one 6 (.one 17 (.loose 18 (.loose 19 (.one 20 .done)))))) 16 (.one 1 (.one 6 (.one 17 (.loose 18 (.loose 19 (.one 20 .done))))))))))))))))))))) (Kp [] W) false (by kernel_rfl) (by kernel_rfl) (by kernel_rfl) (by kernel_rfl) (by kernel_rfl) (zW [] W) ?_;have hne:=xA [] W;have hS:=zW [] W;repeat(refine xW rfl ?_ ?_;(focus(simp only[z3];done));intro K hK;go_simp;refine hK _ ?_;clear hK K)
  refine gH ?_ ?_
  ·
    refine qA ?_ rfl ?_ ?_;(focus(exact hS));(focus(simp only[z3];done));intro K hK;go_simp;refine zZ (jE hS _) (fun hSn=>?_);refine hK _ _ ?_;clear hK K;replace hS:=hSn;clear hSn;refine gH ?_ ?_
    · have hs1:SlR (W.drew.alloc (.cells #[] 140)) AX nX 35 (X.map yH):=h1.kept hS (by simp);refine gE qO rfl rfl (Own.empty W.drew W.heap.size 140 35 (Nat.le_refl _)) rfl hs1 f1 (YF X) (by omega) (by omega) (by simp) ?_;intro A2 cap2 w2 hown2 hk2 hsub2;simp only[Nat.zero_add,List.nil_append]at hown2 |-;refine zZ (z4.trans hS hk2 (by simp[blk])) (fun hSn=>?_);replace hS:=hSn;clear hSn;refine qA ?_ rfl ?_ ?_;(focus(exact hS));(focus(simp only[z3];done));intro K hK;go_simp;refine zZ (jE hS _) (fun hSn=>?_);refine hK _ _ ?_;clear hK K;replace hS:=hSn;clear hSn;have hba:Below w2.heap.size w2 (w2.alloc (.cells (yH xr) 140)):=(Below.refl _ _).alloc (Nat.le_refl _) _;have hown3:=hown2.below hba;have hrow3:z9 (w2.alloc (.cells (yH xr) 140)) w2.heap.size 0 35=some (yH xr):=by simp[go_sem]
      have hsz:=hS.size;refine kO qO rfl rfl hown3 rfl hrow3 (jK _) (by omega) (by omega) hsz ?_;intro A3 cap3 w3 hown4 hk3 hsub3;refine zZ (z4.trans hS hk3 (fun x hx=>.inr ((hown2.at_base hx).1))) (fun hSn=>?_);replace hS:=hSn;clear hSn;repeat(refine xW rfl ?_ ?_;(focus(simp only[z3];done));intro K hK;go_simp;refine hK _ ?_;clear hK K)
      have hg3:w3.heap[g]? = some (.cells cs 78 (0,0)):=(hS.block g hgW (by simp)).trans hgx;have hc3:w3.cell? ⟨g,5,none⟩=some (.slice AX nX cX):=by rw[cell_of_row w3 g 5 _ _ _ hg3];exact hcs
      have hf3:w3.frozen? ⟨g,5,none⟩=false:=by simp[World.frozen?,hg3]
      refine bP rfl ?_ (by kernel_rfl) ?_;(focus(simp only[z3];done));intro K hK;go_simp;refine hK _ _ ?_;clear hK K;have hown5:=hown4.kept (z4.setCell w3 ⟨g,5,none⟩ (.slice A3 (nX+1) cap3)) (fun x hx=>by have:=(hown4.at_base hx).1;simp;omega);have hfin:(w3.setCell ⟨g,5,none⟩ (.slice A3 (nX+1) cap3)).heap[g]? = some (.cells (cs.setIfInBounds 5 (.slice A3 (nX+1) cap3)) 78 (0,0)):=zE hg3 5 _;have hrowsF:(X.map yH) ++ [yH xr]=(X ++ [xr]).map yH:=by simp
      have hown6:Own (w3.setCell ⟨g,5,none⟩ (.slice A3 (nX+1) cap3)) W.heap.size 140 35 A3 (nX+1) cap3 ((X ++ [xr]).map yH):=by rw[<-hrowsF];exact hown5
      have hkfin:z4 [g] W (w3.setCell ⟨g,5,none⟩ (.slice A3 (nX+1) cap3)):=z4.trans (hS.mono (S':=[g]) (by simp)) (z4.setCell w3 ⟨g,5,none⟩ _) (by simp);clear hown5 hown4 hown2 hown3 hS hg3 hc3 hf3 hk3 hk2 hsub3 hsub2 hrowsF;have hkS:=hkfin;have hp3:=hfin;rw[<-Hcse.out]at hp3;rw[<-HXe.out,Hxr.out]at hown6;have hfin4:v7 (w3.setCell ⟨g,5,none⟩ (.slice A3 (nX+1) cap3)) g t I (d6 m ⟨4,n,key,val,ref,refs⟩ x):=HX.out.set (sl':=⟨A3,nX+1,cap3⟩) hkS hp3 (fun h=>h.keep hkS) (fun h=>h.keep hkS) (fun h=>h.keep hkS) (fun _=>⟨hown6.slw,fun hx=>by have:=(hown6.at_base hx).1;have:=HgW.out;omega⟩) (fun h=>h.keep hkS) (fun h=>h.keep hkS) (fun h=>h.keep hkS) (fun h=>h.keep hkS);have hkf:=gD HbK.out hkfin;clear hown6 hp3 hfin hkS hkfin q0 p1 p2 p3 p5;(go_wp2_with fail);go_end0;exact⟨rfl,hfin4,hkf⟩
    ·
      refine qA ?_ rfl ?_ ?_;(focus(exact hS));(focus(simp only[z3];done));intro K hK;go_simp;refine zZ (jE hS _) (fun hSn=>?_);refine hK _ _ ?_;clear hK K;replace hS:=hSn;clear hSn;have hs1:SlR ((W.drew.alloc (.cells #[] 140)).alloc (.cells (yH xr) 140)) AX nX 35 (X.map yH):=h1.kept hS (by simp);have hown0:=(Own.empty W.drew W.heap.size 140 35 (Nat.le_refl _)).below ((Below.refl _ _).alloc (Nat.le_refl _) (.cells (yH xr) 140));refine gE qO rfl rfl hown0 rfl hs1 f1 (YF X) (by omega) (by omega) (by simp;omega) ?_;intro A2 cap2 w2 hown2 hk2 hsub2;simp only[Nat.zero_add,List.nil_append]at hown2 |-;refine zZ (z4.trans hS hk2 (by simp[blk])) (fun hSn=>?_);replace hS:=hSn;clear hSn;have hown3:=hown2;have hrow3:z9 w2 (W.heap.size+1) 0 35=some (yH xr):=(hk2.row (by simp) (by simp[blk]) 0 35).trans (by simp[go_sem]);have hsz:=hS.size;refine kO qO rfl rfl hown3 rfl hrow3 (jK _) (by omega) (by omega) hsz ?_;intro A3 cap3 w3 hown4 hk3 hsub3;refine zZ (z4.trans hS hk3 (fun x hx=>.inr ((hown2.at_base hx).1))) (fun hSn=>?_);replace hS:=hSn;clear hSn;repeat(refine xW rfl ?_ ?_;(focus(simp only[z3];done));intro K hK;go_simp;refine hK _ ?_;clear hK K)
      have hg3:w3.heap[g]? = some (.cells cs 78 (0,0)):=(hS.block g hgW (by simp)).trans hgx;have hc3:w3.cell? ⟨g,5,none⟩=some (.slice AX nX cX):=by rw[cell_of_row w3 g 5 _ _ _ hg3];exact hcs
      have hf3:w3.frozen? ⟨g,5,none⟩=false:=by simp[World.frozen?,hg3]
      refine bP rfl ?_ (by kernel_rfl) ?_;(focus(simp only[z3];done));intro K hK;go_simp;refine hK _ _ ?_;clear hK K;have hown5:=hown4.kept (z4.setCell w3 ⟨g,5,none⟩ (.slice A3 (nX+1) cap3)) (fun x hx=>by have:=(hown4.at_base hx).1;simp;omega);have hfin:(w3.setCell ⟨g,5,none⟩ (.slice A3 (nX+1) cap3)).heap[g]? = some (.cells (cs.setIfInBounds 5 (.slice A3 (nX+1) cap3)) 78 (0,0)):=zE hg3 5 _;have hrowsF:(X.map yH) ++ [yH xr]=(X ++ [xr]).map yH:=by simp
      have hown6:Own (w3.setCell ⟨g,5,none⟩ (.slice A3 (nX+1) cap3)) W.heap.size 140 35 A3 (nX+1) cap3 ((X ++ [xr]).map yH):=by rw[<-hrowsF];exact hown5
      have hkfin:z4 [g] W (w3.setCell ⟨g,5,none⟩ (.slice A3 (nX+1) cap3)):=z4.trans (hS.mono (S':=[g]) (by simp)) (z4.setCell w3 ⟨g,5,none⟩ _) (by simp);clear hown5 hown4 hown2 hown3 hS hg3 hc3 hf3 hk3 hk2 hsub3 hsub2 hrowsF;have hkS:=hkfin;have hp3:=hfin;rw[<-Hcse.out]at hp3;rw[<-HXe.out,Hxr.out]at hown6;have hfin4:v7 (w3.setCell ⟨g,5,none⟩ (.slice A3 (nX+1) cap3)) g t I (d6 m ⟨4,n,key,val,ref,refs⟩ x):=HX.out.set (sl':=⟨A3,nX+1,cap3⟩) hkS hp3 (fun h=>h.keep hkS) (fun h=>h.keep hkS) (fun h=>h.keep hkS) (fun _=>⟨hown6.slw,fun hx=>by have:=(hown6.at_base hx).1;have:=HgW.out;omega⟩) (fun h=>h.keep hkS) (fun h=>h.keep hkS) (fun h=>h.keep hkS) (fun h=>h.keep hkS);have hkf:=gD HbK.out hkfin;clear hown6 hp3 hfin hkS hkfin q0 p1 p2 p3 p5;(go_wp2_with fail);go_end0;exact⟨rfl,hfin4,hkf⟩
  ·
    refine qA ?_ rfl ?_ ?_;(focus(exact hS));(focus(simp only[z3];done));intro K hK;go_simp;refine zZ (jE hS _) (fun hSn=>?_);refine hK _ _ ?_;clear hK K;replace hS:=hSn;clear hSn;refine qA ?_ rfl ?_ ?_;(focus(exact hS));(focus(simp only[z3];done));intro K hK;go_simp;refine zZ (jE hS _) (fun hSn=>?_);refine hK _ _ ?_;clear hK K;replace hS:=hSn;clear hSn;have hs1:SlR ((W.drew.alloc (.cells (yH xr) 140)).alloc (.cells #[] 140)) AX nX 35 (X.map yH):=h1.kept hS (by simp);have hown0:Own ((W.drew.alloc (.cells (yH xr) 140)).alloc (.cells #[] 140)) W.heap.size 140 35 (some ⟨W.heap.size+1,0,none⟩) 0 0 []:=by
      have:=Own.empty (W.drew.alloc (.cells (yH xr) 140)) W.heap.size 140 35 (by simp);simpa using this
    refine gE qO rfl rfl hown0 rfl hs1 f1 (YF X) (by omega) (by omega) (by simp;omega) ?_;intro A2 cap2 w2 hown2 hk2 hsub2;simp only[Nat.zero_add,List.nil_append]at hown2 |-;refine zZ (z4.trans hS hk2 (by simp[blk])) (fun hSn=>?_);replace hS:=hSn;clear hSn;have hown3:=hown2;have hrow3:z9 w2 W.heap.size 0 35=some (yH xr):=(hk2.row (by simp;omega) (by simp[blk]) 0 35).trans (by simp[go_sem]);have hsz:=hS.size;refine kO qO rfl rfl hown3 rfl hrow3 (jK _) (by omega) (by omega) hsz ?_;intro A3 cap3 w3 hown4 hk3 hsub3;refine zZ (z4.trans hS hk3 (fun x hx=>.inr ((hown2.at_base hx).1))) (fun hSn=>?_);replace hS:=hSn;clear hSn;repeat(refine xW rfl ?_ ?_;(focus(simp only[z3];done));intro K hK;go_simp;refine hK _ ?_;clear hK K)
    have hg3:w3.heap[g]? = some (.cells cs 78 (0,0)):=(hS.block g hgW (by simp)).trans hgx;have hc3:w3.cell? ⟨g,5,none⟩=some (.slice AX nX cX):=by rw[cell_of_row w3 g 5 _ _ _ hg3];exact hcs
    have hf3:w3.frozen? ⟨g,5,none⟩=false:=by simp[World.frozen?,hg3]
    refine bP rfl ?_ (by kernel_rfl) ?_;(focus(simp only[z3];done));intro K hK;go_simp;refine hK _ _ ?_;clear hK K;have hown5:=hown4.kept (z4.setCell w3 ⟨g,5,none⟩ (.slice A3 (nX+1) cap3)) (fun x hx=>by have:=(hown4.at_base hx).1;simp;omega);have hfin:(w3.setCell ⟨g,5,none⟩ (.slice A3 (nX+1) cap3)).heap[g]? = some (.cells (cs.setIfInBounds 5 (.slice A3 (nX+1) cap3)) 78 (0,0)):=zE hg3 5 _;have hrowsF:(X.map yH) ++ [yH xr]=(X ++ [xr]).map yH:=by simp
    have hown6:Own (w3.setCell ⟨g,5,none⟩ (.slice A3 (nX+1) cap3)) W.heap.size 140 35 A3 (nX+1) cap3 ((X ++ [xr]).map yH):=by rw[<-hrowsF];exact hown5
    have hkfin:z4 [g] W (w3.setCell ⟨g,5,none⟩ (.slice A3 (nX+1) cap3)):=z4.trans (hS.mono (S':=[g]) (by simp)) (z4.setCell w3 ⟨g,5,none⟩ _) (by simp);clear hown5 hown4 hown2 hown3 hS hg3 hc3 hf3 hk3 hk2 hsub3 hsub2 hrowsF;have hkS:=hkfin;have hp3:=hfin;rw[<-Hcse.out]at hp3;rw[<-HXe.out,Hxr.out]at hown6;have hfin4:v7 (w3.setCell ⟨g,5,none⟩ (.slice A3 (nX+1) cap3)) g t I (d6 m ⟨4,n,key,val,ref,refs⟩ x):=HX.out.set (sl':=⟨A3,nX+1,cap3⟩) hkS hp3 (fun h=>h.keep hkS) (fun h=>h.keep hkS) (fun h=>h.keep hkS) (fun _=>⟨hown6.slw,fun hx=>by have:=(hown6.at_base hx).1;have:=HgW.out;omega⟩) (fun h=>h.keep hkS) (fun h=>h.keep hkS) (fun h=>h.keep hkS) (fun h=>h.keep hkS);have hkf:=gD HbK.out hkfin;clear hown6 hp3 hfin hkS hkfin q0 p1 p2 p3 p5;(go_wp2_with fail);go_end0;exact⟨rfl,hfin4,hkf⟩
def xK (k:Nat):ByteArray:=if k=1 then⟨#[78]⟩ else if k=2 then⟨#[86]⟩ else if k=3 then⟨#[86,83]⟩ else if k=4 then⟨#[75,86,78]⟩ else if k=5 then⟨#[75,86,83]⟩ else if k=6 then⟨#[82,86]⟩ else if k=7 then⟨#[82]⟩ else⟨#[]⟩
theorem gA (k:Nat) (w:World) (hk:k<=9223372036854775807):Calls Tryz.prog 69 #[.int .i64 k] w fun e w'=>e = .returned (.string (xK k))/\w=w':=by
  by_cases h:k<=7
  · have h8:k=0\/k=1\/k=2\/k=3\/k=4\/k=5\/k=6\/k=7:=by omega
    rcases h8 with rfl | rfl | rfl | rfl | rfl | rfl | rfl | rfl
    all_goals
      go_enter Tryz.func69,Tryz.ntmps69
      (go_wp2_with fail);go_ret;exact⟨rfl,rfl⟩
  · have hs:xK k=⟨#[]⟩:=by unfold xK;rw[if_neg (by omega),if_neg (by omega),if_neg (by omega),if_neg (by omega),if_neg (by omega),if_neg (by omega),if_neg (by omega)]
    have Hs:=Lib.hid hs;have h1:((k:Int)==1)=false:=by simp;omega
    have h2:((k:Int)==2)=false:=by simp;omega
    have h3:((k:Int)==3)=false:=by simp;omega
    have h4:((k:Int)==4)=false:=by simp;omega
    have h5:((k:Int)==5)=false:=by simp;omega
    have h6:((k:Int)==6)=false:=by simp;omega
    have h7:((k:Int)==7)=false:=by simp;omega
    clear hs h;go_enter Tryz.func69,Tryz.ntmps69
    (go_wp2_with fail);go_ret;exact⟨by rw[Hs.out];rfl,rfl⟩
theorem XR (k:Nat) (w:World) (hk:k<=9223372036854775807):Calls Tryz.prog 43 #[.int .i64 k] w fun e w'=>e = .returned (.int .i64 (k7 k))/\w=w':=by
  have hb:k7 k=if k=1 then 1 else if k=2\/k=3 then 2 else if k=4 then 3 else if k=5 then 4 else if k=6\/k=7 then 5 else 0:=rfl;have Hb:=Lib.hid hb;clear hb;go_enter Tryz.func43,Tryz.ntmps43
  go_wp2_with fail
  all_goals
    go_ret;exact⟨yB (by rw[Hb.out];simp at *;omega),rfl⟩
section
open Go.RowKit
structure OfS where
  n:Int
  key:ByteArray
  val:ByteArray
  ref:zJ
  refs:List zJ
  l:List UInt8
  e:Int
def ofS0 (l:List UInt8) (e:Int):OfS:=⟨0,⟨#[]⟩,⟨#[]⟩,id0,[],l,e⟩
def mW (N:Nat) (s:iQ):iQ:=kB N s
def gQ (k:Nat) (s:OfS) (c:UInt8):OfS :=
  if c=78 then⟨if k=1 then(xO 4 s.l s.e:Int)-2147483648 else(xO 4 s.l s.e:Int),s.key,s.val,s.ref,s.refs,yS 4 s.l s.e,xF 4 s.l s.e⟩
  else if c=75 then⟨s.n,txV s.l s.e,s.val,s.ref,s.refs,txL s.l s.e,txE s.l s.e⟩
  else if c=86 then⟨s.n,s.key,txV s.l s.e,s.ref,s.refs,txL s.l s.e,txE s.l s.e⟩
  else if c=82 then⟨s.n,s.key,s.val,kS (jL 32 s.l s.e),s.refs,yS 32 s.l s.e,xF 32 s.l s.e⟩
  else⟨s.n,s.key,s.val,s.ref,(mW (xO 1 s.l s.e) ⟨s.refs,yS 1 s.l s.e,xF 1 s.l s.e⟩).ids,(mW (xO 1 s.l s.e) ⟨s.refs,yS 1 s.l s.e,xF 1 s.l s.e⟩).l,(mW (xO 1 s.l s.e) ⟨s.refs,yS 1 s.l s.e,xF 1 s.l s.e⟩).e⟩
section
variable (k:Nat) (n:Int) (key val:ByteArray) (ref:zJ) (refs:List zJ) (l:List UInt8) (e:Int)
theorem of_78:gQ k ⟨n,key,val,ref,refs,l,e⟩ 78=⟨if k=1 then(xO 4 l e:Int)-2147483648 else(xO 4 l e:Int),key,val,ref,refs,yS 4 l e,xF 4 l e⟩:=rfl
theorem of_75:gQ k ⟨n,key,val,ref,refs,l,e⟩ 75=⟨n,txV l e,val,ref,refs,txL l e,txE l e⟩:=rfl
theorem of_86:gQ k ⟨n,key,val,ref,refs,l,e⟩ 86=⟨n,key,txV l e,ref,refs,txL l e,txE l e⟩:=rfl
theorem of_82:gQ k ⟨n,key,val,ref,refs,l,e⟩ 82=⟨n,key,val,kS (jL 32 l e),refs,yS 32 l e,xF 32 l e⟩:=rfl
theorem of_83:gQ k ⟨n,key,val,ref,refs,l,e⟩ 83=⟨n,key,val,ref,(mW (xO 1 l e) ⟨refs,yS 1 l e,xF 1 l e⟩).ids,(mW (xO 1 l e) ⟨refs,yS 1 l e,xF 1 l e⟩).l,(mW (xO 1 l e) ⟨refs,yS 1 l e,xF 1 l e⟩).e⟩:=rfl
end
def OfS.op (k:Nat) (s:OfS):OpR:=⟨⟨k,s.n,s.key,s.val,s.ref,s.refs⟩,s.l,s.e⟩
theorem of_run (k:Nat) (l:List UInt8) (e:Int) (h1:1<=k) (h7:k<=7):((xK k).data.toList.foldl (gQ k) (ofS0 l e)).op k=yT k l e:=by
  have h:k=1\/k=2\/k=3\/k=4\/k=5\/k=6\/k=7:=by omega
  rcases h with rfl | rfl | rfl | rfl | rfl | rfl | rfl <;> rfl
theorem has_size (k:Nat):(xK k).size<=3:=by
  unfold xK
  repeat' split
  all_goals decide
theorem qb (k:Nat):∀c∈(xK k).data.toList,c=78\/c=75\/c=86\/c=82\/c=83:=by
  unfold xK
  repeat' split
  all_goals decide
theorem ZG (k:Nat):(xK k).toList.isEmpty=decide (k=0\/7<k):=by
  rw[ByteArray.toList_eq];by_cases h:k<=7
  · have h8:k=0\/k=1\/k=2\/k=3\/k=4\/k=5\/k=6\/k=7:=by omega
    rcases h8 with rfl | rfl | rfl | rfl | rfl | rfl | rfl | rfl <;> rfl
  · have hs:xK k=⟨#[]⟩:=by unfold xK;rw[if_neg (by omega),if_neg (by omega),if_neg (by omega),if_neg (by omega),if_neg (by omega),if_neg (by omega),if_neg (by omega)]
    rw[hs,decide_eq_true (by omega)];rfl
theorem JR (k:Nat) (l:List UInt8) (e:Int) (h1:1<=k) (h7:k<=7):(yT k l e).o.key.size<=9223372036854775807/\(yT k l e).o.val.size<=9223372036854775807:=by
  have hz:(⟨#[]⟩:ByteArray).size=0:=rfl;have ht:=fun l e=>jo l e;have h:k=1\/k=2\/k=3\/k=4\/k=5\/k=6\/k=7:=by omega
  rcases h with rfl | rfl | rfl | rfl | rfl | rfl | rfl
  · exact⟨by show(⟨#[]⟩:ByteArray).size<=_;omega,by show(⟨#[]⟩:ByteArray).size<=_;omega⟩
  · exact⟨by show(⟨#[]⟩:ByteArray).size<=_;omega,Nat.le_trans (ht _ _) (by omega)⟩
  · exact⟨by show(⟨#[]⟩:ByteArray).size<=_;omega,Nat.le_trans (ht _ _) (by omega)⟩
  · exact⟨Nat.le_trans (ht _ _) (by omega),Nat.le_trans (ht _ _) (by omega)⟩
  · exact⟨Nat.le_trans (ht _ _) (by omega),Nat.le_trans (ht _ _) (by omega)⟩
  · exact⟨by show(⟨#[]⟩:ByteArray).size<=_;omega,Nat.le_trans (ht _ _) (by omega)⟩
  · exact⟨by show(⟨#[]⟩:ByteArray).size<=_;omega,by show(⟨#[]⟩:ByteArray).size<=_;omega⟩
end
theorem zw (w:World) (A B:Option Addr) (n m cap cap':Nat) (X Y:List zJ) (hx:y8 w A n X) (hy:y8 w B m Y) (hn:n<=1000000) (hm:m<=1000000) :
    Calls Tryz.prog 100 #[.slice A n cap,.slice B m cap'] w fun e w'=>e = .returned (.bool (decide (X=Y)))/\Below w.heap.size w w':=by
  have hlx:=hx.len;have hly:=hy.len;have Hlx:=Lib.hid hlx;have Hly:=Lib.hid hly;by_cases hnm:n=m
  · subst hnm;clear hlx hly;go_enter Tryz.func100,Tryz.ntmps100
    (go_wp2_with fail);go_loopw [5] (fun i wr=>∃k:Nat,k<=n/\i = .int .i64 k/\Hid (X.take k=Y.take k)/\Below w.heap.size w wr) (fun i _=>n-(intOf i).toNat)
    case atStart=>exact⟨0,Nat.zero_le _,rfl,rfl,Below.refl _ _⟩
    case round =>
      obtain⟨k,hk,rfl,heq,hb⟩:=hrel;by_cases hlt:k<n
      · obtain⟨q,o,rfl,hr⟩:=y8.get (SlR.below hx hb) hlt (by rw[Hlx.out];exact hlt);obtain⟨q2,o2,rfl,hr2⟩:=y8.get (SlR.below hy hb) hlt (by rw[Hly.out];exact hlt);have hX:X.take (k+1)=X.take k ++ [X[k]'(by rw[Hlx.out];exact hlt)]:=by rw[List.take_add_one,List.getElem?_eq_getElem (by rw[Hlx.out];exact hlt)];rfl
        have hY:Y.take (k+1)=Y.take k ++ [Y[k]'(by rw[Hly.out];exact hlt)]:=by rw[List.take_add_one,List.getElem?_eq_getElem (by rw[Hly.out];exact hlt)];rfl
        obtain⟨x,hx'⟩:∃x,X[k]'(by rw[Hlx.out];exact hlt)=x:=⟨_,rfl⟩
        obtain⟨y,hy'⟩:∃y,Y[k]'(by rw[Hly.out];exact hlt)=y:=⟨_,rfl⟩
        rw[hx']at hr hX;rw[hy']at hr2 hY;have HX:=Lib.hid hX;have HY:=Lib.hid hY;clear hX hY;have HX':=Lib.hid hx';have HY':=Lib.hid hy';clear hx' hy';go_upto_region 6 with fail
        refine zA (Bel wr) false (by kernel_rfl) (by kernel_rfl) (by kernel_rfl) (zC wr) ?_;have hne:=zQ wr;have hS:=zC wr;have b1:=zY hr;have b2:=zY hr2;repeat(refine z6 ?_ ?_;(focus(simp only[z3];done));intro K hK;go_simp;refine hK _ ?_;clear hK K)
        refine zK ?_;intro hS;clear hne hS b1 b2 hr hr2;have hb':Below w.heap.size w wr.drew:=hb.drew;cases hpe:(x==y)with
        | true =>
          have e:=beq_iff_eq.1 hpe;have E:=Lib.hid e;clear e;(go_wp2_with fail);go_roundw
          case rel=>exact⟨k+1,by omega,by go_num,(show X.take (k+1)=Y.take (k+1) by rw[HX.out,HY.out,heq.out,E.out]),hb'⟩
          case measure=>simp[intOf];omega
        | false =>
          have hne:X≠Y:=by
            intro e;subst e;have:x=y:=HX'.out.symm.trans HY'.out;rw[beq_iff_eq.2 this]at hpe;cases hpe
          have hd:=Lib.hid (decide_eq_false hne);clear hne;(go_wp2_with fail);go_ret;exact⟨zS (by rw[hd.out]),hb'⟩
      · have hkn:k=n:=by omega
        have e:X=Y:=by
          have:=heq.out
          rwa [List.take_of_length_le (by rw[Hlx.out];omega),List.take_of_length_le (by rw[Hly.out];omega)]at this
        have E:=Lib.hid (decide_eq_true e);clear e hkn;(go_wp2_with fail);go_ret;exact⟨zS (by rw[E.out]),hb⟩
  · have hne:X≠Y:=by intro e;subst e;exact hnm (hlx.symm.trans hly)
    have hd:=Lib.hid (decide_eq_false hne);have hnm2:(n==m)=false:=by simpa using hnm
    have hnm3:((n:Int)==(m:Int))=false:=by rw[beq_eq_false_iff_ne];omega
    clear hlx hly hne;go_enter Tryz.func100,Tryz.ntmps100
    (go_wp2_with fail);go_ret;exact⟨zS (by rw[hd.out]),Below.refl _ _⟩
theorem vp (R:List zJ):decide (R=yF zO R)=bN R:=by
  rw[Bool.eq_iff_iff,decide_eq_true_eq,KX];exact⟨fun h=>by rw[h];exact xE qP R,fun h=>(pQ qP h).symm⟩
theorem V5 (w:World) (A:Option Addr) (n cap:Nat) (R:List zJ) (h:y8 w A n R) (hn:n<=1000000) :
    Calls Tryz.prog 62 #[.slice A n cap] w fun e w'=>e = .returned (.bool (bN R))/\Below w.heap.size w w':=by
  have hlen:=h.len;have hsl:=qF (c:=zO) R;rw[hlen]at hsl;have c1:=rset w A n cap R h hn;have c2:=fun w1 (hb:Below w.heap.size w w1) A' cap' (hs:iP w1 A' (yF zO R).length cap' (yF zO R))=>zw w1 A A' n (yF zO R).length cap cap' R (yF zO R) (SlR.below h hb) hs.rd hn (by omega);have Hs:=Lib.hid (vp R);clear hlen hsl;go_enter Tryz.func62,Tryz.ntmps62
  (go_wp2_with fail);refine c1.mono ?_;rintro e w1 ⟨A',cap',rfl,hs,_,hb1⟩;(go_wp2_with fail);refine(c2 w1 hb1 A' cap' hs).mono ?_;rintro e w2 ⟨rfl,hb2⟩;(go_wp2_with fail);go_ret;exact⟨zS (by rw[Hs.out]),xM hb1 hb2⟩
def inB (s:ByteArray) (c:Int):Bool:=s.data.toList.any fun b=>((b.toNat:Int)==c)
theorem qC (s:ByteArray) (c:Int) (w:World) (hs:s.size<=9223372036854775807):Calls Tryz.prog 107 #[.string s,.int .u8 c] w fun e w'=>e = .returned (.bool (inB s c))/\w=w':=by
  have hlen:s.data.toList.length=s.size:=Array.length_toList;have hin:inB s c=(s.data.toList.drop 0).any fun b=>((b.toNat:Int)==c):=rfl;have Hin:=Lib.hid hin;clear hin;go_enter Tryz.func107,Tryz.ntmps107
  (go_wp2_with fail);go_loopw [5] (fun i wr=>∃k:Nat,k<=s.size/\i = .int .i64 k/\wr=w/\Hid (inB s c=(s.data.toList.drop k).any fun b=>((b.toNat:Int)==c))) (fun i _=>s.size-(intOf i).toNat)
  case atStart=>exact⟨0,Nat.zero_le _,rfl,rfl,Hin⟩
  case round =>
    obtain⟨k,hk,rfl,rfl,hd⟩:=hrel;by_cases hlt:k<s.size
    · have hg:s.data.toList.drop k=s[k]'hlt :: s.data.toList.drop (k+1):=by
        rw[List.drop_eq_getElem_cons (show k<s.data.toList.length by rw[hlen];exact hlt)];rfl
      have hd2:=hd.out;rw[hg,List.any_cons]at hd2;obtain⟨b,hb⟩:∃b,s[k]'hlt=b:=⟨_,rfl⟩
      rw[hb]at hd2;cases hc:((b.toNat:Int)==c)with
      | true =>
        rw[hc,Bool.true_or]at hd2;have Hd:=Lib.hid hd2;clear hd hd2 hg;(go_wp2_with fail);go_ret;exact⟨zS (by rw[Hd.out]),rfl⟩
      | false =>
        rw[hc,Bool.false_or]at hd2;have Hd:=Lib.hid hd2;clear hd hd2 hg;(go_wp2_with fail);go_roundw
        case rel=>exact⟨k+1,by omega,by go_num,trivial,Hd⟩
        case measure=>simp[intOf];omega
    · have hd2:=hd.out;rw[List.drop_eq_nil_of_le (by rw[hlen];omega)]at hd2;have Hd:=Lib.hid hd2;clear hd hd2;(go_wp2_with fail);go_ret;exact⟨zS (by rw[Hd.out];rfl),rfl⟩
theorem zz (o:OpV) (A:Option Addr) (c:Nat) (w:World) (h:gL o) (hT:y8 w A o.refs.length o.refs) (hl:o.refs.length<=1000000) (hks:o.key.size<=9223372036854775807) (hvs:o.val.size<=9223372036854775807) :
    Calls Tryz.prog 73 #[.agg (opC o A c)] w fun e w'=>e = .returned (.int .i64 (YW o))/\Below w.heap.size w w':=by
  have hT0:y8 (w.alloc (.cells (opC o A c) 105)) A o.refs.length o.refs:=SlR.below hT ((Below.refl _ _).alloc (Nat.le_refl _) _);have hck:YW o=if 16<o.key.size\/16<o.val.size then 3 else if aB o=false then 5 else if 8<o.refs.length then 6 else if bN o.refs=false then 4 else 0:=rfl;have hno:aB o=(!(decide (o.k=4)&&decide (o.n<0))&&(decide (o.n<2147483648)&&decide (-2147483648<=o.n))):=rfl;obtain⟨rb,hrb⟩:∃rb,bN o.refs=rb:=⟨_,rfl⟩
  rw[hrb]at hck;rw[hno]at hck;obtain⟨k,n,key,val,ref,refs⟩:=o;unfold opC at hT0 |-;unfold gL at h;dsimp only at *;have Hck:=Lib.hid hck;have Hrb:=Lib.hid hrb;clear hck hno hrb hT;rcases h with⟨rfl,rfl,rfl,rfl,rfl⟩ | ⟨rfl,rfl,rfl,rfl,rfl⟩ | ⟨rfl,rfl,rfl,rfl⟩ | ⟨rfl,rfl,rfl⟩ | ⟨rfl,rfl,rfl⟩ | ⟨rfl,rfl,rfl,rfl⟩ | ⟨rfl,rfl,rfl,rfl,rfl⟩
  · show Calls Tryz.prog 73 #[.agg (zD ⟨1,n,⟨#[]⟩,⟨#[]⟩,id0,.slice A 0 c⟩)] w _;change y8 (w.alloc (.cells (zD ⟨1,n,⟨#[]⟩,⟨#[]⟩,id0,.slice A 0 c⟩) 105)) A 0 []at hT0;have hB:Below w.heap.size w (w.alloc (.cells (zD ⟨1,n,⟨#[]⟩,⟨#[]⟩,id0,.slice A 0 c⟩) 105)):=(Below.refl _ _).alloc (Nat.le_refl _) _;have hr:z9 (w.alloc (.cells (zD ⟨1,n,⟨#[]⟩,⟨#[]⟩,id0,.slice A 0 c⟩) 105)) w.heap.size 0 37=some (zD ⟨1,n,⟨#[]⟩,⟨#[]⟩,id0,.slice A 0 c⟩):=by simp[go_sem]
    have x0:=z8 hr (j:=0) (by omega);have x1:=z8 hr (j:=1) (by omega);have x2:=z8 hr (j:=2) (by omega);have x3:=z8 hr (j:=3) (by omega);have x5:=z8 hr (j:=36) (by omega);have x4:=zV hr (j:=4) (m:=32) (by omega);simp only[qH,qW,qV,qU,xX,jB,Nat.zero_add]at x0 x1 x2 x3 x4 x5;have c1:=gA 1 (w.alloc (.cells (zD ⟨1,n,⟨#[]⟩,⟨#[]⟩,id0,.slice A 0 c⟩) 105)) (by omega);have i1:=qC (xK 1) 78 (w.alloc (.cells (zD ⟨1,n,⟨#[]⟩,⟨#[]⟩,id0,.slice A 0 c⟩) 105)) (by decide);have i2:=qC (xK 1) 75 (w.alloc (.cells (zD ⟨1,n,⟨#[]⟩,⟨#[]⟩,id0,.slice A 0 c⟩) 105)) (by decide);have i3:=qC (xK 1) 86 (w.alloc (.cells (zD ⟨1,n,⟨#[]⟩,⟨#[]⟩,id0,.slice A 0 c⟩) 105)) (by decide);have i4:=qC (xK 1) 82 (w.alloc (.cells (zD ⟨1,n,⟨#[]⟩,⟨#[]⟩,id0,.slice A 0 c⟩) 105)) (by decide);have i5:=qC (xK 1) 83 (w.alloc (.cells (zD ⟨1,n,⟨#[]⟩,⟨#[]⟩,id0,.slice A 0 c⟩) 105)) (by decide);rw[show inB (xK 1) 78=true by decide +kernel]at i1;rw[show inB (xK 1) 75=false by decide +kernel]at i2;rw[show inB (xK 1) 86=false by decide +kernel]at i3;rw[show inB (xK 1) 82=false by decide +kernel]at i4;rw[show inB (xK 1) 83=false by decide +kernel]at i5;rw[show xK 1=⟨#[78]⟩ from rfl]at c1 i1 i2 i3 i4 i5;clear hr;go_enter Tryz.func73,Tryz.ntmps73
    go_upto_region 1 with fail
    obtain⟨ga,hga⟩:∃ga,w.heap.size=ga:=⟨_,rfl⟩
    have Hga:=Lib.hid hga;rw[hga]at x0 x1 x2 x3 x4 x5 hB |-;obtain⟨W,hW⟩:∃W,W=w.alloc (.cells (zD ⟨1,n,⟨#[]⟩,⟨#[]⟩,id0,.slice A 0 c⟩) 105):=⟨_,rfl⟩
    rw[<-hW]at x0 x1 x2 x3 x4 x5 hB c1 i1 i2 i3 i4 i5 hT0 |-;clear hW hga;(go_wp2_with fail);refine c1.mono ?_;rintro e w1 ⟨rfl,rfl⟩;(go_wp2_with fail);refine i1.mono ?_;rintro e w1 ⟨rfl,rfl⟩;(go_wp2_with fail);refine i2.mono ?_;rintro e w1 ⟨rfl,rfl⟩;(go_wp2_with fail);refine i3.mono ?_;rintro e w1 ⟨rfl,rfl⟩;(go_wp2_with fail);refine i4.mono ?_;rintro e w1 ⟨rfl,rfl⟩;(go_wp2_with fail);refine i5.mono ?_;rintro e w1 ⟨rfl,rfl⟩;clear c1 i1 i2 i3 i4 i5;have cis:=V5 W A _ c _ hT0 hl;rw[Hrb.out]at cis;rw[<-Hga.out]at hB;go_wp2_with fail
    all_goals
      first
      | (go_ret;exact⟨yB (by rw[Hck.out];(try simp only[emptyS,List.length_nil]at *);(repeat' split) <;> (first | rfl | omega | (simp_all;done) | (simp_all;omega))),hB⟩)
      | (refine cis.mono ?_;rintro e w2 ⟨rfl,hb2⟩
         have hBB:=xM hB hb2;clear hT0 cis x0 x1 x2 x3 x4 x5 hb2;cases rb <;> (go_wp2_with fail;go_ret;exact⟨yB (by rw[Hck.out];(try simp only[emptyS,List.length_nil]at *);(repeat' split) <;> (first | rfl | omega | (simp_all;done) | (simp_all;omega))),hBB⟩))
  · show Calls Tryz.prog 73 #[.agg (zD ⟨2,0,⟨#[]⟩,val,id0,.slice A 0 c⟩)] w _;change y8 (w.alloc (.cells (zD ⟨2,0,⟨#[]⟩,val,id0,.slice A 0 c⟩) 105)) A 0 []at hT0;have hB:Below w.heap.size w (w.alloc (.cells (zD ⟨2,0,⟨#[]⟩,val,id0,.slice A 0 c⟩) 105)):=(Below.refl _ _).alloc (Nat.le_refl _) _;have hr:z9 (w.alloc (.cells (zD ⟨2,0,⟨#[]⟩,val,id0,.slice A 0 c⟩) 105)) w.heap.size 0 37=some (zD ⟨2,0,⟨#[]⟩,val,id0,.slice A 0 c⟩):=by simp[go_sem]
    have x0:=z8 hr (j:=0) (by omega);have x1:=z8 hr (j:=1) (by omega);have x2:=z8 hr (j:=2) (by omega);have x3:=z8 hr (j:=3) (by omega);have x5:=z8 hr (j:=36) (by omega);have x4:=zV hr (j:=4) (m:=32) (by omega);simp only[qH,qW,qV,qU,xX,jB,Nat.zero_add]at x0 x1 x2 x3 x4 x5;have c1:=gA 2 (w.alloc (.cells (zD ⟨2,0,⟨#[]⟩,val,id0,.slice A 0 c⟩) 105)) (by omega);have i1:=qC (xK 2) 78 (w.alloc (.cells (zD ⟨2,0,⟨#[]⟩,val,id0,.slice A 0 c⟩) 105)) (by decide);have i2:=qC (xK 2) 75 (w.alloc (.cells (zD ⟨2,0,⟨#[]⟩,val,id0,.slice A 0 c⟩) 105)) (by decide);have i3:=qC (xK 2) 86 (w.alloc (.cells (zD ⟨2,0,⟨#[]⟩,val,id0,.slice A 0 c⟩) 105)) (by decide);have i4:=qC (xK 2) 82 (w.alloc (.cells (zD ⟨2,0,⟨#[]⟩,val,id0,.slice A 0 c⟩) 105)) (by decide);have i5:=qC (xK 2) 83 (w.alloc (.cells (zD ⟨2,0,⟨#[]⟩,val,id0,.slice A 0 c⟩) 105)) (by decide);rw[show inB (xK 2) 78=false by decide +kernel]at i1;rw[show inB (xK 2) 75=false by decide +kernel]at i2;rw[show inB (xK 2) 86=true by decide +kernel]at i3;rw[show inB (xK 2) 82=false by decide +kernel]at i4;rw[show inB (xK 2) 83=false by decide +kernel]at i5;rw[show xK 2=⟨#[86]⟩ from rfl]at c1 i1 i2 i3 i4 i5;clear hr;go_enter Tryz.func73,Tryz.ntmps73
    go_upto_region 1 with fail
    obtain⟨ga,hga⟩:∃ga,w.heap.size=ga:=⟨_,rfl⟩
    have Hga:=Lib.hid hga;rw[hga]at x0 x1 x2 x3 x4 x5 hB |-;obtain⟨W,hW⟩:∃W,W=w.alloc (.cells (zD ⟨2,0,⟨#[]⟩,val,id0,.slice A 0 c⟩) 105):=⟨_,rfl⟩
    rw[<-hW]at x0 x1 x2 x3 x4 x5 hB c1 i1 i2 i3 i4 i5 hT0 |-;clear hW hga;(go_wp2_with fail);refine c1.mono ?_;rintro e w1 ⟨rfl,rfl⟩;(go_wp2_with fail);refine i1.mono ?_;rintro e w1 ⟨rfl,rfl⟩;(go_wp2_with fail);refine i2.mono ?_;rintro e w1 ⟨rfl,rfl⟩;(go_wp2_with fail);refine i3.mono ?_;rintro e w1 ⟨rfl,rfl⟩;(go_wp2_with fail);refine i4.mono ?_;rintro e w1 ⟨rfl,rfl⟩;(go_wp2_with fail);refine i5.mono ?_;rintro e w1 ⟨rfl,rfl⟩;clear c1 i1 i2 i3 i4 i5;have cis:=V5 W A _ c _ hT0 hl;rw[Hrb.out]at cis;rw[<-Hga.out]at hB;go_wp2_with fail
    all_goals
      first
      | (go_ret;exact⟨yB (by rw[Hck.out];(try simp only[emptyS,List.length_nil]at *);(repeat' split) <;> (first | rfl | omega | (simp_all;done) | (simp_all;omega))),hB⟩)
      | (refine cis.mono ?_;rintro e w2 ⟨rfl,hb2⟩
         have hBB:=xM hB hb2;clear hT0 cis x0 x1 x2 x3 x4 x5 hb2;cases rb <;> (go_wp2_with fail;go_ret;exact⟨yB (by rw[Hck.out];(try simp only[emptyS,List.length_nil]at *);(repeat' split) <;> (first | rfl | omega | (simp_all;done) | (simp_all;omega))),hBB⟩))
  · show Calls Tryz.prog 73 #[.agg (zD ⟨3,0,⟨#[]⟩,val,id0,.slice A refs.length c⟩)] w _;change y8 (w.alloc (.cells (zD ⟨3,0,⟨#[]⟩,val,id0,.slice A refs.length c⟩) 105)) A refs.length refs at hT0;have hB:Below w.heap.size w (w.alloc (.cells (zD ⟨3,0,⟨#[]⟩,val,id0,.slice A refs.length c⟩) 105)):=(Below.refl _ _).alloc (Nat.le_refl _) _;have hr:z9 (w.alloc (.cells (zD ⟨3,0,⟨#[]⟩,val,id0,.slice A refs.length c⟩) 105)) w.heap.size 0 37=some (zD ⟨3,0,⟨#[]⟩,val,id0,.slice A refs.length c⟩):=by simp[go_sem]
    have x0:=z8 hr (j:=0) (by omega);have x1:=z8 hr (j:=1) (by omega);have x2:=z8 hr (j:=2) (by omega);have x3:=z8 hr (j:=3) (by omega);have x5:=z8 hr (j:=36) (by omega);have x4:=zV hr (j:=4) (m:=32) (by omega);simp only[qH,qW,qV,qU,xX,jB,Nat.zero_add]at x0 x1 x2 x3 x4 x5;have c1:=gA 3 (w.alloc (.cells (zD ⟨3,0,⟨#[]⟩,val,id0,.slice A refs.length c⟩) 105)) (by omega);have i1:=qC (xK 3) 78 (w.alloc (.cells (zD ⟨3,0,⟨#[]⟩,val,id0,.slice A refs.length c⟩) 105)) (by decide);have i2:=qC (xK 3) 75 (w.alloc (.cells (zD ⟨3,0,⟨#[]⟩,val,id0,.slice A refs.length c⟩) 105)) (by decide);have i3:=qC (xK 3) 86 (w.alloc (.cells (zD ⟨3,0,⟨#[]⟩,val,id0,.slice A refs.length c⟩) 105)) (by decide);have i4:=qC (xK 3) 82 (w.alloc (.cells (zD ⟨3,0,⟨#[]⟩,val,id0,.slice A refs.length c⟩) 105)) (by decide);have i5:=qC (xK 3) 83 (w.alloc (.cells (zD ⟨3,0,⟨#[]⟩,val,id0,.slice A refs.length c⟩) 105)) (by decide);rw[show inB (xK 3) 78=false by decide +kernel]at i1;rw[show inB (xK 3) 75=false by decide +kernel]at i2;rw[show inB (xK 3) 86=true by decide +kernel]at i3;rw[show inB (xK 3) 82=false by decide +kernel]at i4;rw[show inB (xK 3) 83=true by decide +kernel]at i5;rw[show xK 3=⟨#[86,83]⟩ from rfl]at c1 i1 i2 i3 i4 i5;clear hr;go_enter Tryz.func73,Tryz.ntmps73
    go_upto_region 1 with fail
    obtain⟨ga,hga⟩:∃ga,w.heap.size=ga:=⟨_,rfl⟩
    have Hga:=Lib.hid hga;rw[hga]at x0 x1 x2 x3 x4 x5 hB |-;obtain⟨W,hW⟩:∃W,W=w.alloc (.cells (zD ⟨3,0,⟨#[]⟩,val,id0,.slice A refs.length c⟩) 105):=⟨_,rfl⟩
    rw[<-hW]at x0 x1 x2 x3 x4 x5 hB c1 i1 i2 i3 i4 i5 hT0 |-;clear hW hga;(go_wp2_with fail);refine c1.mono ?_;rintro e w1 ⟨rfl,rfl⟩;(go_wp2_with fail);refine i1.mono ?_;rintro e w1 ⟨rfl,rfl⟩;(go_wp2_with fail);refine i2.mono ?_;rintro e w1 ⟨rfl,rfl⟩;(go_wp2_with fail);refine i3.mono ?_;rintro e w1 ⟨rfl,rfl⟩;(go_wp2_with fail);refine i4.mono ?_;rintro e w1 ⟨rfl,rfl⟩;(go_wp2_with fail);refine i5.mono ?_;rintro e w1 ⟨rfl,rfl⟩;clear c1 i1 i2 i3 i4 i5;have cis:=V5 W A _ c _ hT0 hl;rw[Hrb.out]at cis;rw[<-Hga.out]at hB;go_wp2_with fail
    all_goals
      first
      | (go_ret;exact⟨yB (by rw[Hck.out];(try simp only[emptyS,List.length_nil]at *);(repeat' split) <;> (first | rfl | omega | (simp_all;done) | (simp_all;omega))),hB⟩)
      | (refine cis.mono ?_;rintro e w2 ⟨rfl,hb2⟩
         have hBB:=xM hB hb2;clear hT0 cis x0 x1 x2 x3 x4 x5 hb2;cases rb <;> (go_wp2_with fail;go_ret;exact⟨yB (by rw[Hck.out];(try simp only[emptyS,List.length_nil]at *);(repeat' split) <;> (first | rfl | omega | (simp_all;done) | (simp_all;omega))),hBB⟩))
  · show Calls Tryz.prog 73 #[.agg (zD ⟨4,n,key,val,id0,.slice A 0 c⟩)] w _;change y8 (w.alloc (.cells (zD ⟨4,n,key,val,id0,.slice A 0 c⟩) 105)) A 0 []at hT0;have hB:Below w.heap.size w (w.alloc (.cells (zD ⟨4,n,key,val,id0,.slice A 0 c⟩) 105)):=(Below.refl _ _).alloc (Nat.le_refl _) _;have hr:z9 (w.alloc (.cells (zD ⟨4,n,key,val,id0,.slice A 0 c⟩) 105)) w.heap.size 0 37=some (zD ⟨4,n,key,val,id0,.slice A 0 c⟩):=by simp[go_sem]
    have x0:=z8 hr (j:=0) (by omega);have x1:=z8 hr (j:=1) (by omega);have x2:=z8 hr (j:=2) (by omega);have x3:=z8 hr (j:=3) (by omega);have x5:=z8 hr (j:=36) (by omega);have x4:=zV hr (j:=4) (m:=32) (by omega);simp only[qH,qW,qV,qU,xX,jB,Nat.zero_add]at x0 x1 x2 x3 x4 x5;have c1:=gA 4 (w.alloc (.cells (zD ⟨4,n,key,val,id0,.slice A 0 c⟩) 105)) (by omega);have i1:=qC (xK 4) 78 (w.alloc (.cells (zD ⟨4,n,key,val,id0,.slice A 0 c⟩) 105)) (by decide);have i2:=qC (xK 4) 75 (w.alloc (.cells (zD ⟨4,n,key,val,id0,.slice A 0 c⟩) 105)) (by decide);have i3:=qC (xK 4) 86 (w.alloc (.cells (zD ⟨4,n,key,val,id0,.slice A 0 c⟩) 105)) (by decide);have i4:=qC (xK 4) 82 (w.alloc (.cells (zD ⟨4,n,key,val,id0,.slice A 0 c⟩) 105)) (by decide);have i5:=qC (xK 4) 83 (w.alloc (.cells (zD ⟨4,n,key,val,id0,.slice A 0 c⟩) 105)) (by decide);rw[show inB (xK 4) 78=true by decide +kernel]at i1;rw[show inB (xK 4) 75=true by decide +kernel]at i2;rw[show inB (xK 4) 86=true by decide +kernel]at i3;rw[show inB (xK 4) 82=false by decide +kernel]at i4;rw[show inB (xK 4) 83=false by decide +kernel]at i5;rw[show xK 4=⟨#[75,86,78]⟩ from rfl]at c1 i1 i2 i3 i4 i5;clear hr;go_enter Tryz.func73,Tryz.ntmps73
    go_upto_region 1 with fail
    obtain⟨ga,hga⟩:∃ga,w.heap.size=ga:=⟨_,rfl⟩
    have Hga:=Lib.hid hga;rw[hga]at x0 x1 x2 x3 x4 x5 hB |-;obtain⟨W,hW⟩:∃W,W=w.alloc (.cells (zD ⟨4,n,key,val,id0,.slice A 0 c⟩) 105):=⟨_,rfl⟩
    rw[<-hW]at x0 x1 x2 x3 x4 x5 hB c1 i1 i2 i3 i4 i5 hT0 |-;clear hW hga;(go_wp2_with fail);refine c1.mono ?_;rintro e w1 ⟨rfl,rfl⟩;(go_wp2_with fail);refine i1.mono ?_;rintro e w1 ⟨rfl,rfl⟩;(go_wp2_with fail);refine i2.mono ?_;rintro e w1 ⟨rfl,rfl⟩;(go_wp2_with fail);refine i3.mono ?_;rintro e w1 ⟨rfl,rfl⟩;(go_wp2_with fail);refine i4.mono ?_;rintro e w1 ⟨rfl,rfl⟩;(go_wp2_with fail);refine i5.mono ?_;rintro e w1 ⟨rfl,rfl⟩;clear c1 i1 i2 i3 i4 i5;have cis:=V5 W A _ c _ hT0 hl;rw[Hrb.out]at cis;rw[<-Hga.out]at hB;go_wp2_with fail
    all_goals
      first
      | (go_ret;exact⟨yB (by rw[Hck.out];(try simp only[emptyS,List.length_nil]at *);(repeat' split) <;> (first | rfl | omega | (simp_all;done) | (simp_all;omega))),hB⟩)
      | (refine cis.mono ?_;rintro e w2 ⟨rfl,hb2⟩
         have hBB:=xM hB hb2;clear hT0 cis x0 x1 x2 x3 x4 x5 hb2;cases rb <;> (go_wp2_with fail;go_ret;exact⟨yB (by rw[Hck.out];(try simp only[emptyS,List.length_nil]at *);(repeat' split) <;> (first | rfl | omega | (simp_all;done) | (simp_all;omega))),hBB⟩))
  · show Calls Tryz.prog 73 #[.agg (zD ⟨5,0,key,val,id0,.slice A refs.length c⟩)] w _;change y8 (w.alloc (.cells (zD ⟨5,0,key,val,id0,.slice A refs.length c⟩) 105)) A refs.length refs at hT0;have hB:Below w.heap.size w (w.alloc (.cells (zD ⟨5,0,key,val,id0,.slice A refs.length c⟩) 105)):=(Below.refl _ _).alloc (Nat.le_refl _) _;have hr:z9 (w.alloc (.cells (zD ⟨5,0,key,val,id0,.slice A refs.length c⟩) 105)) w.heap.size 0 37=some (zD ⟨5,0,key,val,id0,.slice A refs.length c⟩):=by simp[go_sem]
    have x0:=z8 hr (j:=0) (by omega);have x1:=z8 hr (j:=1) (by omega);have x2:=z8 hr (j:=2) (by omega);have x3:=z8 hr (j:=3) (by omega);have x5:=z8 hr (j:=36) (by omega);have x4:=zV hr (j:=4) (m:=32) (by omega);simp only[qH,qW,qV,qU,xX,jB,Nat.zero_add]at x0 x1 x2 x3 x4 x5;have c1:=gA 5 (w.alloc (.cells (zD ⟨5,0,key,val,id0,.slice A refs.length c⟩) 105)) (by omega);have i1:=qC (xK 5) 78 (w.alloc (.cells (zD ⟨5,0,key,val,id0,.slice A refs.length c⟩) 105)) (by decide);have i2:=qC (xK 5) 75 (w.alloc (.cells (zD ⟨5,0,key,val,id0,.slice A refs.length c⟩) 105)) (by decide);have i3:=qC (xK 5) 86 (w.alloc (.cells (zD ⟨5,0,key,val,id0,.slice A refs.length c⟩) 105)) (by decide);have i4:=qC (xK 5) 82 (w.alloc (.cells (zD ⟨5,0,key,val,id0,.slice A refs.length c⟩) 105)) (by decide);have i5:=qC (xK 5) 83 (w.alloc (.cells (zD ⟨5,0,key,val,id0,.slice A refs.length c⟩) 105)) (by decide);rw[show inB (xK 5) 78=false by decide +kernel]at i1;rw[show inB (xK 5) 75=true by decide +kernel]at i2;rw[show inB (xK 5) 86=true by decide +kernel]at i3;rw[show inB (xK 5) 82=false by decide +kernel]at i4;rw[show inB (xK 5) 83=true by decide +kernel]at i5;rw[show xK 5=⟨#[75,86,83]⟩ from rfl]at c1 i1 i2 i3 i4 i5;clear hr;go_enter Tryz.func73,Tryz.ntmps73
    go_upto_region 1 with fail
    obtain⟨ga,hga⟩:∃ga,w.heap.size=ga:=⟨_,rfl⟩
    have Hga:=Lib.hid hga;rw[hga]at x0 x1 x2 x3 x4 x5 hB |-;obtain⟨W,hW⟩:∃W,W=w.alloc (.cells (zD ⟨5,0,key,val,id0,.slice A refs.length c⟩) 105):=⟨_,rfl⟩
    rw[<-hW]at x0 x1 x2 x3 x4 x5 hB c1 i1 i2 i3 i4 i5 hT0 |-;clear hW hga;(go_wp2_with fail);refine c1.mono ?_;rintro e w1 ⟨rfl,rfl⟩;(go_wp2_with fail);refine i1.mono ?_;rintro e w1 ⟨rfl,rfl⟩;(go_wp2_with fail);refine i2.mono ?_;rintro e w1 ⟨rfl,rfl⟩;(go_wp2_with fail);refine i3.mono ?_;rintro e w1 ⟨rfl,rfl⟩;(go_wp2_with fail);refine i4.mono ?_;rintro e w1 ⟨rfl,rfl⟩;(go_wp2_with fail);refine i5.mono ?_;rintro e w1 ⟨rfl,rfl⟩;clear c1 i1 i2 i3 i4 i5;have cis:=V5 W A _ c _ hT0 hl;rw[Hrb.out]at cis;rw[<-Hga.out]at hB;go_wp2_with fail
    all_goals
      first
      | (go_ret;exact⟨yB (by rw[Hck.out];(try simp only[emptyS,List.length_nil]at *);(repeat' split) <;> (first | rfl | omega | (simp_all;done) | (simp_all;omega))),hB⟩)
      | (refine cis.mono ?_;rintro e w2 ⟨rfl,hb2⟩
         have hBB:=xM hB hb2;clear hT0 cis x0 x1 x2 x3 x4 x5 hb2;cases rb <;> (go_wp2_with fail;go_ret;exact⟨yB (by rw[Hck.out];(try simp only[emptyS,List.length_nil]at *);(repeat' split) <;> (first | rfl | omega | (simp_all;done) | (simp_all;omega))),hBB⟩))
  · show Calls Tryz.prog 73 #[.agg (zD ⟨6,0,⟨#[]⟩,val,ref,.slice A 0 c⟩)] w _;change y8 (w.alloc (.cells (zD ⟨6,0,⟨#[]⟩,val,ref,.slice A 0 c⟩) 105)) A 0 []at hT0;have hB:Below w.heap.size w (w.alloc (.cells (zD ⟨6,0,⟨#[]⟩,val,ref,.slice A 0 c⟩) 105)):=(Below.refl _ _).alloc (Nat.le_refl _) _;have hr:z9 (w.alloc (.cells (zD ⟨6,0,⟨#[]⟩,val,ref,.slice A 0 c⟩) 105)) w.heap.size 0 37=some (zD ⟨6,0,⟨#[]⟩,val,ref,.slice A 0 c⟩):=by simp[go_sem]
    have x0:=z8 hr (j:=0) (by omega);have x1:=z8 hr (j:=1) (by omega);have x2:=z8 hr (j:=2) (by omega);have x3:=z8 hr (j:=3) (by omega);have x5:=z8 hr (j:=36) (by omega);have x4:=zV hr (j:=4) (m:=32) (by omega);simp only[qH,qW,qV,qU,xX,jB,Nat.zero_add]at x0 x1 x2 x3 x4 x5;have c1:=gA 6 (w.alloc (.cells (zD ⟨6,0,⟨#[]⟩,val,ref,.slice A 0 c⟩) 105)) (by omega);have i1:=qC (xK 6) 78 (w.alloc (.cells (zD ⟨6,0,⟨#[]⟩,val,ref,.slice A 0 c⟩) 105)) (by decide);have i2:=qC (xK 6) 75 (w.alloc (.cells (zD ⟨6,0,⟨#[]⟩,val,ref,.slice A 0 c⟩) 105)) (by decide);have i3:=qC (xK 6) 86 (w.alloc (.cells (zD ⟨6,0,⟨#[]⟩,val,ref,.slice A 0 c⟩) 105)) (by decide);have i4:=qC (xK 6) 82 (w.alloc (.cells (zD ⟨6,0,⟨#[]⟩,val,ref,.slice A 0 c⟩) 105)) (by decide);have i5:=qC (xK 6) 83 (w.alloc (.cells (zD ⟨6,0,⟨#[]⟩,val,ref,.slice A 0 c⟩) 105)) (by decide);rw[show inB (xK 6) 78=false by decide +kernel]at i1;rw[show inB (xK 6) 75=false by decide +kernel]at i2;rw[show inB (xK 6) 86=true by decide +kernel]at i3;rw[show inB (xK 6) 82=true by decide +kernel]at i4;rw[show inB (xK 6) 83=false by decide +kernel]at i5;rw[show xK 6=⟨#[82,86]⟩ from rfl]at c1 i1 i2 i3 i4 i5;clear hr;go_enter Tryz.func73,Tryz.ntmps73
    go_upto_region 1 with fail
    obtain⟨ga,hga⟩:∃ga,w.heap.size=ga:=⟨_,rfl⟩
    have Hga:=Lib.hid hga;rw[hga]at x0 x1 x2 x3 x4 x5 hB |-;obtain⟨W,hW⟩:∃W,W=w.alloc (.cells (zD ⟨6,0,⟨#[]⟩,val,ref,.slice A 0 c⟩) 105):=⟨_,rfl⟩
    rw[<-hW]at x0 x1 x2 x3 x4 x5 hB c1 i1 i2 i3 i4 i5 hT0 |-;clear hW hga;(go_wp2_with fail);refine c1.mono ?_;rintro e w1 ⟨rfl,rfl⟩;(go_wp2_with fail);refine i1.mono ?_;rintro e w1 ⟨rfl,rfl⟩;(go_wp2_with fail);refine i2.mono ?_;rintro e w1 ⟨rfl,rfl⟩;(go_wp2_with fail);refine i3.mono ?_;rintro e w1 ⟨rfl,rfl⟩;(go_wp2_with fail);refine i4.mono ?_;rintro e w1 ⟨rfl,rfl⟩;(go_wp2_with fail);refine i5.mono ?_;rintro e w1 ⟨rfl,rfl⟩;clear c1 i1 i2 i3 i4 i5;have cis:=V5 W A _ c _ hT0 hl;rw[Hrb.out]at cis;rw[<-Hga.out]at hB;go_wp2_with fail
    all_goals
      first
      | (go_ret;exact⟨yB (by rw[Hck.out];(try simp only[emptyS,List.length_nil]at *);(repeat' split) <;> (first | rfl | omega | (simp_all;done) | (simp_all;omega))),hB⟩)
      | (refine cis.mono ?_;rintro e w2 ⟨rfl,hb2⟩
         have hBB:=xM hB hb2;clear hT0 cis x0 x1 x2 x3 x4 x5 hb2;cases rb <;> (go_wp2_with fail;go_ret;exact⟨yB (by rw[Hck.out];(try simp only[emptyS,List.length_nil]at *);(repeat' split) <;> (first | rfl | omega | (simp_all;done) | (simp_all;omega))),hBB⟩))
  · show Calls Tryz.prog 73 #[.agg (zD ⟨7,0,⟨#[]⟩,⟨#[]⟩,ref,.slice A 0 c⟩)] w _;change y8 (w.alloc (.cells (zD ⟨7,0,⟨#[]⟩,⟨#[]⟩,ref,.slice A 0 c⟩) 105)) A 0 []at hT0;have hB:Below w.heap.size w (w.alloc (.cells (zD ⟨7,0,⟨#[]⟩,⟨#[]⟩,ref,.slice A 0 c⟩) 105)):=(Below.refl _ _).alloc (Nat.le_refl _) _;have hr:z9 (w.alloc (.cells (zD ⟨7,0,⟨#[]⟩,⟨#[]⟩,ref,.slice A 0 c⟩) 105)) w.heap.size 0 37=some (zD ⟨7,0,⟨#[]⟩,⟨#[]⟩,ref,.slice A 0 c⟩):=by simp[go_sem]
    have x0:=z8 hr (j:=0) (by omega);have x1:=z8 hr (j:=1) (by omega);have x2:=z8 hr (j:=2) (by omega);have x3:=z8 hr (j:=3) (by omega);have x5:=z8 hr (j:=36) (by omega);have x4:=zV hr (j:=4) (m:=32) (by omega);simp only[qH,qW,qV,qU,xX,jB,Nat.zero_add]at x0 x1 x2 x3 x4 x5;have c1:=gA 7 (w.alloc (.cells (zD ⟨7,0,⟨#[]⟩,⟨#[]⟩,ref,.slice A 0 c⟩) 105)) (by omega);have i1:=qC (xK 7) 78 (w.alloc (.cells (zD ⟨7,0,⟨#[]⟩,⟨#[]⟩,ref,.slice A 0 c⟩) 105)) (by decide);have i2:=qC (xK 7) 75 (w.alloc (.cells (zD ⟨7,0,⟨#[]⟩,⟨#[]⟩,ref,.slice A 0 c⟩) 105)) (by decide);have i3:=qC (xK 7) 86 (w.alloc (.cells (zD ⟨7,0,⟨#[]⟩,⟨#[]⟩,ref,.slice A 0 c⟩) 105)) (by decide);have i4:=qC (xK 7) 82 (w.alloc (.cells (zD ⟨7,0,⟨#[]⟩,⟨#[]⟩,ref,.slice A 0 c⟩) 105)) (by decide);have i5:=qC (xK 7) 83 (w.alloc (.cells (zD ⟨7,0,⟨#[]⟩,⟨#[]⟩,ref,.slice A 0 c⟩) 105)) (by decide);rw[show inB (xK 7) 78=false by decide +kernel]at i1;rw[show inB (xK 7) 75=false by decide +kernel]at i2;rw[show inB (xK 7) 86=false by decide +kernel]at i3;rw[show inB (xK 7) 82=true by decide +kernel]at i4;rw[show inB (xK 7) 83=false by decide +kernel]at i5;rw[show xK 7=⟨#[82]⟩ from rfl]at c1 i1 i2 i3 i4 i5;clear hr;go_enter Tryz.func73,Tryz.ntmps73
    go_upto_region 1 with fail
    obtain⟨ga,hga⟩:∃ga,w.heap.size=ga:=⟨_,rfl⟩
    have Hga:=Lib.hid hga;rw[hga]at x0 x1 x2 x3 x4 x5 hB |-;obtain⟨W,hW⟩:∃W,W=w.alloc (.cells (zD ⟨7,0,⟨#[]⟩,⟨#[]⟩,ref,.slice A 0 c⟩) 105):=⟨_,rfl⟩
    rw[<-hW]at x0 x1 x2 x3 x4 x5 hB c1 i1 i2 i3 i4 i5 hT0 |-;clear hW hga;(go_wp2_with fail);refine c1.mono ?_;rintro e w1 ⟨rfl,rfl⟩;(go_wp2_with fail);refine i1.mono ?_;rintro e w1 ⟨rfl,rfl⟩;(go_wp2_with fail);refine i2.mono ?_;rintro e w1 ⟨rfl,rfl⟩;(go_wp2_with fail);refine i3.mono ?_;rintro e w1 ⟨rfl,rfl⟩;(go_wp2_with fail);refine i4.mono ?_;rintro e w1 ⟨rfl,rfl⟩;(go_wp2_with fail);refine i5.mono ?_;rintro e w1 ⟨rfl,rfl⟩;clear c1 i1 i2 i3 i4 i5;have cis:=V5 W A _ c _ hT0 hl;rw[Hrb.out]at cis;rw[<-Hga.out]at hB;go_wp2_with fail
    all_goals
      first
      | (go_ret;exact⟨yB (by rw[Hck.out];(try simp only[emptyS,List.length_nil]at *);(repeat' split) <;> (first | rfl | omega | (simp_all;done) | (simp_all;omega))),hB⟩)
      | (refine cis.mono ?_;rintro e w2 ⟨rfl,hb2⟩
         have hBB:=xM hB hb2;clear hT0 cis x0 x1 x2 x3 x4 x5 hb2;cases rb <;> (go_wp2_with fail;go_ret;exact⟨yB (by rw[Hck.out];(try simp only[emptyS,List.length_nil]at *);(repeat' split) <;> (first | rfl | omega | (simp_all;done) | (simp_all;omega))),hBB⟩))
end Go.Proofs.YtgedpfebepdcmaaGreatDoor
