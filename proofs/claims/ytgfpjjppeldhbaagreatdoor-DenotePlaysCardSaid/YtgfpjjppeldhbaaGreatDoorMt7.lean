/- Part 7 of the texts that lead to this claim: the walks of the functions and the plain law, in order. -/
import Derived.Test.YtgfpjjppeldhbaaGreatDoorMt6
namespace Go.Proofs.YtgfpjjppeldhbaaGreatDoor
section
open Go.RowKit
def RefM (w : World) (g j : Nat) (X : List MRow) (G : List Id32) : Prop :=
  ∃ A n cap A' n' cap',w.cell? ⟨g,j,none⟩ = some (.slice A n cap) ∧ w.cell? ⟨g,j + 1,none⟩ = some (.slice A' n' cap') ∧ MRowsIn w A n X ∧ TagsIn w A' n' G
def lvM (X : List MRow) (G : List Id32) : List MRow:=sortC cmpMR (X.filter fun x=>decide (x.id ∉ G))
theorem lvM_take (X : List MRow) (G : List Id32) (k : Nat) (hk : k < X.length) : lvM (X.take (k + 1)) G = if X[k].id ∈ G then lvM (X.take k) G else insC cmpMR (lvM (X.take k) G) X[k]:=by
  unfold lvM;rw [List.take_add_one,List.getElem?_eq_getElem hk,Option.toList_some,List.filter_append];by_cases h : X[k].id ∈ G
  · rw [if_pos h];simp [h]
  · rw [if_neg h];simp only [List.filter_cons,h,not_false_eq_true,decide_true,if_true,List.filter_nil];rw [sortC_snoc]
theorem lvM_len (X : List MRow) (G : List Id32) : (lvM X G).length ≤ X.length:=Nat.le_trans (sortC_length _) (List.length_filter_le _ _)
theorem onesMR (X : List MRow) : ∀ r ∈ X.map mRowC,∀ u ∈ r.toList,u.oneCell' = true:=by
  intro r hr;obtain ⟨x,_,rfl⟩:=List.mem_map.1 hr;exact mRowC_one x
set_option maxRecDepth 100000 in
set_option maxHeartbeats 4000000 in
theorem rmlive (w : World) (g : Nat) (X : List MRow) (G : List Id32) (h : RefM w g 6 X G) (hX : X.length ≤ 100000) (hG : G.length ≤ 100000) :
    Calls Tryz.prog 152 #[.pointer (some ⟨g,6,none⟩)] w fun e w'=>∃ A n cap,e = .returned (.slice A n cap) ∧ Own w' w.heap.size 210 34 A n cap ((lvM X G).map mRowC) ∧ Below w.heap.size w w':=by
  obtain ⟨XA,nx,xc,GA,ng,gc,hc0,hc1,hXr,hGr⟩:=h;have hnx : X.length = nx:=hXr.len;have hng : G.length = ng:=by simpa using hGr.len
  have Hnx:=Lib.hid hnx;have hnx1 : nx ≤ 100000:=by omega
  have hng1 : ng ≤ 100000:=by omega
  clear hnx hng;go_enter Tryz.func152,Tryz.ntmps152
  (go_wp2_with fail);go_loopw [3,4] (fun out i wr=>∃ (k : Nat) (A1 : Option Addr) (n1 cap1 : Nat),k ≤ nx ∧ i = .int .i64 k ∧ out = .slice A1 n1 cap1 ∧ Own wr w.heap.size 210 34 A1 n1 cap1 ((lvM (X.take k) G).map mRowC) ∧ Below w.heap.size w wr) (fun _ i _=>nx - (intOf i).toNat)
  case atStart=>exact ⟨0,none,0,0,Nat.zero_le _,rfl,rfl,Own.nil _ _ _ _,Below.refl _ _⟩
  case round =>
    obtain ⟨k,A1,n,cap1,hk,rfl,rfl,hown,hb⟩:=hrel;have hcr0:=(hb.cell (p:=⟨g,6,none⟩) (World.block_lt_of_cell? w _ hc0)).trans hc0;have hcr1:=(hb.cell (p:=⟨g,7,none⟩) (World.block_lt_of_cell? w _ hc1)).trans hc1;by_cases hlt : k < nx
    · have hltX : k < X.length:=by rw [Hnx.out];exact hlt
      obtain ⟨q,o,rfl,hrx0,_⟩:=MRowsIn.get (SlR.below hXr hb) hlt hltX;have htk:=lvM_take X G k hltX;have hOl : (lvM (X.take k) G).length = n:=by simpa using hown.len
      have hol : n ≤ 100000:=by have:=lvM_len (X.take k) G;simp at this;omega
      have hris : Ris cmpMR (lvM (X.take k) G):=ris_sortC totMR _;obtain ⟨O,hO⟩ : ∃ O,lvM (X.take k) G = O:=⟨_,rfl⟩
      obtain ⟨x,hx⟩ : ∃ x,X[k]'hltX = x:=⟨_,rfl⟩
      rw [hx] at hrx0 htk;rw [hO] at htk hown hris hOl;have Htk0:=Lib.hid htk;have Hlen:=Lib.hid hOl;have Hris:=Lib.hid hris;clear hx hO htk hOl hris;have hszr:=hb.size;have hbx : Below wr.heap.size wr (wr.alloc (.cells (mRowC x) 210)):=(Below.refl _ _).alloc (Nat.le_refl _) _;have hown1:=hown.below hbx;have hb1 : Below w.heap.size w (wr.alloc (.cells (mRowC x) 210)):=hb.trans (hbx.mono hszr);have hrx1 : rowAt (wr.alloc (.cells (mRowC x) 210)) wr.heap.size 0 34 = some (mRowC x):=by simp [go_sem]
      have hcx1:=(hbx.cell (p:=⟨g,7,none⟩) (World.block_lt_of_cell? wr _ hcr1)).trans hcr1;have hG1 : TagsIn (wr.alloc (.cells (mRowC x) 210)) GA ng G:=SlR.below hGr hb1;go_upto_region 6 with fail
      obtain ⟨gx,hgx⟩ : ∃ gx,wr.heap.size = gx:=⟨_,rfl⟩
      obtain ⟨WR,hWR⟩ : ∃ WR,wr.alloc (.cells (mRowC x) 210) = WR:=⟨_,rfl⟩
      rw [hWR] at hown1 hb1 hrx1 hcx1 hG1 ⊢;rw [hgx] at hrx1 ⊢;have hid1 : rowAt WR gx 0 32 = some (idC x.id):=by have:=rowAt_sub hrx1 (j:=0) (m:=32) (by omega);rwa [mRowC_e0] at this
      have c1:=rhas6 WR.drew GA ng gc G x.id hG1 (by omega);clear hgx hWR hown hb hbx hcr0 hcr1 hrx0 hszr;by_cases hin : x.id ∈ G
      · rw [decide_eq_true hin] at c1;have Htk : Hid (lvM (X.take (k + 1)) G = O):=(show _ = _ by rw [Htk0.out,if_pos hin])
        clear hin;refine wp_region_lex (Bel WR) false (by kernel_rfl) (by kernel_rfl) (by kernel_rfl) (bel_drew WR) ?_;have hne:=bel_some WR;have hS:=bel_drew WR;have b1:=sub_row hid1;have b2:=sub_cell hcx1;repeat (refine wpLx_loose ?_ ?_;(focus (simp only [chainOp];done));intro K hK;go_simp;refine hK _ ?_;clear hK K)
        refine wpLx_chain ?_ ?_ ?_;(focus (exact hS));(focus (simp only [chainOp];done));intro K hK;go_simp;refine (c1).mono ?_;rintro e w' ⟨rfl,hb⟩;replace hS:=bel_next hS hb;refine ⟨_,rfl,hS,hK _ _ ?_⟩;clear hK K hb;repeat (refine wpLx_loose ?_ ?_;(focus (simp only [chainOp];done));intro K hK;go_simp;refine hK _ ?_;clear hK K)
        refine wpLx_nil ?_;intro hS;have hS' : Below WR.heap.size WR w':=hS;have hbz:=bel2 hb1 hS';have hown2:=hown1.below hS';clear b1 b2 hne hS c1 hS' hown1 hb1;(go_wp2_with fail);go_roundw
        case rel=>exact ⟨k + 1,A1,n,cap1,by omega,by go_num,rfl,(by rw [Htk.out];exact hown2),hbz⟩
        case measure=>simp [intOf];omega
      · rw [decide_eq_false hin] at c1;have Htk : Hid (lvM (X.take (k + 1)) G = insC cmpMR O x):=(show _ = _ by rw [Htk0.out,if_neg hin])
        clear hin;refine wp_region_lex (Bel WR) false (by kernel_rfl) (by kernel_rfl) (by kernel_rfl) (bel_drew WR) ?_;have hne:=bel_some WR;have hS:=bel_drew WR;have b1:=sub_row hid1;have b2:=sub_cell hcx1;repeat (refine wpLx_loose ?_ ?_;(focus (simp only [chainOp];done));intro K hK;go_simp;refine hK _ ?_;clear hK K)
        refine wpLx_chain ?_ ?_ ?_;(focus (exact hS));(focus (simp only [chainOp];done));intro K hK;go_simp;refine (c1).mono ?_;rintro e w' ⟨rfl,hb⟩;replace hS:=bel_next hS hb;refine ⟨_,rfl,hS,hK _ _ ?_⟩;clear hK K hb;repeat (refine wpLx_loose ?_ ?_;(focus (simp only [chainOp];done));intro K hK;go_simp;refine hK _ ?_;clear hK K)
        refine wpLx_nil ?_;intro hS;have hS' : Below WR.heap.size WR w':=hS;have hb2:=bel2 hb1 hS';have hsw2:=(hown1.below hS').slw;have hown2:=hown1.below hS';have hrx2 : rowAt w' gx 0 34 = some (mRowC x):=(rowAt_of_block (hS'.block gx (rowAt_lt hrx1)) _ _).trans hrx1;clear b1 b2 hne hS c1 hS' hown1 hb1 hid1 hcx1 hG1 hrx1;obtain ⟨V,rfl⟩ : ∃ V,V = w':=⟨w',rfl⟩
        (go_wp2_with fail);go_loopw [6] (fun j wj=>∃ m : Nat,m ≤ n ∧ j = .int .i64 m ∧ Hid (∀ i (hi : i < O.length),i < m → cmpMR O[i] x < 0) ∧ Below V.heap.size V wj) (fun j _=>n - (intOf j).toNat)
        case atStart=>exact ⟨0,Nat.zero_le _,rfl,(show ∀ i (hi : i < O.length),i < 0 → _ from fun i _ h=>absurd h (by omega)),Below.refl _ _⟩
        case round =>
          obtain ⟨m,hmO,rfl,hlow,hbj⟩:=hrel;have hrj : rowAt wr gx 0 34 = some (mRowC x):=(rowAt_of_block (hbj.block gx (rowAt_lt hrx2)) _ _).trans hrx2;have hswj:=hsw2.below hbj;by_cases hmlt : m < n
          · obtain ⟨q2,o2,rfl,hrO,_⟩:=MRowsIn.get hswj.rd hmlt (by rw [Hlen.out];exact hmlt);have hmem : O[m]'(by rw [Hlen.out];exact hmlt) ∈ O:=List.getElem_mem _;obtain ⟨y,hy⟩ : ∃ y,O[m]'(by rw [Hlen.out];exact hmlt) = y:=⟨_,rfl⟩
            rw [hy] at hrO hmem;have Hy:=Lib.hid hy;have Hmem:=Lib.hid hmem;clear hy hmem;have c2:=rmless y x wr.drew;by_cases hyx : cmpMR y x < 0
            · rw [decide_eq_true hyx] at c2;have Hyx:=Lib.hid hyx;clear hyx;go_upto_region 8 with fail
              refine wp_region_lex (Bel wr) false (by kernel_rfl) (by kernel_rfl) (by kernel_rfl) (bel_drew wr) ?_;have hne:=bel_some wr;have hS:=bel_drew wr;have b1:=sub_row hrj;have b2:=sub_row hrO;repeat (refine wpLx_loose ?_ ?_;(focus (simp only [chainOp];done));intro K hK;go_simp;refine hK _ ?_;clear hK K)
              refine wpLx_chain ?_ ?_ ?_;(focus (exact hS));(focus (simp only [chainOp];done));intro K hK;go_simp;refine (c2).mono ?_;rintro e w' ⟨rfl,hb⟩;replace hS:=bel_next hS hb;refine ⟨_,rfl,hS,hK _ _ ?_⟩;clear hK K hb;repeat (refine wpLx_loose ?_ ?_;(focus (simp only [chainOp];done));intro K hK;go_simp;refine hK _ ?_;clear hK K)
              refine wpLx_nil ?_;intro hS;have hS' : Below wr.heap.size wr w':=hS;have hbz:=bel2 hbj hS';clear b1 b2 hne hS c2;(go_wp2_with fail);go_roundw
              case rel =>
                refine ⟨m + 1,by omega,by go_num,(show ∀ i (hi : i < O.length),i < m + 1 → cmpMR O[i] x < 0 from fun i hi hlt=>?_),hbz⟩;by_cases e : i = m
                · subst e;rw [Hy.out];exact Hyx.out
                · exact hlow.out i hi (by omega)
              case measure=>simp [intOf];omega
            · rw [decide_eq_false hyx] at c2;have heqb:=mEqB_eq y x;obtain ⟨eb,heb⟩ : ∃ eb,mEqB y x = eb:=⟨_,rfl⟩
              rw [heb] at heqb;have Heqb:=Lib.hid heqb;have Hyx:=Lib.hid hyx;clear heqb hyx;go_upto_region 8 with fail
              refine wp_region_lex (Bel wr) false (by kernel_rfl) (by kernel_rfl) (by kernel_rfl) (bel_drew wr) ?_;have hne:=bel_some wr;have hS:=bel_drew wr;have b1:=sub_row hrj;have b2:=sub_row hrO;repeat (refine wpLx_loose ?_ ?_;(focus (simp only [chainOp];done));intro K hK;go_simp;refine hK _ ?_;clear hK K)
              refine wpLx_chain ?_ ?_ ?_;(focus (exact hS));(focus (simp only [chainOp];done));intro K hK;go_simp;refine (c2).mono ?_;rintro e w' ⟨rfl,hb⟩;replace hS:=bel_next hS hb;refine ⟨_,rfl,hS,hK _ _ ?_⟩;clear hK K hb;repeat (refine wpLx_loose ?_ ?_;(focus (simp only [chainOp];done));intro K hK;go_simp;refine hK _ ?_;clear hK K)
              refine wpLx_nil ?_;intro hS;have hS' : Below wr.heap.size wr w':=hS;have hbz:=bel2 hbj hS';have hrk : rowAt w' gx 0 34 = some (mRowC x):=(rowAt_of_block (hS'.block gx (rowAt_lt hrj)) _ _).trans hrj;have hrP : rowAt w' q2 (o2 + m * 34) 34 = some (mRowC y):=(rowAt_of_block (hS'.block q2 (rowAt_lt hrO)) _ _).trans hrO;clear b1 b2 hne hS c2 hS' hbj hrj hrO hswj;obtain ⟨WK,rfl⟩ : ∃ WK,WK = w':=⟨w',rfl⟩
              go_upto_region 10 with fail
              refine wp_region_lex (Bel WK) false (by kernel_rfl) (by kernel_rfl) (by kernel_rfl) (bel_drew WK) ?_;have hne:=bel_some WK;have hS:=bel_drew WK;have b1:=sub_row hrk;have b2:=sub_row hrP;repeat (refine wpLx_loose ?_ ?_;(focus (simp only [chainOp];done));intro K hK;go_simp;refine hK _ ?_;clear hK K)
              refine wpLx_nil ?_;intro hS;have hbz2 : Below V.heap.size V WK.drew:=hbz.drew;have hrx : rowAt WK.drew gx 0 34 = some (mRowC x):=hrk;have hsw:=hsw2.below hbz2;have hownw:=hown2.below hbz2;have hBw:=hb2.trans (hbz2.mono hb2.size);clear b1 b2 hne hS hrk hrP hbz hbz2 hrx2 heb;obtain ⟨W,hW⟩ : ∃ W,WK.drew = W:=⟨_,rfl⟩
              rw [hW] at hrx hsw hownw hBw ⊢;clear hW;cases eb with
              | true =>
                have e : y = x:=by simpa using Heqb.out.symm
                have hat:=insC_old totMR Hris.out (x:=x) (by rw [← e];exact Hmem.out);have Hat : Hid (lvM (X.take (k + 1)) G = O):=(show _ = _ by rw [Htk.out,hat])
                clear e hat;(go_wp2_with fail);go_roundw
                case rel=>exact ⟨k + 1,_,n,cap1,by omega,by go_num,rfl,(by rw [Hat.out];exact hownw),hBw⟩
                case measure=>simp [intOf];omega
              | false =>
                have e : ¬ y = x:=by simpa using Heqb.out.symm
                have hat:=insC_at (c:=cmpMR) O x m (by rw [Hlen.out];exact hmO) hlow.out (fun hk'=>by
                  rw [Hy.out];have h1 : cmpMR y x ≠ 0:=fun e'=>e ((totMR.zero _ _).1 e');have:=Hyx.out;omega)
                have Hat:=Lib.hid hat;clear e hat;obtain ⟨A,hA1⟩ : ∃ A,(some ⟨q2,o2,none⟩ : Option Addr) = A:=⟨_,rfl⟩
                rw [hA1] at hsw hownw ⊢;clear hA1;obtain ⟨d,hd⟩ : ∃ d,d = x:=⟨_,rfl⟩
                rw [← hd] at hrx Hat Htk ⊢;obtain ⟨cap,hcap⟩ : ∃ cap,cap = cap1:=⟨_,rfl⟩
                rw [← hcap] at hsw hownw ⊢;clear hd hcap;have hBx : Below W.heap.size W (W.alloc (.cells #[] 210)):=(Below.refl _ _).alloc (Nat.le_refl _) _;have hown0:=Own.empty W W.heap.size 210 34 (Nat.le_refl _);have hlo : ∀ w0 : World,(slS 62 (.slice A n cap) none (some (.int .i64 m)) none).run Tryz.prog w0 = .ok (.slice A m cap) w0:=fun w0=>SlW.lo einfoRM hsw hmO w0;obtain ⟨Ah,ch,hhi,hhs,hhf⟩:=hsw.hi (P:=Tryz.prog) einfoRM (m:=m) hmO;have hslo : SlR (W.alloc (.cells #[] 210)) A m 34 ((O.map mRowC).take m):=(hsw.rd.below hBx).take_ hmO;have hf1:=hsw.nil;have hrone : ∀ r ∈ (O.map mRowC).take m,∀ u ∈ r.toList,u.oneCell' = true:=fun r hr=>(by obtain ⟨y',_,rfl⟩:=List.mem_map.1 (List.mem_of_mem_take hr);exact mRowC_one _);have hrone2 : ∀ r ∈ (O.map mRowC).drop m,∀ u ∈ r.toList,u.oneCell' = true:=fun r hr=>(by obtain ⟨y',_,rfl⟩:=List.mem_map.1 (List.mem_of_mem_drop hr);exact mRowC_one _);go_upto_region 12 with (at_builtin;refine L_appends einfoRM rfl hown0 rfl hslo hf1 hrone (by omega) (by omega) (by simp) ?_;intro A2 cap2 w2 hown2 hk2 hsub2)
                simp only [Nat.zero_add,List.nil_append] at hown2;have hwW : Below W.heap.size W w2:=hBx.trans (hk2.below (by simp) (by simp [blk]));have hrw2 : rowAt w2 gx (0) 34 = some (mRowC d):=(rowAt_of_block (hwW.block gx (rowAt_lt hrx)) _ _).trans hrx;have hB3 : Below w2.heap.size w2 (w2.alloc (.cells (mRowC d) 210)):=(Below.refl _ _).alloc (Nat.le_refl _) _;have hown3:=hown2.below hB3;have hrow3 : rowAt (w2.alloc (.cells (mRowC d) 210)) w2.heap.size 0 34 = some (mRowC d):=by simp [go_sem]
                have hsz2:=hwW.size;go_upto_region 13 with (at_builtin;refine L_append einfoRM rfl hown3 rfl hrow3 (mRowC_one _) (by omega) (by omega) (by simp;omega) ?_;intro A4 cap4 w4 hown4 hk4 hsub4)
                have hwW4 : Below W.heap.size W w4:=(hwW.trans (hB3.mono hsz2)).trans (hk4.below (by simp;omega) (fun x hx=>(hown2.at_base hx).1));have hs4:=hhs w4 (hsw.rd.below hwW4);have hsz4:=hwW4.size;clear hown3 hrow3 hB3 hown0 hBx hslo hrw2 hlo;go_upto_region 14 with (at_builtin;refine L_appends einfoRM rfl hown4 rfl hs4 hhf hrone2 (by omega) (by omega) (by omega) ?_;intro A5 cap5 w5 hown5 hk5 hsub5)
                have hwW5 : Below W.heap.size W w5:=hwW4.trans (hk5.below (by omega) (fun x hx=>(hown4.at_base hx).1));have hO5 : (O.map mRowC).take m ++ [mRowC d] ++ (O.map mRowC).drop m = (O.take m ++ d :: O.drop m).map mRowC:=by simp [List.map_take,List.map_drop]
                rw [hO5] at hown5;clear hown4 hown2 hO5 hs4 hhi hhs hrone hrone2 hf1;obtain ⟨x,rfl⟩ : ∃ x,x = d:=⟨d,rfl⟩
                have hBw5:=hBw.trans (hwW5.mono hBw.size);have hL5 : (O.take m ++ x :: O.drop m).length = m + 1 + (n - m):=by simp [Hlen.out];omega
                have hOe : O.take m ++ x :: O.drop m = lvM (X.take (k + 1)) G:=by rw [Htk.out,Hat.out]
                rw [hOe] at hown5 hL5;have hown6:=hown5.mono hBw.size;have HL:=Lib.hid hL5;clear hown5 hOe hL5;(go_wp2_with fail);go_roundw
                case rel=>exact ⟨k + 1,A5,m + 1 + (n - m),cap5,by omega,by go_num,rfl,hown6,hBw5⟩
                case measure=>simp [intOf];omega
          · have hd : decide (m < n) = false:=by simpa using hmlt
            have hat:=insC_at (c:=cmpMR) O x m (by rw [Hlen.out];exact hmO) hlow.out (fun hk'=>absurd (by rw [← Hlen.out];exact hk') hmlt);have Hat:=Lib.hid hat;clear hat;go_upto_region 8 with fail
            refine wp_region_lex (Bel wr) false (by kernel_rfl) (by kernel_rfl) (by kernel_rfl) (bel_drew wr) ?_;have hne:=bel_some wr;have hS:=bel_drew wr;repeat (refine wpLx_loose ?_ ?_;(focus (simp only [chainOp];done));intro K hK;go_simp;refine hK _ ?_;clear hK K)
            refine wpLx_chain ?_ ?_ ?_;(focus (exact hS));(focus (simp only [chainOp];done));intro K hK;go_simp;refine hK _ _ ?_;clear hK K;repeat (refine wpLx_loose ?_ ?_;(focus (simp only [chainOp];done));intro K hK;go_simp;refine hK _ ?_;clear hK K)
            refine wpLx_nil ?_;intro hS;clear hne hS;go_upto_region 10 with fail
            refine wp_region_lex (Bel wr.drew) false (by kernel_rfl) (by kernel_rfl) (by kernel_rfl) (bel_drew wr.drew) ?_;have hne:=bel_some wr.drew;have hS:=bel_drew wr.drew;repeat (refine wpLx_loose ?_ ?_;(focus (simp only [chainOp];done));intro K hK;go_simp;refine hK _ ?_;clear hK K)
            refine wpLx_nil ?_;intro hS;have hbz2 : Below V.heap.size V wr.drew.drew:=hbj.drew.drew;have hrx : rowAt wr.drew.drew gx 0 34 = some (mRowC x):=hrj;have hsw:=hsw2.below hbz2;have hownw:=hown2.below hbz2;have hBw:=hb2.trans (hbz2.mono hb2.size);clear hne hS hbz2 hrj hbj hmlt hd hswj hrx2;obtain ⟨W,hW⟩ : ∃ W,wr.drew.drew = W:=⟨_,rfl⟩
            rw [hW] at hrx hsw hownw hBw ⊢;clear hW;obtain ⟨A,hA1⟩ : ∃ A,A = A1:=⟨_,rfl⟩
            rw [← hA1] at hsw hownw ⊢;clear hA1;obtain ⟨d,hd⟩ : ∃ d,d = x:=⟨_,rfl⟩
            rw [← hd] at hrx Hat Htk ⊢;obtain ⟨cap,hcap⟩ : ∃ cap,cap = cap1:=⟨_,rfl⟩
            rw [← hcap] at hsw hownw ⊢;clear hd hcap;have hBx : Below W.heap.size W (W.alloc (.cells #[] 210)):=(Below.refl _ _).alloc (Nat.le_refl _) _;have hown0:=Own.empty W W.heap.size 210 34 (Nat.le_refl _);have hlo : ∀ w0 : World,(slS 62 (.slice A n cap) none (some (.int .i64 m)) none).run Tryz.prog w0 = .ok (.slice A m cap) w0:=fun w0=>SlW.lo einfoRM hsw hmO w0;obtain ⟨Ah,ch,hhi,hhs,hhf⟩:=hsw.hi (P:=Tryz.prog) einfoRM (m:=m) hmO;have hslo : SlR (W.alloc (.cells #[] 210)) A m 34 ((O.map mRowC).take m):=(hsw.rd.below hBx).take_ hmO;have hf1:=hsw.nil;have hrone : ∀ r ∈ (O.map mRowC).take m,∀ u ∈ r.toList,u.oneCell' = true:=fun r hr=>(by obtain ⟨y',_,rfl⟩:=List.mem_map.1 (List.mem_of_mem_take hr);exact mRowC_one _);have hrone2 : ∀ r ∈ (O.map mRowC).drop m,∀ u ∈ r.toList,u.oneCell' = true:=fun r hr=>(by obtain ⟨y',_,rfl⟩:=List.mem_map.1 (List.mem_of_mem_drop hr);exact mRowC_one _);go_upto_region 12 with (at_builtin;refine L_appends einfoRM rfl hown0 rfl hslo hf1 hrone (by omega) (by omega) (by simp) ?_;intro A2 cap2 w2 hown2 hk2 hsub2)
            simp only [Nat.zero_add,List.nil_append] at hown2;have hwW : Below W.heap.size W w2:=hBx.trans (hk2.below (by simp) (by simp [blk]));have hrw2 : rowAt w2 gx (0) 34 = some (mRowC d):=(rowAt_of_block (hwW.block gx (rowAt_lt hrx)) _ _).trans hrx;have hB3 : Below w2.heap.size w2 (w2.alloc (.cells (mRowC d) 210)):=(Below.refl _ _).alloc (Nat.le_refl _) _;have hown3:=hown2.below hB3;have hrow3 : rowAt (w2.alloc (.cells (mRowC d) 210)) w2.heap.size 0 34 = some (mRowC d):=by simp [go_sem]
            have hsz2:=hwW.size;go_upto_region 13 with (at_builtin;refine L_append einfoRM rfl hown3 rfl hrow3 (mRowC_one _) (by omega) (by omega) (by simp;omega) ?_;intro A4 cap4 w4 hown4 hk4 hsub4)
            have hwW4 : Below W.heap.size W w4:=(hwW.trans (hB3.mono hsz2)).trans (hk4.below (by simp;omega) (fun x hx=>(hown2.at_base hx).1));have hs4:=hhs w4 (hsw.rd.below hwW4);have hsz4:=hwW4.size;clear hown3 hrow3 hB3 hown0 hBx hslo hrw2 hlo;go_upto_region 14 with (at_builtin;refine L_appends einfoRM rfl hown4 rfl hs4 hhf hrone2 (by omega) (by omega) (by omega) ?_;intro A5 cap5 w5 hown5 hk5 hsub5)
            have hwW5 : Below W.heap.size W w5:=hwW4.trans (hk5.below (by omega) (fun x hx=>(hown4.at_base hx).1));have hO5 : (O.map mRowC).take m ++ [mRowC d] ++ (O.map mRowC).drop m = (O.take m ++ d :: O.drop m).map mRowC:=by simp [List.map_take,List.map_drop]
            rw [hO5] at hown5;clear hown4 hown2 hO5 hs4 hhi hhs hrone hrone2 hf1;obtain ⟨x,rfl⟩ : ∃ x,x = d:=⟨d,rfl⟩
            have hBw5:=hBw.trans (hwW5.mono hBw.size);have hL5 : (O.take m ++ x :: O.drop m).length = m + 1 + (n - m):=by simp [Hlen.out];omega
            have hOe : O.take m ++ x :: O.drop m = lvM (X.take (k + 1)) G:=by rw [Htk.out,Hat.out]
            rw [hOe] at hown5 hL5;have hown6:=hown5.mono hBw.size;have HL:=Lib.hid hL5;clear hown5 hOe hL5;(go_wp2_with fail);go_roundw
            case rel=>exact ⟨k + 1,A5,m + 1 + (n - m),cap5,by omega,by go_num,rfl,hown6,hBw5⟩
            case measure=>simp [intOf];omega
    · have e : X.take k = X:=List.take_of_length_le (by rw [Hnx.out];omega);rw [e] at hown;clear e;(go_wp2_with fail);go_ret;exact ⟨A1,n,cap1,rfl,hown,hb⟩
end
section
open Go.RowKit
theorem listM_take (Z : List MRow) (k : Nat) (hk : k < Z.length) : listM (Z.take (k + 1)) = insC cmpPair (listM (Z.take k)) (mpair Z[k]):=by
  unfold listM;rw [List.take_add_one,List.getElem?_eq_getElem hk,Option.toList_some,List.map_append,List.map_cons,List.map_nil,sortC_snoc]
theorem cmpPair_lt (x y : Pair) : cmpPair x y < 0 ↔ cmpS x.key y.key < 0 ∨ (x.key = y.key ∧ cmpS x.val y.val < 0):=by
  unfold cmpPair;rw [orL2,orC_ltM,cmpS_zero]
set_option maxRecDepth 100000 in
set_option maxHeartbeats 4000000 in
theorem rmlist (w : World) (g : Nat) (X : List MRow) (G : List Id32) (h : RefM w g 6 X G) (hX : X.length ≤ 100000) (hG : G.length ≤ 100000) :
    Calls Tryz.prog 76 #[.pointer (some ⟨g,6,none⟩)] w fun e w'=>∃ A n cap,e = .returned (.slice A n cap) ∧ Own w' w.heap.size 98 2 A n cap ((listM (lvM X G)).map pairC) ∧ Below w.heap.size w w':=by
  have c1:=rmlive w g X G h hX hG;have hll:=lvM_len X G;obtain ⟨Z,hZ⟩ : ∃ Z,lvM X G = Z:=⟨_,rfl⟩
  rw [hZ] at c1 hll ⊢;clear hZ h;go_enter Tryz.func76,Tryz.ntmps76
  (go_wp2_with fail);refine c1.mono ?_;rintro e w1 ⟨RA,nz,rc,rfl,hrow,hb1⟩;have hslZ : MRowsIn w1 RA nz Z:=hrow.slr;have hnz : Z.length = nz:=hslZ.len;have Hnz:=Lib.hid hnz;have hnz1 : nz ≤ 100000:=by omega
  clear hrow c1 hnz;(go_wp2_with fail);go_loopw [3,5] (fun out i wr=>∃ (k : Nat) (A1 : Option Addr) (n1 cap1 : Nat),k ≤ nz ∧ i = .int .i64 k ∧ out = .slice A1 n1 cap1 ∧ Own wr w1.heap.size 98 2 A1 n1 cap1 ((listM (Z.take k)).map pairC) ∧ Below w1.heap.size w1 wr) (fun _ i _=>nz - (intOf i).toNat)
  case atStart=>exact ⟨0,none,0,0,Nat.zero_le _,rfl,rfl,Own.nil _ _ _ _,Below.refl _ _⟩
  case round =>
    obtain ⟨k,A1,n,cap1,hk,rfl,rfl,hown,hb⟩:=hrel;by_cases hlt : k < nz
    · have hltZ : k < Z.length:=by rw [Hnz.out];exact hlt
      obtain ⟨q,o,rfl,_,_,hk0,hv0⟩:=MRowsIn.get (SlR.below hslZ hb) hlt hltZ;have htk:=listM_take Z k hltZ;have hOl : (listM (Z.take k)).length = n:=by simpa using hown.len
      have hol : n ≤ 100000:=by have:=listM_len (Z.take k);simp at this;omega
      have hris : Ris cmpPair (listM (Z.take k)):=ris_sortC totPair _;obtain ⟨O,hO⟩ : ∃ O,listM (Z.take k) = O:=⟨_,rfl⟩
      obtain ⟨⟨xi,xk,xv⟩,hx⟩ : ∃ x,Z[k]'hltZ = x:=⟨_,rfl⟩
      rw [hx] at hk0 hv0 htk;rw [hO] at htk hown hris hOl;dsimp only at hk0 hv0;have htk' : listM (Z.take (k + 1)) = insC cmpPair O ⟨xk,xv⟩:=htk;have Htk:=Lib.hid htk';have Hlen:=Lib.hid hOl;have Hris:=Lib.hid hris;clear hx hO htk htk' hOl hris;have hszr:=hb.size;go_upto_region 6 with fail
      refine wp_region_lexf (Kp [] wr) false (by kernel_rfl) (by kernel_rfl) (by kernel_rfl) (by kernel_rfl) (kp_drew [] wr) ?_;have hne:=kp_some [] wr;have hS:=kp_drew [] wr;have b1:=ksub_cell hk0 (S:=[]) (by simp);have b2:=ksub_cell hv0 (S:=[]) (by simp);repeat (refine wpLx_loose ?_ ?_;(focus (simp only [chainOp];done));intro K hK;go_simp;refine hK _ ?_;clear hK K)
      refine wpLx_chain ?_ ?_ ?_;(focus (exact hS));(focus (simp only [chainOp];done));intro K hK;go_simp;refine step_keep (Keep.trans (Keep.trans (Keep.refl [] wr) (Keep.drew _) (by simp)) (Keep.alloc _ _) (by simp)) (fun hS2=>?_);refine hK _ _ ?_;clear hK K;repeat (refine wpLx_loose ?_ ?_;(focus (simp only [chainOp];done));intro K hK;go_simp;refine hK _ ?_;clear hK K)
      have hst : (stS 98 ⟨wr.heap.size,0,none⟩ (.agg (pairC ⟨xk,xv⟩))).run Tryz.prog (wr.alloc (.cells (pairC pair0) 98)).drew = .ok () (wr.alloc (.cells (pairC ⟨xk,xv⟩) 98)).drew:=storePair_run wr.drew wr.heap.size rfl (pairC pair0) (pairC_size _) ⟨xk,xv⟩ 98;refine wpLx_end ?_ ?_;(focus (simp only [chainOp];done));intro K hK;go_simp;refine hK _ _ ?_;clear hK K hst;have hbx : Below wr.heap.size wr (wr.alloc (.cells (pairC ⟨xk,xv⟩) 98)).drew:=((Below.refl _ _).alloc (Nat.le_refl _) _).drew;have hown1:=hown.below hbx;have hb1r : Below w1.heap.size w1 (wr.alloc (.cells (pairC ⟨xk,xv⟩) 98)).drew:=hb.trans (hbx.mono hszr);have hrx1 : rowAt (wr.alloc (.cells (pairC ⟨xk,xv⟩) 98)).drew wr.heap.size 0 2 = some (pairC ⟨xk,xv⟩):=by
        show rowAt (wr.alloc (.cells (pairC ⟨xk,xv⟩) 98)) wr.heap.size 0 2 = _;simp [go_sem]
      clear hS hS2 hne b1 b2 hown hb hbx hk0 hv0 hszr;obtain ⟨d,hd⟩ : ∃ d : Pair,d = ⟨xk,xv⟩:=⟨_,rfl⟩
      rw [← hd] at hrx1 hown1 hb1r Htk ⊢;have hdk : d.key = xk:=by rw [hd]
      have hdv : d.val = xv:=by rw [hd]
      clear hd hdk hdv;obtain ⟨gx,hgx⟩ : ∃ gx,wr.heap.size = gx:=⟨_,rfl⟩
      generalize (wr.alloc (.cells (pairC d) 98)).drew = V at *;rw [hgx] at hrx1 ⊢;clear hgx;have hsw2:=hown1.slw;(go_wp2_with fail);go_loopw [7] (fun j wj=>∃ m : Nat,m ≤ n ∧ j = .int .i64 m ∧ Hid (∀ i (hi : i < O.length),i < m → cmpPair O[i] d < 0) ∧ Below V.heap.size V wj) (fun j _=>n - (intOf j).toNat)
      case atStart=>exact ⟨0,Nat.zero_le _,rfl,(show ∀ i (hi : i < O.length),i < 0 → _ from fun i _ h=>absurd h (by omega)),Below.refl _ _⟩
      case round =>
        obtain ⟨m,hmO,rfl,hlow,hbj⟩:=hrel;have hrj : rowAt wr gx 0 2 = some (pairC d):=(rowAt_of_block (hbj.block gx (rowAt_lt hrx1)) _ _).trans hrx1;have hd0 : wr.cell? ⟨gx,0,none⟩ = some (.string d.key):=by have:=rowAt_cell hrj (j:=0) (by omega);rwa [pairC_g0] at this
        have hd1 : wr.cell? ⟨gx,1,none⟩ = some (.string d.val):=by have:=rowAt_cell hrj (j:=1) (by omega);rwa [pairC_g1] at this
        have hswj:=hsw2.below hbj;by_cases hmlt : m < n
        · obtain ⟨q2,o2,rfl,hrO,hy0,hy1⟩:=PairsIn.get hswj.rd hmlt (by rw [Hlen.out];exact hmlt);have hmem : O[m]'(by rw [Hlen.out];exact hmlt) ∈ O:=List.getElem_mem _;obtain ⟨y,hy⟩ : ∃ y,O[m]'(by rw [Hlen.out];exact hmlt) = y:=⟨_,rfl⟩
          rw [hy] at hrO hmem hy0 hy1;have Hy:=Lib.hid hy;have Hmem:=Lib.hid hmem;clear hy hmem;have hclt:=cmpPair_lt y d;have hs1:=bltS_cmp y.key d.key;have hs2:=bltS_cmp y.val d.val;have hse : (y.key.toList == d.key.toList) = decide (y.key = d.key):=by rw [Bool.eq_iff_iff,beq_iff_eq,toList_inj,decide_eq_true_eq]
          obtain ⟨sk,hsk⟩ : ∃ sk,Op.bytesLess y.key.toList d.key.toList = sk:=⟨_,rfl⟩
          obtain ⟨sv,hsv⟩ : ∃ sv,Op.bytesLess y.val.toList d.val.toList = sv:=⟨_,rfl⟩
          obtain ⟨se,hsee⟩ : ∃ se,(y.key.toList == d.key.toList) = se:=⟨_,rfl⟩
          have hk' : sk = decide (cmpS y.key d.key < 0):=hsk.symm.trans hs1;have hv' : sv = decide (cmpS y.val d.val < 0):=hsv.symm.trans hs2;have he' : se = decide (y.key = d.key):=hsee.symm.trans hse;have hD : cmpPair y d < 0 ↔ (sk = true ∨ (se = true ∧ sv = true)):=by rw [hclt,hk',hv',he'];simp only [decide_eq_true_eq]
          have HD:=Lib.hid hD;clear hclt hs1 hs2 hse hk' hv' he' hD;cases sk with
          | true =>
            have Hyx : Hid (cmpPair y d < 0):=(show _ from HD.out.2 (.inl rfl))
            go_upto_region 8 with fail
            refine wp_region_lex (Bel wr) false (by kernel_rfl) (by kernel_rfl) (by kernel_rfl) (bel_drew wr) ?_;have hne:=bel_some wr;have hS:=bel_drew wr;have b1:=sub_cell hd0;have b2:=sub_cell hd1;have b3:=sub_cell hy0;have b4:=sub_cell hy1;repeat (refine wpLx_loose ?_ ?_;(focus (simp only [chainOp];done));intro K hK;go_simp;refine hK _ ?_;clear hK K)
            refine wpLx_nil ?_;intro hS;clear b1 b2 b3 b4 hne hS;(go_wp2_with fail);go_roundw
            case rel =>
              refine ⟨m + 1,by omega,by go_num,(show ∀ i (hi : i < O.length),i < m + 1 → cmpPair O[i] d < 0 from fun i hi hlt=>?_),hbj.drew⟩;by_cases e : i = m
              · subst e;rw [Hy.out];exact Hyx.out
              · exact hlow.out i hi (by omega)
            case measure=>simp [intOf];omega
          | false =>
            by_cases hsev : se = true ∧ sv = true
            · obtain ⟨rfl,rfl⟩:=hsev;have Hyx : Hid (cmpPair y d < 0):=(show _ from HD.out.2 (.inr ⟨rfl,rfl⟩))
              go_upto_region 8 with fail
              refine wp_region_lex (Bel wr) false (by kernel_rfl) (by kernel_rfl) (by kernel_rfl) (bel_drew wr) ?_;have hne:=bel_some wr;have hS:=bel_drew wr;have b1:=sub_cell hd0;have b2:=sub_cell hd1;have b3:=sub_cell hy0;have b4:=sub_cell hy1;repeat (refine wpLx_loose ?_ ?_;(focus (simp only [chainOp];done));intro K hK;go_simp;refine hK _ ?_;clear hK K)
              refine wpLx_nil ?_;intro hS;clear b1 b2 b3 b4 hne hS;(go_wp2_with fail);go_roundw
              case rel =>
                refine ⟨m + 1,by omega,by go_num,(show ∀ i (hi : i < O.length),i < m + 1 → cmpPair O[i] d < 0 from fun i hi hlt=>?_),hbj.drew⟩;by_cases e : i = m
                · subst e;rw [Hy.out];exact Hyx.out
                · exact hlow.out i hi (by omega)
              case measure=>simp [intOf];omega
            · have Hyx : Hid (¬ cmpPair y d < 0):=(show _ from fun hh=>by rcases HD.out.1 hh with h1 | h1;cases h1;exact hsev h1)
              have heqb:=pairEqB_eq y d;obtain ⟨eb,heb⟩ : ∃ eb,pairEqB y d = eb:=⟨_,rfl⟩
              rw [heb] at heqb;have Heqb:=Lib.hid heqb;have Heb:=Lib.hid heb;clear heqb heb;cases se with
              | false =>
                go_upto_region 8 with fail
                refine wp_region_lex (Bel wr) false (by kernel_rfl) (by kernel_rfl) (by kernel_rfl) (bel_drew wr) ?_;have hne:=bel_some wr;have hS:=bel_drew wr;have b1:=sub_cell hd0;have b2:=sub_cell hd1;have b3:=sub_cell hy0;have b4:=sub_cell hy1;repeat (refine wpLx_loose ?_ ?_;(focus (simp only [chainOp];done));intro K hK;go_simp;refine hK _ ?_;clear hK K)
                refine wpLx_nil ?_;intro hS;clear b1 b2 b3 b4 hne hS;have hrj2 : rowAt wr.drew gx 0 2 = some (pairC d):=hrj;have hrO2 : rowAt wr.drew q2 (o2 + m * 2) 2 = some (pairC y):=hrO;have heb:=Heb.out;go_upto_region 10 with fail
                refine wp_region_lex (Bel wr.drew) false (by kernel_rfl) (by kernel_rfl) (by kernel_rfl) (bel_drew wr.drew) ?_;have hne:=bel_some wr.drew;have hS:=bel_drew wr.drew;have b1:=sub_row hrj2;have b2:=sub_row hrO2;repeat (refine wpLx_loose ?_ ?_;(focus (simp only [chainOp];done));intro K hK;go_simp;refine hK _ ?_;clear hK K)
                refine wpLx_nil ?_;intro hS;have hbz2 : Below V.heap.size V wr.drew.drew:=hbj.drew.drew;have hrx : rowAt wr.drew.drew gx 0 2 = some (pairC d):=hrj;have hsw:=hsw2.below hbz2;have hownw:=hown1.below hbz2;have hBw:=hb1r.trans (hbz2.mono hb1r.size);clear b1 b2 hne hS hrj2 hrO2 hbz2 hrj hrO hbj heb hd0 hd1 hy0 hy1 hswj;obtain ⟨W,hW⟩ : ∃ W,wr.drew.drew = W:=⟨_,rfl⟩
                rw [hW] at hrx hsw hownw hBw ⊢;clear hW;cases eb with
                | true =>
                  have e : y = d:=Heqb.out.1 rfl;have hat:=insC_old totPair Hris.out (x:=d) (by rw [← e];exact Hmem.out);have Hat : Hid (listM (Z.take (k + 1)) = O):=(show _ = _ by rw [Htk.out,hat])
                  clear e hat;(go_wp2_with fail);go_roundw
                  case rel=>exact ⟨k + 1,_,n,cap1,by omega,by go_num,rfl,(by rw [Hat.out];exact hownw),hBw⟩
                  case measure=>simp [intOf];omega
                | false =>
                  have e : ¬ y = d:=fun e'=>(by have:=Heqb.out.2 e';cases this);have hat:=insC_at (c:=cmpPair) O d m (by rw [Hlen.out];exact hmO) hlow.out (fun hk'=>by
                    rw [Hy.out];have h1 : cmpPair y d ≠ 0:=fun e'=>e ((totPair.zero _ _).1 e');have:=Hyx.out;omega)
                  have Hat:=Lib.hid hat;clear e hat;obtain ⟨A,hA1⟩ : ∃ A,(some ⟨q2,o2,none⟩ : Option Addr) = A:=⟨_,rfl⟩
                  rw [hA1] at hsw hownw ⊢;clear hA1;obtain ⟨cap,hcap⟩ : ∃ cap,cap = cap1:=⟨_,rfl⟩
                  rw [← hcap] at hsw hownw ⊢;clear hcap;have hBx : Below W.heap.size W (W.alloc (.cells #[] 98)):=(Below.refl _ _).alloc (Nat.le_refl _) _;have hown0:=Own.empty W W.heap.size 98 2 (Nat.le_refl _);have hlo : ∀ w0 : World,(slS 23 (.slice A n cap) none (some (.int .i64 m)) none).run Tryz.prog w0 = .ok (.slice A m cap) w0:=fun w0=>SlW.lo einfoPair hsw hmO w0;obtain ⟨Ah,ch,hhi,hhs,hhf⟩:=hsw.hi (P:=Tryz.prog) einfoPair (m:=m) hmO;have hslo : SlR (W.alloc (.cells #[] 98)) A m 2 ((O.map pairC).take m):=(hsw.rd.below hBx).take_ hmO;have hf1:=hsw.nil;have hrone : ∀ r ∈ (O.map pairC).take m,∀ u ∈ r.toList,u.oneCell' = true:=fun r hr=>(by obtain ⟨y',_,rfl⟩:=List.mem_map.1 (List.mem_of_mem_take hr);exact pairC_one _);have hrone2 : ∀ r ∈ (O.map pairC).drop m,∀ u ∈ r.toList,u.oneCell' = true:=fun r hr=>(by obtain ⟨y',_,rfl⟩:=List.mem_map.1 (List.mem_of_mem_drop hr);exact pairC_one _);go_upto_region 12 with (at_builtin;refine L_appends einfoPair rfl hown0 rfl hslo hf1 hrone (by omega) (by omega) (by simp) ?_;intro A2 cap2 w2 hown2 hk2 hsub2)
                  simp only [Nat.zero_add,List.nil_append] at hown2;have hwW : Below W.heap.size W w2:=hBx.trans (hk2.below (by simp) (by simp [blk]));have hrw2 : rowAt w2 gx (0) 2 = some (pairC d):=(rowAt_of_block (hwW.block gx (rowAt_lt hrx)) _ _).trans hrx;have hB3 : Below w2.heap.size w2 (w2.alloc (.cells (pairC d) 98)):=(Below.refl _ _).alloc (Nat.le_refl _) _;have hown3:=hown2.below hB3;have hrow3 : rowAt (w2.alloc (.cells (pairC d) 98)) w2.heap.size 0 2 = some (pairC d):=by simp [go_sem]
                  have hsz2:=hwW.size;go_upto_region 13 with (at_builtin;refine L_append einfoPair rfl hown3 rfl hrow3 (pairC_one _) (by omega) (by omega) (by simp;omega) ?_;intro A4 cap4 w4 hown4 hk4 hsub4)
                  have hwW4 : Below W.heap.size W w4:=(hwW.trans (hB3.mono hsz2)).trans (hk4.below (by simp;omega) (fun x hx=>(hown2.at_base hx).1));have hs4:=hhs w4 (hsw.rd.below hwW4);have hsz4:=hwW4.size;clear hown3 hrow3 hB3 hown0 hBx hslo hrw2 hlo;go_upto_region 14 with (at_builtin;refine L_appends einfoPair rfl hown4 rfl hs4 hhf hrone2 (by omega) (by omega) (by omega) ?_;intro A5 cap5 w5 hown5 hk5 hsub5)
                  have hwW5 : Below W.heap.size W w5:=hwW4.trans (hk5.below (by omega) (fun x hx=>(hown4.at_base hx).1));have hO5 : (O.map pairC).take m ++ [pairC d] ++ (O.map pairC).drop m = (O.take m ++ d :: O.drop m).map pairC:=by simp [List.map_take,List.map_drop]
                  rw [hO5] at hown5;clear hown4 hown2 hO5 hs4 hhi hhs hrone hrone2 hf1;have hBw5:=hBw.trans (hwW5.mono hBw.size);have hL5 : (O.take m ++ d :: O.drop m).length = m + 1 + (n - m):=by simp [Hlen.out];omega
                  have hOe : O.take m ++ d :: O.drop m = listM (Z.take (k + 1)):=by rw [Htk.out,Hat.out]
                  rw [hOe] at hown5 hL5;have hown6:=hown5.mono hBw.size;have HL:=Lib.hid hL5;clear hown5 hOe hL5;(go_wp2_with fail);go_roundw
                  case rel=>exact ⟨k + 1,A5,m + 1 + (n - m),cap5,by omega,by go_num,rfl,hown6,hBw5⟩
                  case measure=>simp [intOf];omega
              | true =>
                cases sv with
                | true=>exact absurd ⟨rfl,rfl⟩ hsev
                | false =>
                  go_upto_region 8 with fail
                  refine wp_region_lex (Bel wr) false (by kernel_rfl) (by kernel_rfl) (by kernel_rfl) (bel_drew wr) ?_;have hne:=bel_some wr;have hS:=bel_drew wr;have b1:=sub_cell hd0;have b2:=sub_cell hd1;have b3:=sub_cell hy0;have b4:=sub_cell hy1;repeat (refine wpLx_loose ?_ ?_;(focus (simp only [chainOp];done));intro K hK;go_simp;refine hK _ ?_;clear hK K)
                  refine wpLx_nil ?_;intro hS;clear b1 b2 b3 b4 hne hS;have hrj2 : rowAt wr.drew gx 0 2 = some (pairC d):=hrj;have hrO2 : rowAt wr.drew q2 (o2 + m * 2) 2 = some (pairC y):=hrO;have heb:=Heb.out;go_upto_region 10 with fail
                  refine wp_region_lex (Bel wr.drew) false (by kernel_rfl) (by kernel_rfl) (by kernel_rfl) (bel_drew wr.drew) ?_;have hne:=bel_some wr.drew;have hS:=bel_drew wr.drew;have b1:=sub_row hrj2;have b2:=sub_row hrO2;repeat (refine wpLx_loose ?_ ?_;(focus (simp only [chainOp];done));intro K hK;go_simp;refine hK _ ?_;clear hK K)
                  refine wpLx_nil ?_;intro hS;have hbz2 : Below V.heap.size V wr.drew.drew:=hbj.drew.drew;have hrx : rowAt wr.drew.drew gx 0 2 = some (pairC d):=hrj;have hsw:=hsw2.below hbz2;have hownw:=hown1.below hbz2;have hBw:=hb1r.trans (hbz2.mono hb1r.size);clear b1 b2 hne hS hrj2 hrO2 hbz2 hrj hrO hbj heb hd0 hd1 hy0 hy1 hswj;obtain ⟨W,hW⟩ : ∃ W,wr.drew.drew = W:=⟨_,rfl⟩
                  rw [hW] at hrx hsw hownw hBw ⊢;clear hW;cases eb with
                  | true =>
                    have e : y = d:=Heqb.out.1 rfl;have hat:=insC_old totPair Hris.out (x:=d) (by rw [← e];exact Hmem.out);have Hat : Hid (listM (Z.take (k + 1)) = O):=(show _ = _ by rw [Htk.out,hat])
                    clear e hat;(go_wp2_with fail);go_roundw
                    case rel=>exact ⟨k + 1,_,n,cap1,by omega,by go_num,rfl,(by rw [Hat.out];exact hownw),hBw⟩
                    case measure=>simp [intOf];omega
                  | false =>
                    have e : ¬ y = d:=fun e'=>(by have:=Heqb.out.2 e';cases this);have hat:=insC_at (c:=cmpPair) O d m (by rw [Hlen.out];exact hmO) hlow.out (fun hk'=>by
                      rw [Hy.out];have h1 : cmpPair y d ≠ 0:=fun e'=>e ((totPair.zero _ _).1 e');have:=Hyx.out;omega)
                    have Hat:=Lib.hid hat;clear e hat;obtain ⟨A,hA1⟩ : ∃ A,(some ⟨q2,o2,none⟩ : Option Addr) = A:=⟨_,rfl⟩
                    rw [hA1] at hsw hownw ⊢;clear hA1;obtain ⟨cap,hcap⟩ : ∃ cap,cap = cap1:=⟨_,rfl⟩
                    rw [← hcap] at hsw hownw ⊢;clear hcap;have hBx : Below W.heap.size W (W.alloc (.cells #[] 98)):=(Below.refl _ _).alloc (Nat.le_refl _) _;have hown0:=Own.empty W W.heap.size 98 2 (Nat.le_refl _);have hlo : ∀ w0 : World,(slS 23 (.slice A n cap) none (some (.int .i64 m)) none).run Tryz.prog w0 = .ok (.slice A m cap) w0:=fun w0=>SlW.lo einfoPair hsw hmO w0;obtain ⟨Ah,ch,hhi,hhs,hhf⟩:=hsw.hi (P:=Tryz.prog) einfoPair (m:=m) hmO;have hslo : SlR (W.alloc (.cells #[] 98)) A m 2 ((O.map pairC).take m):=(hsw.rd.below hBx).take_ hmO;have hf1:=hsw.nil;have hrone : ∀ r ∈ (O.map pairC).take m,∀ u ∈ r.toList,u.oneCell' = true:=fun r hr=>(by obtain ⟨y',_,rfl⟩:=List.mem_map.1 (List.mem_of_mem_take hr);exact pairC_one _);have hrone2 : ∀ r ∈ (O.map pairC).drop m,∀ u ∈ r.toList,u.oneCell' = true:=fun r hr=>(by obtain ⟨y',_,rfl⟩:=List.mem_map.1 (List.mem_of_mem_drop hr);exact pairC_one _);go_upto_region 12 with (at_builtin;refine L_appends einfoPair rfl hown0 rfl hslo hf1 hrone (by omega) (by omega) (by simp) ?_;intro A2 cap2 w2 hown2 hk2 hsub2)
                    simp only [Nat.zero_add,List.nil_append] at hown2;have hwW : Below W.heap.size W w2:=hBx.trans (hk2.below (by simp) (by simp [blk]));have hrw2 : rowAt w2 gx (0) 2 = some (pairC d):=(rowAt_of_block (hwW.block gx (rowAt_lt hrx)) _ _).trans hrx;have hB3 : Below w2.heap.size w2 (w2.alloc (.cells (pairC d) 98)):=(Below.refl _ _).alloc (Nat.le_refl _) _;have hown3:=hown2.below hB3;have hrow3 : rowAt (w2.alloc (.cells (pairC d) 98)) w2.heap.size 0 2 = some (pairC d):=by simp [go_sem]
                    have hsz2:=hwW.size;go_upto_region 13 with (at_builtin;refine L_append einfoPair rfl hown3 rfl hrow3 (pairC_one _) (by omega) (by omega) (by simp;omega) ?_;intro A4 cap4 w4 hown4 hk4 hsub4)
                    have hwW4 : Below W.heap.size W w4:=(hwW.trans (hB3.mono hsz2)).trans (hk4.below (by simp;omega) (fun x hx=>(hown2.at_base hx).1));have hs4:=hhs w4 (hsw.rd.below hwW4);have hsz4:=hwW4.size;clear hown3 hrow3 hB3 hown0 hBx hslo hrw2 hlo;go_upto_region 14 with (at_builtin;refine L_appends einfoPair rfl hown4 rfl hs4 hhf hrone2 (by omega) (by omega) (by omega) ?_;intro A5 cap5 w5 hown5 hk5 hsub5)
                    have hwW5 : Below W.heap.size W w5:=hwW4.trans (hk5.below (by omega) (fun x hx=>(hown4.at_base hx).1));have hO5 : (O.map pairC).take m ++ [pairC d] ++ (O.map pairC).drop m = (O.take m ++ d :: O.drop m).map pairC:=by simp [List.map_take,List.map_drop]
                    rw [hO5] at hown5;clear hown4 hown2 hO5 hs4 hhi hhs hrone hrone2 hf1;have hBw5:=hBw.trans (hwW5.mono hBw.size);have hL5 : (O.take m ++ d :: O.drop m).length = m + 1 + (n - m):=by simp [Hlen.out];omega
                    have hOe : O.take m ++ d :: O.drop m = listM (Z.take (k + 1)):=by rw [Htk.out,Hat.out]
                    rw [hOe] at hown5 hL5;have hown6:=hown5.mono hBw.size;have HL:=Lib.hid hL5;clear hown5 hOe hL5;(go_wp2_with fail);go_roundw
                    case rel=>exact ⟨k + 1,A5,m + 1 + (n - m),cap5,by omega,by go_num,rfl,hown6,hBw5⟩
                    case measure=>simp [intOf];omega
        · have hd : decide (m < n) = false:=by simpa using hmlt
          have hat:=insC_at (c:=cmpPair) O d m (by rw [Hlen.out];exact hmO) hlow.out (fun hk'=>absurd (by rw [← Hlen.out];exact hk') hmlt);have Hat:=Lib.hid hat;clear hat;go_upto_region 8 with fail
          refine wp_region_lex (Bel wr) false (by kernel_rfl) (by kernel_rfl) (by kernel_rfl) (bel_drew wr) ?_;have hne:=bel_some wr;have hS:=bel_drew wr;repeat (refine wpLx_loose ?_ ?_;(focus (simp only [chainOp];done));intro K hK;go_simp;refine hK _ ?_;clear hK K)
          refine wpLx_nil ?_;intro hS;clear hne hS;go_upto_region 10 with fail
          refine wp_region_lex (Bel wr.drew) false (by kernel_rfl) (by kernel_rfl) (by kernel_rfl) (bel_drew wr.drew) ?_;have hne:=bel_some wr.drew;have hS:=bel_drew wr.drew;repeat (refine wpLx_loose ?_ ?_;(focus (simp only [chainOp];done));intro K hK;go_simp;refine hK _ ?_;clear hK K)
          refine wpLx_nil ?_;intro hS;have hbz2 : Below V.heap.size V wr.drew.drew:=hbj.drew.drew;have hrx : rowAt wr.drew.drew gx 0 2 = some (pairC d):=hrj;have hsw:=hsw2.below hbz2;have hownw:=hown1.below hbz2;have hBw:=hb1r.trans (hbz2.mono hb1r.size);clear hne hS hbz2 hrj hbj hmlt hd hswj hd0 hd1;obtain ⟨W,hW⟩ : ∃ W,wr.drew.drew = W:=⟨_,rfl⟩
          rw [hW] at hrx hsw hownw hBw ⊢;clear hW;obtain ⟨A,hA1⟩ : ∃ A,A = A1:=⟨_,rfl⟩
          rw [← hA1] at hsw hownw ⊢;clear hA1;obtain ⟨cap,hcap⟩ : ∃ cap,cap = cap1:=⟨_,rfl⟩
          rw [← hcap] at hsw hownw ⊢;clear hcap;have hBx : Below W.heap.size W (W.alloc (.cells #[] 98)):=(Below.refl _ _).alloc (Nat.le_refl _) _;have hown0:=Own.empty W W.heap.size 98 2 (Nat.le_refl _);have hlo : ∀ w0 : World,(slS 23 (.slice A n cap) none (some (.int .i64 m)) none).run Tryz.prog w0 = .ok (.slice A m cap) w0:=fun w0=>SlW.lo einfoPair hsw hmO w0;obtain ⟨Ah,ch,hhi,hhs,hhf⟩:=hsw.hi (P:=Tryz.prog) einfoPair (m:=m) hmO;have hslo : SlR (W.alloc (.cells #[] 98)) A m 2 ((O.map pairC).take m):=(hsw.rd.below hBx).take_ hmO;have hf1:=hsw.nil;have hrone : ∀ r ∈ (O.map pairC).take m,∀ u ∈ r.toList,u.oneCell' = true:=fun r hr=>(by obtain ⟨y',_,rfl⟩:=List.mem_map.1 (List.mem_of_mem_take hr);exact pairC_one _);have hrone2 : ∀ r ∈ (O.map pairC).drop m,∀ u ∈ r.toList,u.oneCell' = true:=fun r hr=>(by obtain ⟨y',_,rfl⟩:=List.mem_map.1 (List.mem_of_mem_drop hr);exact pairC_one _);go_upto_region 12 with (at_builtin;refine L_appends einfoPair rfl hown0 rfl hslo hf1 hrone (by omega) (by omega) (by simp) ?_;intro A2 cap2 w2 hown2 hk2 hsub2)
          simp only [Nat.zero_add,List.nil_append] at hown2;have hwW : Below W.heap.size W w2:=hBx.trans (hk2.below (by simp) (by simp [blk]));have hrw2 : rowAt w2 gx (0) 2 = some (pairC d):=(rowAt_of_block (hwW.block gx (rowAt_lt hrx)) _ _).trans hrx;have hB3 : Below w2.heap.size w2 (w2.alloc (.cells (pairC d) 98)):=(Below.refl _ _).alloc (Nat.le_refl _) _;have hown3:=hown2.below hB3;have hrow3 : rowAt (w2.alloc (.cells (pairC d) 98)) w2.heap.size 0 2 = some (pairC d):=by simp [go_sem]
          have hsz2:=hwW.size;go_upto_region 13 with (at_builtin;refine L_append einfoPair rfl hown3 rfl hrow3 (pairC_one _) (by omega) (by omega) (by simp;omega) ?_;intro A4 cap4 w4 hown4 hk4 hsub4)
          have hwW4 : Below W.heap.size W w4:=(hwW.trans (hB3.mono hsz2)).trans (hk4.below (by simp;omega) (fun x hx=>(hown2.at_base hx).1));have hs4:=hhs w4 (hsw.rd.below hwW4);have hsz4:=hwW4.size;clear hown3 hrow3 hB3 hown0 hBx hslo hrw2 hlo;go_upto_region 14 with (at_builtin;refine L_appends einfoPair rfl hown4 rfl hs4 hhf hrone2 (by omega) (by omega) (by omega) ?_;intro A5 cap5 w5 hown5 hk5 hsub5)
          have hwW5 : Below W.heap.size W w5:=hwW4.trans (hk5.below (by omega) (fun x hx=>(hown4.at_base hx).1));have hO5 : (O.map pairC).take m ++ [pairC d] ++ (O.map pairC).drop m = (O.take m ++ d :: O.drop m).map pairC:=by simp [List.map_take,List.map_drop]
          rw [hO5] at hown5;clear hown4 hown2 hO5 hs4 hhi hhs hrone hrone2 hf1;have hBw5:=hBw.trans (hwW5.mono hBw.size);have hL5 : (O.take m ++ d :: O.drop m).length = m + 1 + (n - m):=by simp [Hlen.out];omega
          have hOe : O.take m ++ d :: O.drop m = listM (Z.take (k + 1)):=by rw [Htk.out,Hat.out]
          rw [hOe] at hown5 hL5;have hown6:=hown5.mono hBw.size;have HL:=Lib.hid hL5;clear hown5 hOe hL5;(go_wp2_with fail);go_roundw
          case rel=>exact ⟨k + 1,A5,m + 1 + (n - m),cap5,by omega,by go_num,rfl,hown6,hBw5⟩
          case measure=>simp [intOf];omega
    · have e : Z.take k = Z:=List.take_of_length_le (by rw [Hnz.out];omega);rw [e] at hown;clear e;(go_wp2_with fail);go_ret;exact ⟨A1,n,cap1,rfl,hown.mono hb1.size,bel2 hb1 hb⟩
end
section
open Go.RowKit
theorem einfoRow : ElemInfo Tryz.prog 61 207 35 72 :=
  .of (z:=.agg (rowC row0)) Tryz.underlying61 (by kernel_rfl) (by kernel_rfl) (by kernel_rfl) (rowC_size _) (by omega)
@[go_sem ↓] theorem bsRow_rw (n : Nat) (parts : Array (Nat × Value)) : Instr.buildSlice 61 n parts = bsS 61 n parts:=rfl
@[go_sem] theorem bsRow_run (w : World) (x : Row) : (bsS 61 1 #[(0,.agg (rowC x))]).run Tryz.prog w = .ok (.slice (some ⟨w.heap.size,0,none⟩) 1 1) (w.alloc (.cells (rowC x) 207)) :=
  run_bsS1 einfoRow (by omega) w (rowC x) (rowC_size x)
@[go_sem] theorem bsRow0_run (w : World) : (bsS 61 0 #[]).run Tryz.prog w = .ok (.slice (some ⟨w.heap.size,0,none⟩) 0 0) (w.alloc (.cells #[] 207)):=run_bsS0 einfoRow w
abbrev OwnLR (w : World) (B : Nat) (A : Option Addr) (cap : Nat) (R : List Row) : Prop:=Own w B 207 35 A R.length cap (R.map rowC)
set_option maxRecDepth 100000 in
set_option maxHeartbeats 4000000 in
theorem rlatest (w : World) (A : Option Addr) (n cap : Nat) (R : List Row) (h : LRowsIn w A n R) (hn : n ≤ 1000000) :
    Calls Tryz.prog 151 #[.slice A n cap] w fun e w'=>∃ A' cap',e = .returned (.slice A' (latestR R).length cap') ∧ OwnLR w' w.heap.size A' cap' (latestR R) ∧ Below w.heap.size w w':=by
  have hlen:=LRowsIn.len h;go_enter Tryz.func151,Tryz.ntmps151
  (go_wp2_with fail);go_loopw [3,4] (fun out i wr=>∃ (k : Nat) (A1 : Option Addr) (cap1 : Nat),k ≤ n ∧ i = .int .i64 k ∧ out = .slice A1 (latestR (R.take k)).length cap1 ∧ OwnLR wr w.heap.size A1 cap1 (latestR (R.take k)) ∧ Below w.heap.size w wr) (fun _ i _=>n - (intOf i).toNat)
  case atStart=>exact ⟨0,none,0,Nat.zero_le _,rfl,rfl,Own.nil _ _ _ _,Below.refl _ _⟩
  case round =>
    obtain ⟨k,A1,cap1,hk,rfl,rfl,hown,hb⟩:=hrel;by_cases hlt : k < n
    · obtain ⟨q,o,rfl,hr,hkey,_,_,_⟩:=LRowsIn.get (SlR.below h hb) hlt (by omega);have htk : latestR (R.take (k + 1)) = insR (latestR (R.take k)) R[k]:=by
        rw [List.take_add_one,List.getElem?_eq_getElem (by omega),Option.toList_some,latestR_snoc]
      have hol : (latestR (R.take k)).length ≤ 1000000:=by have:=latestR_length (R.take k);simp at this;omega
      obtain ⟨O,hO⟩ : ∃ O,latestR (R.take k) = O:=⟨_,rfl⟩
      obtain ⟨x,hx⟩ : ∃ x,R[k]'(by omega) = x:=⟨_,rfl⟩
      rw [hx] at hr hkey htk;rw [hO] at htk hol hown ⊢;have Htk:=Lib.hid htk;clear hx hO htk;obtain ⟨WR,rfl⟩ : ∃ WR,WR = wr:=⟨wr,rfl⟩
      have hsl : LRowsIn WR A1 O.length O:=hown.slr;(go_wp2_with fail);go_loopw [5] (fun j wj=>∃ m : Nat,m ≤ O.length ∧ j = .int .i64 m ∧ Hid (∀ i (hi : i < O.length),i < m → cmpS (O[i]).key x.key < 0) ∧ Below WR.heap.size WR wj) (fun j _=>O.length - (intOf j).toNat)
      case atStart=>exact ⟨0,Nat.zero_le _,rfl,(show ∀ i (hi : i < O.length),i < 0 → _ from fun i _ h=>absurd h (by omega)),Below.refl _ _⟩
      case round =>
        obtain ⟨m,hm,rfl,hlow,hbj⟩:=hrel;have hkeyj:=(hbj.cell (p:=⟨q,o + k * 35,none⟩) (World.block_lt_of_cell? WR _ hkey)).trans hkey;by_cases hmlt : m < O.length
        · obtain ⟨g,og,rfl,hrO,hkO,_,_,_⟩:=LRowsIn.get (SlR.below hsl hbj) hmlt (by omega);obtain rfl : og = 0:=by
            rcases hown.addr with e | ⟨g',e⟩
            · cases e
            · injection e with e;injection e
          rw [Nat.zero_add] at hrO hkO;obtain ⟨y,hy⟩ : ∃ y,O[m]'hmlt = y:=⟨_,rfl⟩
          rw [hy] at hkO hrO;have Hy:=Lib.hid hy;clear hy;cases hbl : bltS y.key x.key with
          | true =>
            have hbl' : Op.bytesLess y.key.toList x.key.toList = true:=hbl;go_upto_region 6 with fail
            refine wp_region_lex (Bel wr) false (by kernel_rfl) (by kernel_rfl) (by kernel_rfl) (bel_drew wr) ?_;have hne:=bel_some wr;have hS:=bel_drew wr;have b1:=sub_cell hkeyj;have b2:=sub_cell hkO;repeat (refine wpLx_loose ?_ ?_;(focus (simp only [chainOp];done));intro K hK;go_simp;refine hK _ ?_;clear hK K)
            refine wpLx_nil ?_;intro hS;clear b1 b2 hne hS;have hlt' : cmpS y.key x.key < 0:=by have:=bltS_cmp y.key x.key;rw [hbl] at this;simpa using this.symm
            have Hlt:=Lib.hid hlt';clear hlt' hbl hbl';(go_wp2_with fail);go_roundw
            case rel =>
              refine ⟨m + 1,by omega,by go_num,(show ∀ i (hi : i < O.length),i < m + 1 → cmpS (O[i]).key x.key < 0 from fun i hi hlt=>?_),hbj.drew⟩;by_cases e : i = m
              · subst e;rw [Hy.out];exact Hlt.out
              · exact hlow.out i hi (by omega)
            case measure=>simp [intOf];omega
          | false =>
            have hbl' : Op.bytesLess y.key.toList x.key.toList = false:=hbl;have hge : ¬ cmpS y.key x.key < 0:=by have:=bltS_cmp y.key x.key;rw [hbl] at this;simpa using this.symm
            have Hge:=Lib.hid hge;go_upto_region 6 with fail
            refine wp_region_lex (Bel wr) false (by kernel_rfl) (by kernel_rfl) (by kernel_rfl) (bel_drew wr) ?_;have hne:=bel_some wr;have hS:=bel_drew wr;have b1:=sub_cell hkeyj;have b2:=sub_cell hkO;repeat (refine wpLx_loose ?_ ?_;(focus (simp only [chainOp];done));intro K hK;go_simp;refine hK _ ?_;clear hK K)
            refine wpLx_nil ?_;intro hS;clear b1 b2 hne hS hge hbl hbl';have hbj2:=hbj.drew;have hat:=insR_at O x m (by omega) hlow.out (fun hk'=>by rw [Hy.out];exact Hge.out);cases heq : (y.key.toList == x.key.toList) with
            | true =>
              go_upto_region 8 with fail
              refine wp_region_lex (Bel wr.drew) false (by kernel_rfl) (by kernel_rfl) (by kernel_rfl) (bel_drew wr.drew) ?_;have hne:=bel_some wr.drew;have hS:=bel_drew wr.drew;have b1:=sub_cell (W:=wr.drew) hkeyj;have b2:=sub_cell (W:=wr.drew) hkO;repeat (refine wpLx_loose ?_ ?_;(focus (simp only [chainOp];done));intro K hK;go_simp;refine hK _ ?_;clear hK K)
              refine wpLx_nil ?_;intro hS;clear b1 b2 hne hS;have hrj : rowAt wr q (o + k * 35) 35 = some (rowC x):=(rowAt_of_block (hbj.block q (rowAt_lt hr)) _ _).trans hr;have c9:=rlater x y wr.drew.drew.drew;go_upto_region 9 with fail
              refine wp_region_lex (Bel wr.drew.drew) false (by kernel_rfl) (by kernel_rfl) (by kernel_rfl) (bel_drew wr.drew.drew) ?_;have hne:=bel_some wr.drew.drew;have hS:=bel_drew wr.drew.drew;have b1:=sub_row (W:=wr.drew.drew) hrj;have b2:=sub_row (W:=wr.drew.drew) hrO;repeat (refine wpLx_loose ?_ ?_;(focus (simp only [chainOp];done));intro K hK;go_simp;refine hK _ ?_;clear hK K)
              refine wpLx_chain ?_ ?_ ?_;(focus (exact hS));(focus (simp only [chainOp];done));intro K hK;go_simp;refine (c9).mono ?_;rintro e w' ⟨rfl,hb⟩;replace hS:=bel_next hS hb;refine ⟨_,rfl,hS,hK _ _ ?_⟩;clear hK K hb;repeat (refine wpLx_loose ?_ ?_;(focus (simp only [chainOp];done));intro K hK;go_simp;refine hK _ ?_;clear hK K)
              refine wpLx_nil ?_;intro hS;have hS' : Below wr.drew.drew.heap.size wr.drew.drew w':=hS;have hbw' : Below WR.heap.size WR w':=hbj2.drew.trans (hS'.mono hbj2.size);have hk1 : (O[m]?).map (·.key) = some x.key:=by
                rw [List.getElem?_eq_getElem hmlt,Hy.out];have:=beq_iff_eq.1 heq;simp [toList_inj.1 this]
              rw [dif_pos ⟨hmlt,hk1⟩] at hat;simp only [Hy.out] at hat;have Hat:=Lib.hid hat;clear hat b1 b2 hne hS c9 heq hk1;have hownw:=hown.below hbw';have hrw : rowAt w' q (o + k * 35) 35 = some (rowC x):=(rowAt_of_block (hbw'.block q (rowAt_lt hr)) _ _).trans hr;have hBw:=hb.trans (hbw'.mono hb.size);cases hlater : laterB x y with
              | true =>
                have hat2:=Hat.out;rw [if_pos hlater] at hat2;obtain ⟨w6,hst,hown6,hk6⟩:=own_store einfoRow hownw hmlt (rowC_size x) (rowC_one x);have hgw:=(hown.at_base (x:=g) (by simp [blk])).1;have hBw6 : Below w.heap.size w w6:=hBw.trans (hk6.below hBw.size (by simpa using hgw));rw [← List.map_set,← hat2] at hown6;have hl6 : O.length = (insR O x).length:=by rw [hat2,List.length_set]
                have Hl6:=Lib.hid hl6;have Hat2:=Lib.hid hat2;clear hat2 hl6;(go_wp2_with fail);go_roundw
                case rel=>exact ⟨k + 1,_,cap1,by omega,by go_num,(by rw [Htk.out,← Hl6.out]),(by rw [Htk.out];show Own _ _ _ _ _ _ _ _;rw [← Hl6.out];exact hown6),hBw6⟩
                case measure=>simp [intOf];omega
              | false =>
                have hat2:=Hat.out;rw [if_neg (by rw [hlater];simp)] at hat2;have Hat2:=Lib.hid hat2;clear hat2;(go_wp2_with fail);go_roundw
                case rel=>exact ⟨k + 1,_,cap1,by omega,by go_num,(by rw [Htk.out,Hat2.out]),(by rw [Htk.out,Hat2.out];exact hownw),hBw⟩
                case measure=>simp [intOf];omega
            | false =>
              go_upto_region 8 with fail
              refine wp_region_lex (Bel wr.drew) false (by kernel_rfl) (by kernel_rfl) (by kernel_rfl) (bel_drew wr.drew) ?_;have hne:=bel_some wr.drew;have hS:=bel_drew wr.drew;have b1:=sub_cell (W:=wr.drew) hkeyj;have b2:=sub_cell (W:=wr.drew) hkO;repeat (refine wpLx_loose ?_ ?_;(focus (simp only [chainOp];done));intro K hK;go_simp;refine hK _ ?_;clear hK K)
              refine wpLx_nil ?_;intro hS;clear b1 b2 hne hS;have hk1 : ¬ (m < O.length ∧ (O[m]?).map (·.key) = some x.key):=by
                rintro ⟨_,hh⟩;rw [List.getElem?_eq_getElem hmlt,Hy.out] at hh;have e1 : y.key = x.key:=by simpa using hh
                rw [e1] at heq;simp at heq
              rw [dif_neg hk1] at hat;have Hat:=Lib.hid hat;have hbw' : Below WR.heap.size WR wr.drew.drew:=hbj2.drew;have hownw:=hown.below hbw';have hrw : rowAt wr.drew.drew q (o + k * 35) 35 = some (rowC x):=(rowAt_of_block (hbw'.block q (rowAt_lt hr)) _ _).trans hr;have hBw:=hb.trans (hbw'.mono hb.size);clear hat hk1 heq hkO hrO hkeyj;generalize wr.drew.drew = W at *;have hcap:=hownw.cap_le.1;have hmc : m ≤ cap1:=by omega
              have hmc2 : ¬ m = cap1:=by omega
              have hsWf : ∀ w',Below W.heap.size W w' → SlR w' (some ⟨g,0,none⟩) m 35 ((O.map rowC).take m):=fun w' hb=>(hownw.below hb).slr.take_ (m:=m) (by omega);have hs4f : ∀ w',Below W.heap.size W w' → SlR w' (some ⟨g,m * 35,none⟩) (O.length - m) 35 ((O.map rowC).drop m):=fun w' hb=>(by have:=(hownw.below hb).slr.drop_ (m:=m) (by omega);rwa [Nat.zero_add] at this);have hf1 : (some ⟨g,0,none⟩ : Option Addr) = none → cap1 = 0:=nofun;have hf2 : (some ⟨g,m * 35,none⟩ : Option Addr) = none → cap1 - m = 0:=nofun;have hown0:=Own.empty W W.heap.size 207 35 (Nat.le_refl _);have hBW : Below W.heap.size W (W.alloc (.cells #[] 207)):=(Below.refl _ _).alloc (Nat.le_refl _) _;have hsW:=hsWf _ hBW;have hrone : ∀ r ∈ (O.map rowC).take m,∀ u ∈ r.toList,u.oneCell' = true:=fun r hr=>(by obtain ⟨y',_,rfl⟩:=List.mem_map.1 (List.mem_of_mem_take hr);exact rowC_one _);have hrone2 : ∀ r ∈ (O.map rowC).drop m,∀ u ∈ r.toList,u.oneCell' = true:=fun r hr=>(by obtain ⟨y',_,rfl⟩:=List.mem_map.1 (List.mem_of_mem_drop hr);exact rowC_one _);go_upto_region 12 with (at_builtin;refine L_appends einfoRow rfl hown0 rfl hsW hf1 hrone (by omega) (by omega) (by simp) ?_;intro A2 cap2 w2 hown2 hk2 hsub2)
              simp only [Nat.zero_add,List.nil_append] at hown2;have hwW : Below W.heap.size W w2:=(hBW).trans (hk2.below (by simp) (by simp [blk]));have hrw2 : rowAt w2 q (o + k * 35) 35 = some (rowC x):=(rowAt_of_block (hwW.block q (rowAt_lt hrw)) _ _).trans hrw;have hB3 : Below w2.heap.size w2 (w2.alloc (.cells (rowC x) 207)):=(Below.refl _ _).alloc (Nat.le_refl _) _;have hown3:=hown2.below hB3;have hrow3 : rowAt (w2.alloc (.cells (rowC x) 207)) w2.heap.size 0 35 = some (rowC x):=by simp [go_sem]
              have hsz2:=hwW.size;go_upto_region 13 with (at_builtin;refine L_append einfoRow rfl hown3 rfl hrow3 (rowC_one _) (by omega) (by omega) (by simp;omega) ?_;intro A4 cap4 w4 hown4 hk4 hsub4)
              have hwW4 : Below W.heap.size W w4:=(hwW.trans (hB3.mono hsz2)).trans (hk4.below (by simp;omega) (fun x hx=>(hown2.at_base hx).1));have hs4:=hs4f _ hwW4;have hsz4:=hwW4.size;clear hown3 hrow3 hB3 hown0 hBW hsW hrw2 hsWf hs4f;go_upto_region 14 with (at_builtin;refine L_appends einfoRow rfl hown4 rfl hs4 hf2 hrone2 (by omega) (by omega) (by omega) ?_;intro A5 cap5 w5 hown5 hk5 hsub5)
              have hwW5 : Below W.heap.size W w5:=hwW4.trans (hk5.below (by omega) (fun x hx=>(hown4.at_base hx).1));have hBW5:=hBw.trans (hwW5.mono hBw.size);have hO5 : (O.map rowC).take m ++ [rowC x] ++ (O.map rowC).drop m = (latestR (R.take (k + 1))).map rowC:=by rw [Htk.out,Hat.out];simp [List.map_take,List.map_drop]
              have hL5 : (latestR (R.take (k + 1))).length = m + 1 + (O.length - m):=by rw [Htk.out,Hat.out];simp;omega
              rw [hO5] at hown5;have hown6:=hown5.mono hBw.size;have HL:=Lib.hid hL5;clear hown5 hown4 hown2 hO5 hL5 hs4;(go_wp2_with fail);go_roundw
              case rel=>exact ⟨k + 1,A5,cap5,by omega,by go_num,(by rw [HL.out]),(show Own _ _ _ _ _ _ _ _ by rw [HL.out];exact hown6),hBW5⟩
              case measure=>simp [intOf];omega
        · have hmO : m = O.length:=by omega
          have HmO:=Lib.hid hmO;have hat:=insR_at O x m hm hlow.out (fun hk'=>absurd hk' (by omega));rw [dif_neg (fun hh=>absurd hh.1 (by omega))] at hat;have Hat:=Lib.hid hat;have hd : decide (m < O.length) = false:=by simpa using hmlt
          clear hat hmO hmlt hm;go_upto_region 6 with fail
          refine wp_region_lex (Bel wr) false (by kernel_rfl) (by kernel_rfl) (by kernel_rfl) (bel_drew wr) ?_;have hne:=bel_some wr;have hS:=bel_drew wr;repeat (refine wpLx_loose ?_ ?_;(focus (simp only [chainOp];done));intro K hK;go_simp;refine hK _ ?_;clear hK K)
          refine wpLx_nil ?_;intro hS;clear hne hS;go_upto_region 8 with fail
          refine wp_region_lex (Bel wr.drew) false (by kernel_rfl) (by kernel_rfl) (by kernel_rfl) (bel_drew wr.drew) ?_;have hne:=bel_some wr.drew;have hS:=bel_drew wr.drew;repeat (refine wpLx_loose ?_ ?_;(focus (simp only [chainOp];done));intro K hK;go_simp;refine hK _ ?_;clear hK K)
          refine wpLx_nil ?_;intro hS;clear hne hS;have hbw' : Below WR.heap.size WR wr.drew.drew:=hbj.drew.drew;have hownw:=hown.below hbw';have hrw : rowAt wr.drew.drew q (o + k * 35) 35 = some (rowC x):=(rowAt_of_block (hbw'.block q (rowAt_lt hr)) _ _).trans hr;have hBw:=hb.trans (hbw'.mono hb.size);clear hkeyj hd;generalize wr.drew.drew = W at *;have hcap:=hownw.cap_le;have hdrop : (O.map rowC).drop m = []:=List.drop_eq_nil_of_le (by simp [HmO.out]);have hml : m ≤ 1000000:=by have:=HmO.out;omega
          rcases hown.addr with rfl | ⟨g,rfl⟩
          · obtain ⟨hO0,rfl⟩:=hcap.2 rfl;have hm0 : m = 0:=by have:=HmO.out;omega
            subst hm0;have hO : O = []:=List.eq_nil_of_length_eq_zero hO0;have HO:=Lib.hid hO;have hsWf : ∀ w',Below W.heap.size W w' → SlR w' none 0 35 ((O.map rowC).take 0):=fun w' hb=>(by rw [HO.out];exact SlR.nil_);have hs4f : ∀ w',Below W.heap.size W w' → SlR w' none O.length 35 ((O.map rowC).drop 0):=fun w' hb=>(by rw [HO.out];exact SlR.nil_);have hf1 : (none : Option Addr) = none → 0 = 0:=fun _=>rfl;have hf2 : (none : Option Addr) = none → 0 = 0:=fun _=>rfl;clear hO0 hO hcap hml hdrop;have hown0:=Own.empty W W.heap.size 207 35 (Nat.le_refl _);have hBW : Below W.heap.size W (W.alloc (.cells #[] 207)):=(Below.refl _ _).alloc (Nat.le_refl _) _;have hsW:=hsWf _ hBW;have hrone : ∀ r ∈ (O.map rowC).take 0,∀ u ∈ r.toList,u.oneCell' = true:=fun r hr=>(by obtain ⟨y',_,rfl⟩:=List.mem_map.1 (List.mem_of_mem_take hr);exact rowC_one _);have hrone2 : ∀ r ∈ (O.map rowC).drop 0,∀ u ∈ r.toList,u.oneCell' = true:=fun r hr=>(by obtain ⟨y',_,rfl⟩:=List.mem_map.1 (List.mem_of_mem_drop hr);exact rowC_one _);go_upto_region 12 with (at_builtin;refine L_appends einfoRow rfl hown0 rfl hsW hf1 hrone (by omega) (by omega) (by simp) ?_;intro A2 cap2 w2 hown2 hk2 hsub2)
            simp only [Nat.zero_add,List.nil_append] at hown2;have hwW : Below W.heap.size W w2:=(hBW).trans (hk2.below (by simp) (by simp [blk]));have hrw2 : rowAt w2 q (o + k * 35) 35 = some (rowC x):=(rowAt_of_block (hwW.block q (rowAt_lt hrw)) _ _).trans hrw;have hB3 : Below w2.heap.size w2 (w2.alloc (.cells (rowC x) 207)):=(Below.refl _ _).alloc (Nat.le_refl _) _;have hown3:=hown2.below hB3;have hrow3 : rowAt (w2.alloc (.cells (rowC x) 207)) w2.heap.size 0 35 = some (rowC x):=by simp [go_sem]
            have hsz2:=hwW.size;go_upto_region 13 with (at_builtin;refine L_append einfoRow rfl hown3 rfl hrow3 (rowC_one _) (by omega) (by omega) (by simp;omega) ?_;intro A4 cap4 w4 hown4 hk4 hsub4)
            have hwW4 : Below W.heap.size W w4:=(hwW.trans (hB3.mono hsz2)).trans (hk4.below (by simp;omega) (fun x hx=>(hown2.at_base hx).1));have hs4:=hs4f _ hwW4;have hsz4:=hwW4.size;clear hown3 hrow3 hB3 hown0 hBW hsW hrw2 hsWf hs4f;go_upto_region 14 with (at_builtin;refine L_appends einfoRow rfl hown4 rfl hs4 hf2 hrone2 (by omega) (by omega) (by omega) ?_;intro A5 cap5 w5 hown5 hk5 hsub5)
            have hwW5 : Below W.heap.size W w5:=hwW4.trans (hk5.below (by omega) (fun x hx=>(hown4.at_base hx).1));have hBW5:=hBw.trans (hwW5.mono hBw.size);have hO5 : (O.map rowC).take 0 ++ [rowC x] ++ (O.map rowC).drop 0 = (latestR (R.take (k + 1))).map rowC:=by rw [Htk.out,Hat.out];simp [List.map_take,List.map_drop]
            have hL5 : (latestR (R.take (k + 1))).length = 0 + 1 + O.length:=by rw [Htk.out,Hat.out];simp;omega
            rw [hO5] at hown5;have hown6:=hown5.mono hBw.size;have HL:=Lib.hid hL5;clear hown5 hown4 hown2 hO5 hL5 hs4;(go_wp2_with fail);go_roundw
            case rel=>exact ⟨k + 1,A5,cap5,by omega,by go_num,(by rw [HL.out]),(show Own _ _ _ _ _ _ _ _ by rw [HL.out];exact hown6),hBW5⟩
            case measure=>simp [intOf];omega
          · have hmc : m ≤ cap1:=by have:=hcap.1;have:=HmO.out;omega
            have hsWf : ∀ w',Below W.heap.size W w' → SlR w' (some ⟨g,0,none⟩) m 35 ((O.map rowC).take m):=fun w' hb=>(hownw.below hb).slr.take_ (m:=m) (by have:=HmO.out;omega);have hf1 : (some ⟨g,0,none⟩ : Option Addr) = none → cap1 = 0:=nofun;clear hcap;have hmz : m ≤ O.length:=by have:=HmO.out;omega
            have hs4g : ∀ w' A',SlR w' A' (O.length - m) 35 ((O.map rowC).drop m):=fun w' A'=>(by rw [hdrop,HmO.out,Nat.sub_self];exact ⟨rfl,fun h=>absurd h (by omega)⟩);clear hdrop;by_cases hmc2 : m = cap1
            · have Hmc2:=Lib.hid hmc2;obtain rfl : m = cap1:=hmc2;have hs4f : ∀ w',Below W.heap.size W w' → SlR w' (some ⟨g,0,none⟩) (O.length - m) 35 ((O.map rowC).drop m):=fun w' _=>hs4g w' _;have hf2 : (some ⟨g,0,none⟩ : Option Addr) = none → 0 = 0:=nofun;clear hs4g;have hown0:=Own.empty W W.heap.size 207 35 (Nat.le_refl _);have hBW : Below W.heap.size W (W.alloc (.cells #[] 207)):=(Below.refl _ _).alloc (Nat.le_refl _) _;have hsW:=hsWf _ hBW;have hrone : ∀ r ∈ (O.map rowC).take m,∀ u ∈ r.toList,u.oneCell' = true:=fun r hr=>(by obtain ⟨y',_,rfl⟩:=List.mem_map.1 (List.mem_of_mem_take hr);exact rowC_one _);have hrone2 : ∀ r ∈ (O.map rowC).drop m,∀ u ∈ r.toList,u.oneCell' = true:=fun r hr=>(by obtain ⟨y',_,rfl⟩:=List.mem_map.1 (List.mem_of_mem_drop hr);exact rowC_one _);go_upto_region 12 with (at_builtin;refine L_appends einfoRow rfl hown0 rfl hsW hf1 hrone (by omega) (by omega) (by simp) ?_;intro A2 cap2 w2 hown2 hk2 hsub2)
              simp only [Nat.zero_add,List.nil_append] at hown2;have hwW : Below W.heap.size W w2:=(hBW).trans (hk2.below (by simp) (by simp [blk]));have hrw2 : rowAt w2 q (o + k * 35) 35 = some (rowC x):=(rowAt_of_block (hwW.block q (rowAt_lt hrw)) _ _).trans hrw;have hB3 : Below w2.heap.size w2 (w2.alloc (.cells (rowC x) 207)):=(Below.refl _ _).alloc (Nat.le_refl _) _;have hown3:=hown2.below hB3;have hrow3 : rowAt (w2.alloc (.cells (rowC x) 207)) w2.heap.size 0 35 = some (rowC x):=by simp [go_sem]
              have hsz2:=hwW.size;go_upto_region 13 with (at_builtin;refine L_append einfoRow rfl hown3 rfl hrow3 (rowC_one _) (by omega) (by omega) (by simp;omega) ?_;intro A4 cap4 w4 hown4 hk4 hsub4)
              have hwW4 : Below W.heap.size W w4:=(hwW.trans (hB3.mono hsz2)).trans (hk4.below (by simp;omega) (fun x hx=>(hown2.at_base hx).1));have hs4:=hs4f _ hwW4;have hsz4:=hwW4.size;clear hown3 hrow3 hB3 hown0 hBW hsW hrw2 hsWf hs4f;go_upto_region 14 with (at_builtin;refine L_appends einfoRow rfl hown4 rfl hs4 hf2 hrone2 (by omega) (by omega) (by omega) ?_;intro A5 cap5 w5 hown5 hk5 hsub5)
              have hwW5 : Below W.heap.size W w5:=hwW4.trans (hk5.below (by omega) (fun x hx=>(hown4.at_base hx).1));have hBW5:=hBw.trans (hwW5.mono hBw.size);have hO5 : (O.map rowC).take m ++ [rowC x] ++ (O.map rowC).drop m = (latestR (R.take (k + 1))).map rowC:=by rw [Htk.out,Hat.out];simp [List.map_take,List.map_drop]
              have hL5 : (latestR (R.take (k + 1))).length = m + 1 + (O.length - m):=by rw [Htk.out,Hat.out];simp;omega
              rw [hO5] at hown5;have hown6:=hown5.mono hBw.size;have HL:=Lib.hid hL5;clear hown5 hown4 hown2 hO5 hL5 hs4;(go_wp2_with fail);go_roundw
              case rel=>exact ⟨k + 1,A5,cap5,by omega,by go_num,(by rw [HL.out]),(show Own _ _ _ _ _ _ _ _ by rw [HL.out];exact hown6),hBW5⟩
              case measure=>simp [intOf];omega
            · have hs4f : ∀ w',Below W.heap.size W w' → SlR w' (some ⟨g,m * 35,none⟩) (O.length - m) 35 ((O.map rowC).drop m):=fun w' _=>hs4g w' _;have hf2 : (some ⟨g,m * 35,none⟩ : Option Addr) = none → cap1 - m = 0:=nofun;clear hs4g;have hown0:=Own.empty W W.heap.size 207 35 (Nat.le_refl _);have hBW : Below W.heap.size W (W.alloc (.cells #[] 207)):=(Below.refl _ _).alloc (Nat.le_refl _) _;have hsW:=hsWf _ hBW;have hrone : ∀ r ∈ (O.map rowC).take m,∀ u ∈ r.toList,u.oneCell' = true:=fun r hr=>(by obtain ⟨y',_,rfl⟩:=List.mem_map.1 (List.mem_of_mem_take hr);exact rowC_one _);have hrone2 : ∀ r ∈ (O.map rowC).drop m,∀ u ∈ r.toList,u.oneCell' = true:=fun r hr=>(by obtain ⟨y',_,rfl⟩:=List.mem_map.1 (List.mem_of_mem_drop hr);exact rowC_one _);go_upto_region 12 with (at_builtin;refine L_appends einfoRow rfl hown0 rfl hsW hf1 hrone (by omega) (by omega) (by simp) ?_;intro A2 cap2 w2 hown2 hk2 hsub2)
              simp only [Nat.zero_add,List.nil_append] at hown2;have hwW : Below W.heap.size W w2:=(hBW).trans (hk2.below (by simp) (by simp [blk]));have hrw2 : rowAt w2 q (o + k * 35) 35 = some (rowC x):=(rowAt_of_block (hwW.block q (rowAt_lt hrw)) _ _).trans hrw;have hB3 : Below w2.heap.size w2 (w2.alloc (.cells (rowC x) 207)):=(Below.refl _ _).alloc (Nat.le_refl _) _;have hown3:=hown2.below hB3;have hrow3 : rowAt (w2.alloc (.cells (rowC x) 207)) w2.heap.size 0 35 = some (rowC x):=by simp [go_sem]
              have hsz2:=hwW.size;go_upto_region 13 with (at_builtin;refine L_append einfoRow rfl hown3 rfl hrow3 (rowC_one _) (by omega) (by omega) (by simp;omega) ?_;intro A4 cap4 w4 hown4 hk4 hsub4)
              have hwW4 : Below W.heap.size W w4:=(hwW.trans (hB3.mono hsz2)).trans (hk4.below (by simp;omega) (fun x hx=>(hown2.at_base hx).1));have hs4:=hs4f _ hwW4;have hsz4:=hwW4.size;clear hown3 hrow3 hB3 hown0 hBW hsW hrw2 hsWf hs4f;go_upto_region 14 with (at_builtin;refine L_appends einfoRow rfl hown4 rfl hs4 hf2 hrone2 (by omega) (by omega) (by omega) ?_;intro A5 cap5 w5 hown5 hk5 hsub5)
              have hwW5 : Below W.heap.size W w5:=hwW4.trans (hk5.below (by omega) (fun x hx=>(hown4.at_base hx).1));have hBW5:=hBw.trans (hwW5.mono hBw.size);have hO5 : (O.map rowC).take m ++ [rowC x] ++ (O.map rowC).drop m = (latestR (R.take (k + 1))).map rowC:=by rw [Htk.out,Hat.out];simp [List.map_take,List.map_drop]
              have hL5 : (latestR (R.take (k + 1))).length = m + 1 + (O.length - m):=by rw [Htk.out,Hat.out];simp;omega
              rw [hO5] at hown5;have hown6:=hown5.mono hBw.size;have HL:=Lib.hid hL5;clear hown5 hown4 hown2 hO5 hL5 hs4;(go_wp2_with fail);go_roundw
              case rel=>exact ⟨k + 1,A5,cap5,by omega,by go_num,(by rw [HL.out]),(show Own _ _ _ _ _ _ _ _ by rw [HL.out];exact hown6),hBW5⟩
              case measure=>simp [intOf];omega
    · (go_wp2_with fail);go_ret;have e : k = n:=by omega
      have e2 : R.take k = R:=List.take_of_length_le (by omega);refine ⟨A1,cap1,?_,(by rw [e2] at hown;exact hown),hb⟩;rw [e2];rfl
end
section
open Go.RowKit
def pairR (x : Row) : Pair:=⟨x.key,x.val⟩
abbrev OwnP (w : World) (B : Nat) (A : Option Addr) (cap : Nat) (L : List Pair) : Prop:=Own w B 98 2 A L.length cap (L.map pairC)
set_option maxRecDepth 100000 in
set_option maxHeartbeats 1000000 in
theorem rlistL (w : World) (A : Option Addr) (n cap : Nat) (R : List Row) (h : LRowsIn w A n R) (hn : n ≤ 1000000) :
    Calls Tryz.prog 75 #[.slice A n cap] w fun e w'=>∃ A' cap',e = .returned (.slice A' ((latestR R).map pairR).length cap') ∧ OwnP w' w.heap.size A' cap' ((latestR R).map pairR) ∧ Below w.heap.size w w':=by
  have hol : (latestR R).length ≤ 1000000:=by have:=latestR_length R;have:=LRowsIn.len h;omega
  obtain ⟨O,hO⟩ : ∃ O,latestR R = O:=⟨_,rfl⟩
  have c1:=rlatest w A n cap R h hn;rw [hO] at c1 hol ⊢;clear hO;go_enter Tryz.func75,Tryz.ntmps75
  (go_wp2_with fail);refine c1.mono ?_;rintro e w1 ⟨A1,cap1,rfl,hown1,hb1⟩;have hs1 : LRowsIn w1 A1 O.length O:=hown1.slr;clear c1;(go_wp2_with fail);go_loopw [3,5] (fun out i wr=>∃ (k : Nat) (A2 : Option Addr) (cap2 : Nat),k ≤ O.length ∧ i = .int .i64 k ∧ out = .slice A2 k cap2 ∧ Own wr w1.heap.size 98 2 A2 k cap2 (((O.take k).map pairR).map pairC) ∧ Below w1.heap.size w1 wr) (fun _ i _=>O.length - (intOf i).toNat)
  case atStart=>exact ⟨0,none,0,Nat.zero_le _,rfl,rfl,Own.nil _ _ _ _,Below.refl _ _⟩
  case round =>
    obtain ⟨k,A2,cap2,hk,rfl,rfl,hown,hb⟩:=hrel;by_cases hlt : k < O.length
    · obtain ⟨q,o,rfl,hr,hkey,hval,_,_⟩:=LRowsIn.get (SlR.below hs1 hb) hlt hlt;have hq : q < w1.heap.size:=SlR.old hs1 rfl (by omega);have hqb : q ∉ blk A2:=fun hx=>(by have:=(hown.at_base hx).1;omega);have htk : ((O.take (k + 1)).map pairR).map pairC = ((O.take k).map pairR).map pairC ++ [pairC (pairR O[k])]:=by
        have e : O.take (k + 1) = O.take k ++ [O[k]]:=by rw [List.take_add_one,List.getElem?_eq_getElem hlt];rfl
        rw [e,List.map_append,List.map_append];rfl
      obtain ⟨x,hx⟩ : ∃ x,O[k]'hlt = x:=⟨_,rfl⟩
      rw [hx] at hkey hval htk;have Htk:=Lib.hid htk;have hsz:=hb.size;clear hx hr htk;go_upto_region 6 with fail
      refine wp_region_lex (Kp (blk A2) wr) false (by kernel_rfl) (by kernel_rfl) (by kernel_rfl) (kp_drew (blk A2) wr) ?_;have hne:=kp_some (blk A2) wr;have hS:=kp_drew (blk A2) wr;have b1:=ksub_cell hkey hqb;have b2:=ksub_cell hval hqb;repeat (refine wpLx_loose ?_ ?_;(focus (simp only [chainOp];done));intro K hK;go_simp;refine hK _ ?_;clear hK K)
      refine wpLx_chain ?_ ?_ ?_;(focus (exact hS));(focus (simp only [chainOp];done));intro K hK;go_simp;refine step_keep (Keep.trans (Keep.trans (Keep.refl (blk A2) wr) (Keep.drew _) (by simp)) (Keep.alloc _ _) (by simp)) (fun hS2=>?_);refine hK _ _ ?_;clear hK K;have hk0 : Keep [] wr (wr.drew.alloc (.cells (pairC ⟨x.key,x.val⟩) 98)):=Keep.trans (Keep.drew wr) (Keep.alloc _ _) (by simp);have hownr:=hown.kept hk0 (by simp);have hrow2 : rowAt (wr.drew.alloc (.cells (pairC ⟨x.key,x.val⟩) 98)) wr.heap.size 0 2 = some (pairC ⟨x.key,x.val⟩):=by simp [go_sem]
      refine Lx_append einfoPair rfl hownr rfl hrow2 (pairC_one _) (by omega) (by omega) (by simp;omega) ?_;intro A3 cap3 w3 hown3 hk3 hsub3;refine step_keep (Keep.trans (hk0.mono (S':=blk A2) (by simp)) hk3 (fun x hx=>.inl hx)) (fun hS3=>?_);repeat (refine wpLx_loose ?_ ?_;(focus (simp only [chainOp];done));intro K hK;go_simp;refine hK _ ?_;clear hK K)
      refine wpLx_nil ?_;intro hS;have hb3 : Below w1.heap.size w1 w3:=hb.trans ((Keep.trans (hk0.mono (S':=blk A2) (by simp)) hk3 (fun x hx=>.inl hx)).below hsz (fun x hx=>(hown.at_base hx).1));clear hne hS hS2 hS3 b1 b2;(go_wp2_with fail);go_roundw
      case rel=>exact ⟨k + 1,A3,cap3,by omega,by go_num,rfl,by rw [Htk.out];exact hown3,hb3⟩
      case measure=>simp [intOf];omega
    · have e : k = O.length:=by omega
      have e2 : O.take k = O:=List.take_of_length_le (by omega);have hown' : OwnP wr w.heap.size A2 cap2 (O.map pairR):=by rw [e2] at hown;show Own _ _ _ _ _ _ _ _;rw [List.length_map,← e];exact hown.mono hb1.size
      have Ho:=Lib.hid hown';have El:=Lib.hid e;clear e e2 hown hown';(go_wp2_with fail);go_ret;refine ⟨A2,cap2,?_,Ho.out,bel2 hb1 hb⟩;rw [List.length_map,← El.out];rfl
end
section
open Go.RowKit
def numR (k : Int) (x : RV) : Int:=if k = 1 then x.tal else 0
def pairsR (k : Int) (x : RV) : List Pair :=
  if k = 1 then [] else if k = 2 then (listB (liveR x.adds x.gone)).map pairV else if k = 3 then (latestR x.last).map pairR
  else if k = 4 then listM (lvM x.mL x.mO) else listS x.sL x.sG
def bytesRV (k : Int) (x : RV) : List UInt8 :=
  if k = 1 then putTB x.tal else if k = 2 then putB (liveR x.adds x.gone) (sortC cmpRow x.gone) else if k = 3 then putLB ((latestR x.last).map rowL)
  else if k = 4 then putMB (lvM x.mL x.mO) (sortC cmpId x.mO) else putSB x.sL x.sG
theorem mem_liveR {X G : List BRow} {z : BRow} : z ∈ liveR X G ↔ z ∈ X ∧ z ∉ G:=by
  unfold liveR;rw [List.mem_filter,mem_sortC totRow];simp
theorem mem_lvM {X : List MRow} {G : List Id32} {z : MRow} : z ∈ lvM X G ↔ z ∈ X ∧ z.id ∉ G:=by
  unfold lvM;rw [mem_sortC totMR,List.mem_filter];simp
theorem rel_b {x : RV} {L G : List BRow} (h : RelS x (.b L G)) : liveR x.adds x.gone = L ∧ sortC cmpRow x.gone = G:=by
  obtain ⟨a1,a2,a3,a4⟩:=h;refine ⟨ris_ext totRow ((ris_sortC totRow _).filter _) a1 fun z=>?_,ris_ext totRow (ris_sortC totRow _) a2 fun z=>?_⟩
  · rw [mem_liveR,a4]
  · rw [mem_sortC totRow,a3]
theorem rel_m {x : RV} {X : List MRow} {O : List Id32} (h : RelS x (.m X O)) : lvM x.mL x.mO = X ∧ sortC cmpId x.mO = O:=by
  obtain ⟨a1,a2,a3,a4⟩:=h;subst a3;refine ⟨ris_ext totMR (ris_sortC totMR _) a1 fun z=>?_,sortC_ris totId a2⟩;rw [mem_lvM,a4]
theorem rel_num {x : RV} {s : VSt} (h : RelS x s) : numR s.kind x = s.num:=by
  cases s with
  | t n=>exact h
  | b L G=>rfl
  | l L=>rfl
  | m X O=>rfl
  | s N G=>rfl
theorem rel_pairs {x : RV} {s : VSt} (h : RelS x s) : pairsR s.kind x = s.pairs:=by
  cases s with
  | t n=>rfl
  | b L G=>show (listB (liveR x.adds x.gone)).map pairV = _;rw [(rel_b h).1];rfl
  | l L =>
    obtain ⟨a1,_,_⟩:=h;show (latestR x.last).map pairR = L.map pairOf;rw [a1,List.map_map];rfl
  | m X O=>show listM (lvM x.mL x.mO) = _;rw [(rel_m h).1];rfl
  | s N G =>
    obtain ⟨a1,a2,a3,a4⟩:=h;show listS x.sL x.sG = listS N G;rw [a2];have e : orderN x.sL = orderN N:=orderN_congr (fun n=>(a4 n).symm) a3.forest;show pS (orderN x.sL) x.sG = pS (orderN N) x.sG;rw [e]
theorem ids_cons (I : List Id32) (d : Id32) : insC cmpId (sortC cmpId I) d = sortC cmpId (d :: I):=ris_ext totId (ris_insC totId (ris_sortC totId _)) (ris_sortC totId _) fun z=>by
  rw [mem_insC totId,mem_sortC totId,mem_sortC totId,List.mem_cons]
end
section
open Go.RowKit Stb
def onceStep (O : List MarkV) (m : MarkV) : List MarkV:=if m.id ∈ O.map MarkV.id then O else O ++ [m]
def onceM (R : List MarkV) : List MarkV:=R.foldl onceStep []
theorem onceM_snoc (R : List MarkV) (m : MarkV) : onceM (R ++ [m]) = onceStep (onceM R) m:=by
  unfold onceM;rw [List.foldl_append];rfl
theorem onceM_take (R : List MarkV) (k : Nat) (h : k < R.length) : onceM (R.take (k + 1)) = onceStep (onceM (R.take k)) (R[k]'h):=by
  rw [List.take_succ_eq_append_getElem h,onceM_snoc]
theorem onceM_len (R : List MarkV) : (onceM R).length ≤ R.length:=by
  have : ∀ (R O : List MarkV),(R.foldl onceStep O).length ≤ O.length + R.length:=by
    intro R;induction R with
    | nil=>intro O;simp
    | cons m R ih =>
      intro O;rw [List.foldl_cons];refine Nat.le_trans (ih _) ?_;unfold onceStep;split <;> simp <;> omega
  simpa [onceM] using this R []
theorem once_grow : ∀ (R O : List MarkV),O.length ≤ (R.foldl onceStep O).length
  | [],_=>Nat.le_refl _
  | m :: R,O=>by
    rw [List.foldl_cons];refine Nat.le_trans ?_ (once_grow R _);unfold onceStep;split <;> simp
theorem onceM_take_len (R : List MarkV) (k : Nat) : (onceM (R.take k)).length ≤ (onceM R).length:=by
  have h:=once_grow (R.drop k) (onceM (R.take k));have e : (R.drop k).foldl onceStep (onceM (R.take k)) = onceM R:=by
    unfold onceM;rw [← List.foldl_append,List.take_append_drop]
  rwa [e] at h
def OneM (O : List MarkV) : Prop:=O.Pairwise fun a b=>a.id ≠ b.id
theorem OneM.nodup {O : List MarkV} (h : OneM O) : O.Nodup:=List.Pairwise.imp (fun h e=>h (congrArg _ e)) h
theorem OneM.inj : ∀ {O : List MarkV},OneM O → ∀ a ∈ O,∀ b ∈ O,a.id = b.id → a = b
  | [],_,a,ha,_,_,_=>by simp at ha
  | x :: O,h,a,ha,b,hb,e=>by
    obtain ⟨h1,h2⟩:=List.pairwise_cons.1 h;rcases List.mem_cons.1 ha with e1 | ha <;> rcases List.mem_cons.1 hb with e2 | hb
    · rw [e1,e2]
    · rw [e1] at e;exact absurd e (h1 b hb)
    · rw [e2] at e;exact absurd e.symm (h1 a ha)
    · exact OneM.inj h2 a ha b hb e
theorem OneM.of {O : List MarkV} (hn : O.Nodup) (h : ∀ a ∈ O,∀ b ∈ O,a.id = b.id → a = b) : OneM O:=by
  induction O with
  | nil=>exact List.Pairwise.nil
  | cons x O ih =>
    obtain ⟨h1,h2⟩:=List.nodup_cons.1 hn;exact List.pairwise_cons.2 ⟨fun b hb e=>h1 (by rw [h x (by simp) b (by simp [hb]) e];exact hb),ih h2 fun a ha b hb=>h a (by simp [ha]) b (by simp [hb])⟩
theorem OneM.sub {O P : List MarkV} (h : OneM O) (hs : P.Sublist O) : OneM P:=List.Pairwise.sublist hs h
theorem OneM.perm {O P : List MarkV} (h : OneM O) (hp : O.Perm P) : OneM P :=
  OneM.of (hp.nodup_iff.1 h.nodup) fun a ha b hb=>h.inj a (hp.mem_iff.2 ha) b (hp.mem_iff.2 hb)
theorem OneM.step {O : List MarkV} (h : OneM O) (m : MarkV) : OneM (onceStep O m):=by
  unfold onceStep;split
  · exact h
  · rename_i hn
    exact List.pairwise_append.2 ⟨h,List.pairwise_singleton _ _,fun a ha b hb e=>hn (by
      have e2 : b = m:=by simpa using hb
      subst e2;exact List.mem_map.2 ⟨a,ha,e⟩)⟩
theorem onceM_one (R : List MarkV) : OneM (onceM R):=by
  have : ∀ (R O : List MarkV),OneM O → OneM (R.foldl onceStep O):=by
    intro R;induction R with
    | nil=>intro O h;exact h
    | cons m R ih=>intro O h;rw [List.foldl_cons];exact ih _ (h.step m)
  exact this R [] List.Pairwise.nil
theorem mem_onceStep {O : List MarkV} {m z : MarkV} : z ∈ onceStep O m → z ∈ O ∨ z = m:=by
  unfold onceStep;split
  · exact .inl
  · intro h;simpa using h
theorem onceM_sub (R : List MarkV) : ∀ z ∈ onceM R,z ∈ R:=by
  have : ∀ (R O : List MarkV) (z : MarkV),z ∈ R.foldl onceStep O → z ∈ O ∨ z ∈ R:=by
    intro R;induction R with
    | nil=>intro O z h;exact .inl h
    | cons m R ih =>
      intro O z h;rw [List.foldl_cons] at h;rcases ih _ z h with h | h
      · exact (mem_onceStep h).elim .inl fun e=>.inr (by simp [e])
      · exact .inr (by simp [h])
  intro z hz;exact (this R [] z hz).elim (fun h=>by simp at h) id
theorem onceM_ids (R : List MarkV) (d : Id32) : d ∈ (onceM R).map MarkV.id ↔ d ∈ R.map MarkV.id:=by
  have : ∀ (R O : List MarkV),d ∈ (R.foldl onceStep O).map MarkV.id ↔ d ∈ O.map MarkV.id ∨ d ∈ R.map MarkV.id:=by
    intro R;induction R with
    | nil=>intro O;simp
    | cons m R ih =>
      intro O;rw [List.foldl_cons,ih,List.map_cons,List.mem_cons];have : d ∈ (onceStep O m).map MarkV.id ↔ d ∈ O.map MarkV.id ∨ d = m.id:=by
        unfold onceStep;split
        · rename_i hm
          exact ⟨.inl,fun h=>h.elim id fun e=>by rw [e];exact hm⟩
        · rw [List.map_append,List.mem_append];simp
      rw [this,or_assoc]
  rw [show (d ∈ R.map MarkV.id) ↔ (d ∈ ([] : List MarkV).map MarkV.id ∨ d ∈ R.map MarkV.id) by simp];exact this R []
def cmpMk (a b : MarkV) : Int:=orC (cmpI a.h b.h) (orC (cmpId a.id b.id) (cmpS a.body b.body))
theorem totMk : TotC cmpMk :=
  TotC.of (c:=fun (x y : Int × (Id32 × ByteArray))=>orC (cmpI x.1 y.1) (orC (cmpId x.2.1 y.2.1) (cmpS x.2.2 y.2.2)))
    (TotC.pair totI (TotC.pair totId totS)) (fun n=>(n.h,n.id,n.body))
    (fun x y h=>by simp only [Prod.mk.injEq] at h;cases x;cases y;simp_all) (fun _ _=>rfl)
theorem lt_mk {a b : MarkV} (hi : a.id ≠ b.id) : cmpMk a b < 0 ↔ markLt a b:=by
  rw [markLt_iff];have hid : cmpId a.id b.id ≠ 0:=fun e=>hi ((cmpId_zero _ _).1 e);unfold cmpMk orC cmpI;by_cases e : a.h = b.h
  · rw [if_pos (by rw [if_neg (by omega),if_neg (by omega)]),if_neg hid];constructor
    · intro h;exact .inr ⟨e,h⟩
    · rintro (h | h)
      · omega
      · exact h.2
  · rw [if_neg (by (repeat' split) <;> omega)];by_cases h1 : a.h < b.h
    · rw [if_pos h1];exact ⟨fun _=>.inl h1,fun _=>by omega⟩
    · rw [if_neg h1,if_pos (by omega)];exact ⟨fun h=>by omega,fun h=>by rcases h with h | h <;> omega⟩
theorem markLt_ne {a b : MarkV} (hi : a.id ≠ b.id) (h : ¬ markLt a b) : markLt b a :=
  Classical.byContradiction fun h'=>hi (markLt_conn a b h h')
def srtM (R : List MarkV) : List MarkV:=sortC cmpMk (onceM R)
theorem srtM_perm (R : List MarkV) : (srtM R).Perm (onceM R) :=
  (List.perm_ext_iff_of_nodup ((ris_sortC totMk _).nodup totMk) (onceM_one R).nodup).2 fun _=>mem_sortC totMk
theorem srtM_one (R : List MarkV) : OneM (srtM R):=(onceM_one R).perm (srtM_perm R).symm
theorem srtM_len (R : List MarkV) : (srtM R).length = (onceM R).length:=(srtM_perm R).length_eq
theorem srtM_ris (R : List MarkV) : Ris cmpMk (srtM R):=ris_sortC totMk _
theorem srtM_sub (R : List MarkV) : ∀ z ∈ srtM R,z ∈ R:=fun z hz=>onceM_sub R z ((srtM_perm R).mem_iff.1 hz)
theorem sorted_list {f f' : Nat → MarkV} {O : List MarkV} (hO : OneM O) (hf : ∀ k (h : k < O.length),f k = O[k]) (hs : Sw 0 O.length f f') (hr : Srt markLt 0 O.length f') : (List.range O.length).map f' = sortC cmpMk O:=by
  have hid : ∀ i j,i < O.length → j < O.length → (f i).id = (f j).id → i = j:=fun i j hi hj e=>by
    rw [hf i hi,hf j hj] at e;rcases Nat.lt_trichotomy i j with h | h | h
    · exact absurd e (List.pairwise_iff_getElem.1 hO i j hi hj h)
    · exact h
    · exact absurd e.symm (List.pairwise_iff_getElem.1 hO j i hj hi h)
  have hs2 : Sw 0 O.length (fun k=>(f k).id) (fun k=>(f' k).id):=by
    obtain ⟨s,t,e,p,q,o⟩:=hs;exact ⟨s,t,fun k=>by show (f' k).id = _;rw [e k],p,q,o⟩
  have hid':=hs2.inj hid;refine ris_ext totMk ?_ (ris_sortC totMk _) fun z=>?_
  · refine List.pairwise_iff_getElem.2 fun i j hi hj hij=>?_;simp only [List.length_map,List.length_range] at hi hj;simp only [List.getElem_map,List.getElem_range];have hne : (f' i).id ≠ (f' j).id:=fun e=>(by have:=hid' i j hi hj e;omega);exact (lt_mk hne).2 (markLt_ne (fun e=>hne e.symm) (hr i j (Nat.zero_le _) hij hj))
  · rw [mem_sortC totMk,List.mem_map];constructor
    · rintro ⟨k,hk,rfl⟩;rw [List.mem_range] at hk;obtain ⟨j,_,hj,e⟩:=hs.at_ (Nat.zero_le k) hk;rw [e,hf j hj];exact List.getElem_mem _
    · intro hz;obtain ⟨k,hk,rfl⟩:=List.getElem_of_mem hz;obtain ⟨j,_,hj,e⟩:=hs.to_ (Nat.zero_le k) hk;exact ⟨j,List.mem_range.2 hj,by rw [← e,hf k hk]⟩
def stF (k : Int) (F : List MarkV) : VSt:=F.foldl (fun s m=>doS m (oOf m) s) (VSt.new k)
theorem new_kind {k : Int} (h1 : 1 ≤ k) (h5 : k ≤ 5) : (VSt.new k).kind = k:=by
  have : k = 1 ∨ k = 2 ∨ k = 3 ∨ k = 4 ∨ k = 5:=by omega
  rcases this with rfl | rfl | rfl | rfl | rfl <;> rfl
theorem fold_kind : ∀ (F : List MarkV) (s : VSt),(F.foldl (fun s m=>doS m (oOf m) s) s).kind = s.kind
  | [],_=>rfl
  | m :: F,s=>by rw [List.foldl_cons,fold_kind F];exact doS_kind _ _ _
theorem stF_kind {k : Int} (h1 : 1 ≤ k) (h5 : k ≤ 5) (F : List MarkV) : (stF k F).kind = k:=(fold_kind F _).trans (new_kind h1 h5)
theorem means_stF (k : Int) {F : List MarkV} (h1 : OneM F) (hv : ∀ m ∈ F,(oOf m).val.size ≤ 16) : Means F (stF k F):=by
  have : ∀ (G P : List MarkV) (s : VSt),Means P s → OneM (P ++ G) → (∀ m ∈ G,(oOf m).val.size ≤ 16) → Means (P ++ G) (G.foldl (fun s m=>doS m (oOf m) s) s):=by
    intro G;induction G with
    | nil=>intro P s h _ _;simpa using h
    | cons m G ih =>
      intro P s h ho hv;rw [List.foldl_cons];have e : P ++ m :: G = (P ++ [m]) ++ G:=by simp
      rw [e] at ho ⊢;refine ih _ _ (means_fold h (hv m (by simp)) fun a ha e=>?_) ho fun a ha=>hv a (by simp [ha]);have h2:=(List.pairwise_append.1 ho).1;exact (List.pairwise_append.1 h2).2.2 a ha m (by simp) e
  exact this F [] _ (means_new k) (by simpa using h1) hv
theorem means_forest {F : List MarkV} {N : List NodeV} {G : List Id32} (h1 : OneM F) (h : Means F (.s N G)) : Forest N:=by
  obtain ⟨a1,_,_⟩:=h;refine ⟨fun a ha b hb e=>?_,fun a ha=>?_⟩
  · obtain ⟨m,hm,_,rfl,_⟩:=(a1 a).1 ha;obtain ⟨m',hm',_,rfl,_⟩:=(a1 b).1 hb;rw [h1.inj m hm m' hm' e]
  · obtain ⟨m,_,_,_,he⟩:=(a1 a).1 ha;exact (nodeE_id he).1
theorem means_pairs {F F' : List MarkV} {s s' : VSt} (hp : F.Perm F') (h1 : OneM F) (h : Means F s) (h' : Means F' s') (hk : s.kind = s'.kind) : s.num = s'.num ∧ s.pairs = s'.pairs:=by
  have hs:=means_uniq hp h h' hk;cases s <;> cases s' <;> try exact hs.elim
  · exact ⟨hs,rfl⟩
  · obtain ⟨e1,e2⟩:=hs;subst e1;subst e2;exact ⟨rfl,rfl⟩
  · have e : _ = _:=hs;subst e;exact ⟨rfl,rfl⟩
  · obtain ⟨e1,e2⟩:=hs;subst e1;subst e2;exact ⟨rfl,rfl⟩
  · obtain ⟨e1,e2⟩:=hs;subst e2;refine ⟨rfl,?_⟩;show pS (orderN _) _ = pS (orderN _) _;rw [orderN_congr e1 (means_forest h1 h)]
def fitM (t : ByteArray) (R : List MarkV) : List MarkV:=(srtM R).filter fun m=>decide (fits t m)
def denS (t : ByteArray) (R : List MarkV) : VSt:=stF (kindB t) (fitM t R)
theorem fitM_one (t : ByteArray) (R : List MarkV) : OneM (fitM t R):=(srtM_one R).sub List.filter_sublist
theorem fitM_ris (t : ByteArray) (R : List MarkV) : Ris cmpMk (fitM t R):=(srtM_ris R).filter _
theorem fitM_fit {t : ByteArray} {R : List MarkV} {m : MarkV} (h : m ∈ fitM t R) : fits t m:=by
  have:=(List.mem_filter.1 h).2;simpa using this
theorem fitM_val {t : ByteArray} {R : List MarkV} {m : MarkV} (h : m ∈ fitM t R) : (oOf m).val.size ≤ 16:=(opO_ok _ (fitM_fit h).1).2.2.2.2.1
theorem means_den (t : ByteArray) (R : List MarkV) : Means (fitM t R) (denS t R):=means_stF _ (fitM_one t R) fun _ h=>fitM_val h
def ofK (k : Nat) (F : List MarkV) : List MarkV:=F.filter fun a=>decide ((oOf a).k = k)
def remB (G : List MarkV) (a : MarkV) : Bool:=G.any fun r=>decide ((oOf r).val = (oOf a).val) && decide (a.id ∈ (oOf r).refs)
def bagD (F : List MarkV) : List Pair:=((ofK 2 F).filter fun a=>!remB (ofK 3 F) a).map fun a=>pairV (oOf a).val
theorem remB_iff {F : List MarkV} {a : MarkV} : remB (ofK 3 F) a = true ↔ ∃ r ∈ F,(oOf r).k = 3 ∧ (oOf r).val = (oOf a).val ∧ a.id ∈ (oOf r).refs:=by
  unfold remB ofK;rw [List.any_eq_true];simp only [List.mem_filter,decide_eq_true_eq,Bool.and_eq_true];exact ⟨fun ⟨r,⟨h1,h2⟩,h3⟩=>⟨r,h1,h2,h3⟩,fun ⟨r,h1,h2,h3⟩=>⟨r,⟨h1,h2⟩,h3⟩⟩
theorem ris_pairV {l : List ByteArray} (h : Ris cmpS l) : Ris cmpPair (l.map pairV):=by
  refine List.pairwise_map.2 (List.Pairwise.imp (fun {a b} h=>?_) h);have h' : cmpS a b < 0:=h;show orL [cmpS a b,_] < 0;show (if cmpS a b = 0 then _ else cmpS a b) < 0;rw [if_neg (by omega)];exact h'
theorem bagD_ok {F : List MarkV} {L G : List BRow} (h : Means F (.b L G)) (hk : ∀ m ∈ F,(oOf m).k = 2 ∨ (oOf m).k = 3) : sortC cmpPair (bagD F) = (listB L).map pairV:=by
  obtain ⟨_,_,a3,a4⟩:=h;refine ris_ext totPair (ris_sortC totPair _) (ris_pairV (ris_sortC totS _)) fun z=>?_;rw [mem_sortC totPair];unfold bagD listB;simp only [List.mem_map,List.mem_filter,mem_sortC totS,Bool.not_eq_true'];have hg : ∀ a : MarkV,remB (ofK 3 F) a = false ↔ (⟨a.id,(oOf a).val⟩ : BRow) ∉ G:=fun a=>by
    rw [a3,← Bool.not_eq_true,remB_iff];refine not_congr ⟨fun ⟨r,h1,h2,h3,h4⟩=>⟨r,h1,by omega,h3.symm,h4⟩,fun ⟨r,h1,h2,h3,h4⟩=>⟨r,h1,(hk r h1).resolve_left h2,h3.symm,h4⟩⟩
  constructor
  · rintro ⟨a,⟨h1,h2⟩,rfl⟩;obtain ⟨h3,h4⟩:=List.mem_filter.1 h1;exact ⟨_,⟨⟨a.id,(oOf a).val⟩,(a4 _).2 ⟨⟨a,h3,by simpa using h4,rfl⟩,(hg a).1 h2⟩,rfl⟩,rfl⟩
  · rintro ⟨v,⟨x,hx,rfl⟩,rfl⟩;obtain ⟨⟨a,h1,h2,rfl⟩,h3⟩:=(a4 x).1 hx;exact ⟨a,⟨List.mem_filter.2 ⟨h1,by simpa using h2⟩,(hg a).2 h3⟩,rfl⟩
structure BestInv (F : List MarkV) (M : List (ByteArray × MarkV)) : Prop where
  mem : ∀ p ∈ M,p.2 ∈ F ∧ (oOf p.2).key = p.1 ∧ ∀ m ∈ F,(oOf m).key = p.1 → ¬ 0 < orL [cmpI (oOf m).n (oOf p.2).n,cmpId m.id p.2.id]
  all : ∀ m ∈ F,(oOf m).key ∈ M.map (·.1)
theorem best_nil : BestInv [] []:=⟨by simp,by simp⟩
def ordB (a b : MarkV) : Int:=orL [cmpI (oOf a).n (oOf b).n,cmpId a.id b.id]
theorem ordB_eq (a b : MarkV) : ordB a b = orC (cmpI (oOf a).n (oOf b).n) (cmpId a.id b.id):=by
  unfold ordB orL orL orC;by_cases h : cmpI (oOf a).n (oOf b).n = 0
  · rw [if_pos h,if_pos h];by_cases h2 : cmpId a.id b.id = 0
    · rw [if_pos h2,h2];rfl
    · rw [if_neg h2]
  · rw [if_neg h,if_neg h]
def cmpNI (x y : Int × Id32) : Int:=orC (cmpI x.1 y.1) (cmpId x.2 y.2)
theorem totNI : TotC cmpNI:=TotC.pair totI totId
theorem ordB_ni (a b : MarkV) : ordB a b = cmpNI ((oOf a).n,a.id) ((oOf b).n,b.id):=ordB_eq a b
theorem ordB_self (a : MarkV) : ordB a a = 0:=by rw [ordB_ni];exact totNI.self _
theorem ordB_trans {a b d : MarkV} (h1 : 0 < ordB b a) (h2 : ¬ 0 < ordB d a) : ¬ 0 < ordB d b:=by
  rw [ordB_ni] at *;intro h;have e1:=totNI.anti ((oOf b).n,b.id) ((oOf a).n,a.id);have e2:=totNI.anti ((oOf d).n,d.id) ((oOf b).n,b.id);have e3:=totNI.anti ((oOf d).n,d.id) ((oOf a).n,a.id);have:=totNI.trans ((oOf a).n,a.id) ((oOf b).n,b.id) ((oOf d).n,d.id) (by omega) (by omega);omega
theorem BestInv.new {F : List MarkV} {M : List (ByteArray × MarkV)} (h : BestInv F M) {a : MarkV} (hn : (oOf a).key ∉ M.map (·.1)) : BestInv (F ++ [a]) (putL M (oOf a).key a):=by
  unfold putL;rw [if_neg hn];refine ⟨fun p hp=>?_,fun m hm=>?_⟩
  · rcases List.mem_append.1 hp with hp | hp
    · obtain ⟨h1,h2,h3⟩:=h.mem p hp;exact ⟨by simp [h1],h2,all_snoc.2 ⟨h3,fun e=>absurd (List.mem_map.2 ⟨p,hp,e.symm⟩) hn⟩⟩
    · have e : p = ((oOf a).key,a):=by simpa using hp
      subst e;refine ⟨by simp,rfl,all_snoc.2 ⟨fun m hm e=>absurd (show (oOf a).key ∈ M.map (·.1) by rw [← show (oOf m).key = (oOf a).key from e];exact h.all m hm) hn,fun _=>?_⟩⟩;have:=ordB_self a;unfold ordB at this;show ¬ 0 < orL _;rw [this];omega
  · rw [List.map_append,List.mem_append];rcases List.mem_append.1 hm with hm | hm
    · exact .inl (h.all m hm)
    · have e : m = a:=by simpa using hm
      subst e;exact .inr (by simp)
theorem BestInv.better {F : List MarkV} {M : List (ByteArray × MarkV)} (h : BestInv F M) {a b : MarkV} (hb : ((oOf a).key,b) ∈ M) (hg : 0 < ordB a b) : BestInv (F ++ [a]) (putL M (oOf a).key a):=by
  have hin : (oOf a).key ∈ M.map (·.1):=List.mem_map.2 ⟨_,hb,rfl⟩;obtain ⟨_,_,hb3⟩:=h.mem _ hb;unfold putL;rw [if_pos hin];refine ⟨fun p hp=>?_,fun m hm=>?_⟩
  · obtain ⟨q,hq,rfl⟩:=List.mem_map.1 hp;obtain ⟨h1,h2,h3⟩:=h.mem q hq;by_cases e : q.1 = (oOf a).key
    · rw [if_pos e];refine ⟨by simp,rfl,all_snoc.2 ⟨fun m hm e2=>ordB_trans hg (hb3 m hm e2),fun _=>?_⟩⟩;have:=ordB_self a;unfold ordB at this;show ¬ 0 < orL _;rw [this];omega
    · rw [if_neg e];exact ⟨by simp [h1],h2,all_snoc.2 ⟨h3,fun e2=>absurd e2.symm e⟩⟩
  · have e : (M.map fun p=>if p.1 = (oOf a).key then ((oOf a).key,a) else p).map (·.1) = M.map (·.1):=by
      rw [List.map_map];refine List.map_congr_left fun p _=>?_;simp only [Function.comp_apply];split
      · rename_i h;exact h.symm
      · rfl
    rw [e];rcases List.mem_append.1 hm with hm | hm
    · exact h.all m hm
    · have e : m = a:=by simpa using hm
      subst e;exact hin
theorem BestInv.worse {F : List MarkV} {M : List (ByteArray × MarkV)} (h : BestInv F M) {a b : MarkV} (hb : ((oOf a).key,b) ∈ M) (hnd : (M.map (·.1)).Nodup) (hg : ¬ 0 < ordB a b) : BestInv (F ++ [a]) M:=by
  refine ⟨fun p hp=>?_,fun m hm=>?_⟩
  · obtain ⟨h1,h2,h3⟩:=h.mem p hp;refine ⟨by simp [h1],h2,all_snoc.2 ⟨h3,fun e=>?_⟩⟩;have e2 : p = ((oOf a).key,b):=by
      obtain ⟨i,hi,rfl⟩:=List.getElem_of_mem hp;obtain ⟨j,hj,ej⟩:=List.getElem_of_mem hb;have hi' : (M.map (·.1))[i]? = some (oOf a).key:=by rw [List.getElem?_map,List.getElem?_eq_getElem hi,Option.map_some,e]
      have hj' : (M.map (·.1))[j]? = some (oOf a).key:=by rw [List.getElem?_map,List.getElem?_eq_getElem hj,Option.map_some,ej]
      have:=nodup_inj hnd hi' hj';subst this;exact ej
    rw [e2];exact hg
  · rcases List.mem_append.1 hm with hm | hm
    · exact h.all m hm
    · have e : m = a:=by simpa using hm
      subst e;exact List.mem_map.2 ⟨_,hb,rfl⟩
def bestP (p : ByteArray × MarkV) : Pair:=⟨p.1,(oOf p.2).val⟩
theorem ris_pairOf : ∀ {L : List LRow},Rising L → Ris cmpPair (L.map pairOf)
  | [],_=>Ris.nil
  | p :: L,h=>by
    rw [List.map_cons];refine ris_cons.2 ⟨fun y hy=>?_,ris_pairOf h.2⟩;obtain ⟨r,hr,rfl⟩:=List.mem_map.1 hy;have h3 : cmpS p.1 r.1 < 0:=h.1 r hr;show (if cmpS p.1 r.1 = 0 then _ else cmpS p.1 r.1) < 0;rw [if_neg (by omega)];exact h3
theorem getL_of : ∀ {L : List LRow} {k : ByteArray} {x : Setting},Rising L → (k,x) ∈ L → getL L k = some x
  | [],_,_,_,h=>by simp at h
  | p :: L,k,x,hr,h=>by
    rw [getL_cons];rcases List.mem_cons.1 h with h | h
    · rw [← h,if_pos rfl]
    · have h2 : cmpS p.1 k < 0:=hr.1 _ h;rw [if_neg (fun e=>by rw [e,cmpS_self] at h2;omega)];exact getL_of hr.2 h
theorem cmpSet_ord {a b : MarkV} (h : a.id ≠ b.id) : cmpSet (setOf a) (setOf b) = ordB a b:=by
  have hid : cmpId a.id b.id ≠ 0:=fun e=>h ((cmpId_zero _ _).1 e);show (if cmpI (oOf a).n (oOf b).n = 0 then (if cmpId a.id b.id = 0 then _ else cmpId a.id b.id) else cmpI (oOf a).n (oOf b).n) = (if cmpI (oOf a).n (oOf b).n = 0 then (if cmpId a.id b.id = 0 then _ else cmpId a.id b.id) else cmpI (oOf a).n (oOf b).n)
  rw [if_neg hid,if_neg hid]
theorem best_eq {F : List MarkV} {M : List (ByteArray × MarkV)} (h1 : OneM F) (h : BestInv F M) {p : ByteArray × MarkV} (hp : p ∈ M) {u : Setting} (hu : Latest F p.1 (some u)) (hc : ∀ m ∈ F,checkE (oOf m).key (setOf m) = 0) : u = setOf p.2:=by
  obtain ⟨b1,b2,b3⟩:=h.mem p hp;obtain ⟨⟨m,hm,_,hk,rfl⟩,hx⟩:=hu;by_cases e : m.id = p.2.id
  · rw [h1.inj m hm p.2 b1 e]
  · have h4 : ¬ 0 < ordB m p.2:=b3 m hm hk;have h5:=hx p.2 b1 (hc p.2 b1) b2;rw [cmpSet_ord (fun e2=>e e2.symm)] at h5;rw [ordB_ni] at h4 h5;have h6:=totNI.anti ((oOf m).n,m.id) ((oOf p.2).n,p.2.id);have h7 : cmpNI ((oOf m).n,m.id) ((oOf p.2).n,p.2.id) = 0:=by omega
    have h8:=(totNI.zero _ _).1 h7;simp only [Prod.mk.injEq] at h8;exact absurd h8.2 e
theorem lastD_ok {F : List MarkV} {L : List LRow} {M : List (ByteArray × MarkV)} (h : Means F (.l L)) (h1 : OneM F) (hB : BestInv F M) (hc : ∀ m ∈ F,checkE (oOf m).key (setOf m) = 0) : sortC cmpPair (M.map bestP) = L.map pairOf:=by
  obtain ⟨a1,a2⟩:=h;refine ris_ext totPair (ris_sortC totPair _) (ris_pairOf a1.1) fun z=>?_;rw [mem_sortC totPair];constructor
  · intro hz;obtain ⟨p,hp,rfl⟩:=List.mem_map.1 hz;obtain ⟨b1,b2,b3⟩:=hB.mem p hp;have hl:=a2 p.1;cases hg : getL L p.1 with
    | none=>rw [hg] at hl;exact absurd b2 (hl p.2 b1 (hc _ b1))
    | some u =>
      rw [hg] at hl;have e:=best_eq h1 hB hp hl hc;subst e;exact List.mem_map.2 ⟨_,getL_mem hg,rfl⟩
  · intro hz;obtain ⟨q,hq,rfl⟩:=List.mem_map.1 hz;have hg:=getL_of a1.1 (show (q.1,q.2) ∈ L from hq);have hl:=a2 q.1;rw [hg] at hl;obtain ⟨⟨m,hm,_,hk,_⟩,_⟩:=id hl;obtain ⟨p,hp,e⟩:=List.mem_map.1 (hB.all m hm);have e2 : p.1 = q.1:=e.trans hk;rw [← e2] at hl;have e3:=best_eq h1 hB hp hl hc;refine List.mem_map.2 ⟨p,hp,?_⟩;show (⟨p.1,(oOf p.2).val⟩ : Pair) = ⟨q.1,q.2.val⟩
    rw [e2,e3];rfl
def overD (F : List MarkV) : List Id32:=F.flatMap fun r=>(oOf r).refs
def keyP (a : MarkV) : Pair:=⟨(oOf a).key,(oOf a).val⟩
def multiD (F : List MarkV) : List Pair:=(F.filter fun a=>decide (a.id ∉ overD F)).map keyP
theorem multiD_ok {F : List MarkV} {X : List MRow} {O : List Id32} (h : Means F (.m X O)) : sortC cmpPair (multiD F) = listM X:=by
  obtain ⟨_,_,a3,a4⟩:=h;refine sortC_congr totPair fun z=>?_;unfold multiD;simp only [List.mem_map,List.mem_filter,decide_eq_true_eq];have ho : ∀ d,d ∈ overD F ↔ d ∈ O:=fun d=>(by rw [a3];unfold overD;rw [List.mem_flatMap]);constructor
  · rintro ⟨a,⟨h1,h2⟩,rfl⟩;exact ⟨rowOfM a,(a4 _).2 ⟨⟨a,h1,rfl⟩,fun h=>h2 ((ho _).2 h)⟩,rfl⟩
  · rintro ⟨x,hx,rfl⟩;obtain ⟨⟨a,h1,rfl⟩,h2⟩:=(a4 x).1 hx;exact ⟨a,⟨h1,fun h=>h2 ((ho _).1 h)⟩,rfl⟩
def okN (a : MarkV) : Bool:=decide (nodeE (nodeOf a) = 0)
def insD (F : List MarkV) : List MarkV:=(ofK 6 F).filter okN
def nodD (F : List MarkV) : List NodeV:=(insD F).map nodeOf
def goneD (F : List MarkV) : List Id32:=(ofK 7 F).map fun a=>(oOf a).ref
def behD (F : List MarkV) (r : Id32) : List MarkV:=(insD F).reverse.filter fun a=>decide ((oOf a).ref = r)
theorem mem_insD {F : List MarkV} {a : MarkV} : a ∈ insD F ↔ a ∈ F ∧ (oOf a).k = 6 ∧ nodeE (nodeOf a) = 0:=by
  unfold insD ofK okN;simp only [List.mem_filter,decide_eq_true_eq,and_assoc]
theorem mem_nodD {F : List MarkV} {z : NodeV} : z ∈ nodD F ↔ ∃ a ∈ F,(oOf a).k = 6 ∧ z = nodeOf a ∧ nodeE z = 0:=by
  unfold nodD;rw [List.mem_map];constructor
  · rintro ⟨a,ha,rfl⟩;obtain ⟨h1,h2,h3⟩:=mem_insD.1 ha;exact ⟨a,h1,h2,rfl,h3⟩
  · rintro ⟨a,h1,h2,rfl,h3⟩;exact ⟨a,mem_insD.2 ⟨h1,h2,h3⟩,rfl⟩
theorem nodD_forest {F : List MarkV} (h1 : OneM F) : Forest (nodD F):=by
  refine ⟨fun a ha b hb e=>?_,fun a ha=>?_⟩
  · obtain ⟨m,hm,_,rfl,_⟩:=mem_nodD.1 ha;obtain ⟨m',hm',_,rfl,_⟩:=mem_nodD.1 hb;rw [h1.inj m hm m' hm' e]
  · obtain ⟨m,_,_,_,he⟩:=mem_nodD.1 ha;exact (nodeE_id he).1
theorem nodD_len (F : List MarkV) : (nodD F).length ≤ F.length:=by
  unfold nodD insD ofK;rw [List.length_map];exact Nat.le_trans (List.length_filter_le _ _) (List.length_filter_le _ _)
theorem behD_kids {F : List MarkV} (hr : Ris cmpMk F) (h1 : OneM F) (r : Id32) : (behD F r).map nodeOf = kids (nodD F) r:=by
  refine ris_ext totN ?_ (ris_kids _ _) fun z=>?_
  · unfold behD insD ofK;refine List.pairwise_map.2 (List.Pairwise.sublist List.filter_sublist (List.pairwise_reverse.2 (List.Pairwise.sublist (List.Sublist.trans List.filter_sublist List.filter_sublist) ?_)));refine List.Pairwise.imp (fun {a b} h=>?_) (List.Pairwise.and hr h1);have h2:=cmpN_ahead (a:=nodeOf a) (b:=nodeOf b) h.2;have h3 : aheadB (nodeOf a).h (nodeOf a).id (nodeOf b).h (nodeOf b).id = true:=(lt_mk h.2).1 h.1;rw [h3] at h2;exact of_decide_eq_true h2
  · rw [mem_kids,mem_nodD,List.mem_map];unfold behD;constructor
    · rintro ⟨a,ha,rfl⟩;obtain ⟨h2,h3⟩:=List.mem_filter.1 ha;obtain ⟨h4,h5,h6⟩:=mem_insD.1 (List.mem_reverse.1 h2);exact ⟨⟨a,h4,h5,rfl,h6⟩,of_decide_eq_true h3⟩
    · rintro ⟨⟨a,h4,h5,rfl,h6⟩,h7⟩;exact ⟨a,List.mem_filter.2 ⟨List.mem_reverse.2 (mem_insD.2 ⟨h4,h5,h6⟩),decide_eq_true h7⟩,rfl⟩
theorem pS_congr {T : List NodeV} {G G' : List Id32} (h : ∀ z,z ∈ G ↔ z ∈ G') : pS T G = pS T G':=by
  unfold pS;congr 2
  refine List.filter_congr fun n _=>?_;rw [decide_eq_decide,h]
theorem listD_ok {F : List MarkV} {N : List NodeV} {G : List Id32} (h : Means F (.s N G)) (h1 : OneM F) (hk : ∀ m ∈ F,(oOf m).k = 6 ∨ (oOf m).k = 7) : pS (orderN (nodD F)) (goneD F) = listS N G:=by
  have hf:=nodD_forest h1;obtain ⟨a1,_,a3⟩:=h;have hn : ∀ z,z ∈ nodD F ↔ z ∈ N:=fun z=>(by rw [mem_nodD,a1]);have hg : ∀ z,z ∈ goneD F ↔ z ∈ G:=fun z=>by
    rw [a3];unfold goneD ofK;simp only [List.mem_map,List.mem_filter,decide_eq_true_eq];constructor
    · rintro ⟨a,⟨h2,h3⟩,rfl⟩;exact ⟨a,h2,by omega,rfl⟩
    · rintro ⟨a,h2,h3,rfl⟩;exact ⟨a,⟨h2,(hk a h2).resolve_left h3⟩,rfl⟩
  show _ = pS (orderN N) G;rw [orderN_congr hn hf,pS_congr hg]
def sumD (F : List MarkV) : Int:=F.foldl (fun n m=>wrap64 (n + (oOf m).n)) 0
theorem sumD_ok (F : List MarkV) : stF 1 F = .t (sumD F):=by
  have : ∀ (F : List MarkV) (n : Int),F.foldl (fun s m=>doS m (oOf m) s) (.t n) = .t (F.foldl (fun n m=>wrap64 (n + (oOf m).n)) n):=by
    intro F;induction F with
    | nil=>intro n;rfl
    | cons m F ih=>intro n;rw [List.foldl_cons,List.foldl_cons];exact ih _
  exact this F 0
theorem sumD_take (F : List MarkV) (k : Nat) (h : k < F.length) : sumD (F.take (k + 1)) = wrap64 (sumD (F.take k) + (oOf (F[k]'h)).n):=by
  unfold sumD;rw [List.take_succ_eq_append_getElem h,List.foldl_append];rfl
end
section
open Go.RowKit Stb
def seenM (O : List MarkV) : List Id32:=(O.map MarkV.id).reverse
theorem seenM_mem (O : List MarkV) (x : Id32) : x ∈ seenM O ↔ x ∈ O.map MarkV.id:=by unfold seenM;rw [List.mem_reverse]
theorem seenM_snoc (O : List MarkV) (m : MarkV) : m.id :: seenM O = seenM (O ++ [m]):=by unfold seenM;simp
instance : Inhabited MarkV:=⟨markV0⟩
def atF (L : List MarkV) : Nat → MarkV:=fun k=>L[k]!
theorem rowsF_at (L : List MarkV) : rowsF (atF L) L.length = L.map markVC:=by
  unfold rowsF atF;apply List.ext_getElem
  · simp
  · intro k h1 h2;simp at h1;simp [h1]
theorem insSort_nil (w : World) : Calls Tryz.prog 191 #[.slice none 0 0,.int .i64 0,.int .i64 0,.func (.func 52) #[] #[]] w fun e w'=>e = .returned (.tuple #[]) ∧ w = w':=by
  go_enter Tryz.func191,Tryz.ntmps191
  (go_wp2_with fail);refine wp_loop_rounds 2 ?_;rw [rounds_succ];(go_wp2_with fail);go_end0;exact ⟨rfl,rfl⟩
theorem stable_nil (w : World) : Calls Tryz.prog 112 #[.slice none 0 0,.int .i64 0,.func (.func 52) #[] #[]] w fun e w'=>e = .returned (.tuple #[]) ∧ w = w':=by
  go_enter Tryz.func112,Tryz.ntmps112
  (go_wp2_with fail);refine wp_loop_rounds 2 ?_;rw [rounds_succ];(go_wp2_with fail);refine (insSort_nil _).mono ?_;rintro e w1 ⟨rfl,rfl⟩;(go_wp2_with fail);refine wp_loop_rounds 2 ?_;rw [rounds_succ];(go_wp2_with fail);go_end0;exact ⟨rfl,rfl⟩
theorem sortStable_nil (w : World) : Calls Tryz.prog 51 #[.slice none 0 0,.func (.func 52) #[] #[]] w fun e w'=>e = .returned (.tuple #[]) ∧ w = w':=by
  go_enter Tryz.func51,Tryz.ntmps51
  (go_wp2_with fail);refine (stable_nil _).mono ?_;rintro e w1 ⟨rfl,rfl⟩;(go_wp2_with fail);refine bodyPost_end (results_none rfl _ _ _) rfl ?_;exact ⟨rfl,rfl⟩
@[go_sem ↓] theorem bsMark_rw (n : Nat) (parts : Array (Nat × Value)) : Instr.buildSlice 22 n parts = bsS 22 n parts:=rfl
@[go_sem] theorem bsMark_run (w : World) (x : MarkV) : (bsS 22 1 #[(0,.agg (markVC x))]).run Tryz.prog w = .ok (.slice (some ⟨w.heap.size,0,none⟩) 1 1) (w.alloc (.cells (markVC x) 41)) :=
  run_bsS1 einfoMark (by omega) w _ (markVC_size _)
set_option maxRecDepth 100000 in
set_option maxHeartbeats 4000000 in
theorem sorted_any (A : Option Addr) (n cap : Nat) (R : List MarkV) (w : World) (hm : MarksIn w A n R) (hn : n ≤ 1000) (ho : (onceM R).length ≤ 30) :
    Calls Tryz.prog 17 #[.slice A n cap] w fun e w'=>∃ A' cap',e = .returned (.slice A' (srtM R).length cap') ∧ Own w' w.heap.size 41 34 A' (srtM R).length cap' ((srtM R).map markVC) ∧ Below w.heap.size w w':=by
  have hmm:=@run_makeMap Tryz.prog;have k1:=SetAt.new (kv:=idV) (ok:=okId) w w.heap.size rfl;have hb0 : Below w.heap.size w (w.alloc (.map #[] 0)):=(Below.refl _ _).alloc (Nat.le_refl _) _;have hlen:=hm.len;go_enter Tryz.func17,Tryz.ntmps17
  (go_wp2_with fail);obtain ⟨gm,hgm⟩ : ∃ gm,w.heap.size = gm:=⟨_,rfl⟩
  have hgs : (w.alloc (.map #[] 0)).heap.size = gm + 1:=by simp [hgm]
  obtain ⟨W,hW⟩ : ∃ W,w.alloc (.map #[] 0) = W:=⟨_,rfl⟩
  rw [hW] at k1 hb0 hgs;rw [hW,hgm];rw [hgm] at k1 hb0;have Hgm:=Lib.hid hgm;have hmw : MarksIn W A n R:=SlR.below hm (by rw [hgm];exact hb0);clear hW hgm;go_loopw [3,10] (fun out iv wr=>∃ (k : Nat) (A1 : Option Addr) (cap1 : Nat),k ≤ n ∧ iv = .int .i64 k ∧ out = .slice A1 (onceM (R.take k)).length cap1 ∧ Own wr (gm + 1) 41 34 A1 (onceM (R.take k)).length cap1 ((onceM (R.take k)).map markVC) ∧ IdSet wr gm (seenM (onceM (R.take k))) ∧ Below gm w wr ∧ gm + 1 ≤ wr.heap.size) (fun _ iv _=>n - (intOf iv).toNat)
  case atStart=>exact ⟨0,none,0,Nat.zero_le _,rfl,rfl,Own.nil _ _ _ _,k1,hb0,by rw [hgs];omega⟩
  case round =>
    clear k1 hb0;obtain ⟨k,A1,cap1,hk,rfl,rfl,hown,hset,hb,hsz⟩:=hrel;by_cases hlt : k < n
    · have hbw : Below w.heap.size w wr:=by rw [Hgm.out];exact hb
      obtain ⟨q,o,rfl,hrow,_,_⟩:=MarksIn.get (SlR.below hm hbw) hlt (by omega);have htk:=onceM_take R k (by omega);have hol:=Nat.le_trans (onceM_take_len R k) ho;obtain ⟨m,hmm2⟩ : ∃ m,R[k]'(by omega) = m:=⟨_,rfl⟩
      rw [hmm2] at hrow htk;clear hmm2;obtain ⟨O,hO⟩ : ∃ O,onceM (R.take k) = O:=⟨_,rfl⟩
      rw [hO] at hown hset htk hol ⊢;clear hO;have Htk:=Lib.hid htk;clear htk;have hb1 : Below wr.heap.size wr (wr.alloc (.cells (markVC m) 41)):=(Below.refl _ _).alloc (Nat.le_refl _) _;have hr1 : rowAt (wr.alloc (.cells (markVC m) 41)) wr.heap.size 0 34 = some (markVC m):=by simp [go_sem]
      have hown1:=hown.below hb1;have hset1:=SetAt.below hset hb1;have hgr:=hset.lt;have hb2 : Below gm w (wr.alloc (.cells (markVC m) 41)):=hb.trans (hb1.mono (by omega));have hsz1 : wr.heap.size < (wr.alloc (.cells (markVC m) 41)).heap.size:=by simp
      go_upto_region 6 with fail
      obtain ⟨gx,hgx⟩ : ∃ gx,wr.heap.size = gx:=⟨_,rfl⟩
      obtain ⟨W1,hW1⟩ : ∃ W1,W1 = wr.alloc (.cells (markVC m) 41):=⟨_,rfl⟩
      rw [← hW1] at hr1 hown1 hset1 hb2 hsz1 ⊢;rw [hgx] at hr1 hsz hsz1 hgr ⊢;clear hW1 hgx hb1 hown hset hb hrow hbw;have hri : rowAt W1 gx 0 32 = some (idC m.id):=by have:=rowAt_sub hr1 (j:=0) (m:=32) (by omega);rwa [markVC_e0] at this
      by_cases hin : m.id ∈ O.map MarkV.id
      · have hk1:=ihit hset1 ((seenM_mem O m.id).2 hin);have e1 : onceStep O m = O:=if_pos hin;have htk:=Htk.out;rw [e1] at htk;have Htk2:=Lib.hid htk;clear e1 htk hin;(go_wp2_with fail);go_roundw
        case rel=>exact ⟨k + 1,A1,cap1,by omega,by go_num,by rw [Htk2.out],by rw [Htk2.out];exact hown1,by rw [Htk2.out];exact hset1,hb2,by omega⟩
        case measure=>simp [intOf];omega
      · have hk1:=imiss hset1 (fun h=>hin ((seenM_mem O m.id).1 h));obtain ⟨w2,hrun,hset2,hk2⟩:=iput (x:=m.id) hset1;have e1 : onceStep O m = O ++ [m]:=if_neg hin;have htk:=Htk.out;rw [e1] at htk;have Htk2:=Lib.hid htk;have hngx : gx ∉ [gm]:=by simp;omega
        have hr2 : rowAt w2 gx 0 34 = some (markVC m):=(hk2.row (by omega) hngx _ _).trans hr1;have hown2:=hown1.kept hk2 (fun x hx=>by have:=(hown1.at_base hx).1;simp;omega);have hb3 : Below gm w w2:=hb2.trans (hk2.below (by omega) (by simp));have hsz2:=hk2.size;rw [seenM_snoc] at hset2;clear e1 htk hin hset1 hown1;have hbx : Below w2.heap.size w2 (w2.alloc (.cells (markVC m) 41)):=(Below.refl _ _).alloc (Nat.le_refl _) _;have hown3:=hown2.below hbx;have hr3 : rowAt (w2.alloc (.cells (markVC m) 41)) w2.heap.size 0 34 = some (markVC m):=by simp [go_sem]
        have hset3:=SetAt.below hset2 hbx;have hsz3 : (w2.alloc (.cells (markVC m) 41)).heap.size = w2.heap.size + 1:=by simp
        go_upto_region 8 with fail
        go_wp2_with (at_builtin;refine L_append einfoMark rfl hown3 rfl hr3 (markVC_one _) (by omega) (by omega) (by omega) ?_;intro A2 cap2 w4 hown4 hk4 hsub4)
        have hset4 : IdSet w4 gm (seenM (O ++ [m])):=hset3.kept hk4 (fun hx=>by have:=(hown2.at_base hx).1;omega);have hb4 : Below gm w w4:=(hb3.trans (hbx.mono (by omega))).trans (hk4.below (by omega) (fun x hx=>by have:=(hown2.at_base hx).1;omega));have hown5 : Own w4 (gm + 1) 41 34 A2 (O ++ [m]).length cap2 ((O ++ [m]).map markVC):=by simpa using hown4
        have hsz4:=hk4.size;have hol5 : ((O.length : Int) + 1) = ((O ++ [m]).length : Int):=by simp
        have Hol5:=Lib.hid hol5;clear hown4 hown3 hown2 hset3 hset2 hb3 hrun hk2 hol5;(go_wp2_with fail);go_roundw
        case rel=>exact ⟨k + 1,A2,cap2,by omega,by go_num,by rw [Htk2.out];simp,by rw [Htk2.out];exact hown5,by rw [Htk2.out];exact hset4,hb4,by omega⟩
        case measure=>simp [intOf];omega
    · have hkn : k = n:=by omega
      subst hkn;have e2 : R.take k = R:=List.take_of_length_le (by omega);have hO1:=onceM_one R;have hOl:=ho;have hsrt : srtM R = sortC cmpMk (onceM R):=rfl;have hsl:=srtM_len R;rw [e2] at hown hset ⊢;obtain ⟨O,hO⟩ : ∃ O,onceM R = O:=⟨_,rfl⟩
      rw [hO] at hown hO1 hOl hsrt hsl ⊢;have Hsl:=Lib.hid hsl;have Hsrt:=Lib.hid hsrt;have HO1:=Lib.hid hO1;have hown0:=hown.mono (B':=gm) (by omega);clear hset hown e2 hO hsrt hO1 hsl;rcases hown0.addr with rfl | ⟨g,rfl⟩
      · have hn0 : O.length = 0:=(hown0.cap_le.2 rfl).1;have hO0 : O = []:=List.eq_nil_of_length_eq_zero hn0;subst hO0;obtain ⟨_,rfl⟩:=hown0.cap_le.2 rfl;have c2:=sortStable_nil wr;(go_wp2_with fail);refine c2.mono ?_;rintro e w2 ⟨rfl,rfl⟩;(go_wp2_with fail);have e3 : srtM R = []:=Hsrt.out;go_ret;exact ⟨none,0,by rw [e3];rfl,by rw [e3];exact Own.nil _ _ _ _,by rw [Hgm.out];exact hb⟩
      · have hF : OwnF wr gm g O.length cap1 (atF O):=by show Own _ _ _ _ _ _ _ _;rw [rowsF_at];exact hown0
        have c2:=sortStable_any wr gm g O.length cap1 (atF O) hF (by omega);have hg:=hown0.at_base (x:=g) (by simp [blk]);clear hown0 hF;(go_wp2_with fail);refine c2.mono ?_;rintro e w2 ⟨rfl,⟨f2,ho2,hs2,hr2⟩,hk2⟩;have hrows : rowsF f2 O.length = (srtM R).map markVC:=by
          rw [Hsrt.out,← sorted_list HO1.out (fun k h=>by unfold atF;rw [getElem!_pos O k h]) hs2 hr2];unfold rowsF;rw [List.map_map];rfl
        have hown2 : Own w2 gm 41 34 (some ⟨g,0,none⟩) O.length cap1 ((srtM R).map markVC):=by rw [← hrows];exact ho2
        have hb2 : Below gm w w2:=hb.trans (hk2.below (by omega) (by simp;omega));clear c2 ho2 hs2 hr2 hk2 hrows hb;(go_wp2_with fail);go_ret;exact ⟨some ⟨g,0,none⟩,cap1,by rw [Hsl.out];rfl,by rw [Hgm.out,Hsl.out];exact hown2,by rw [Hgm.out];exact hb2⟩
end
end Go.Proofs.YtgfpjjppeldhbaaGreatDoor
