/- Part 11 of the texts that lead to this claim: the walks of the functions and the plain law, in order. -/
import Derived.Test.YtgfpjjppeldhbaaGreatDoorMq10
import Derived.Lib.BufferWrite
import Derived.LoopN
namespace Go.Proofs.YtgfpjjppeldhbaaGreatDoor
section
open Go.RowKit
structure RawBag (w : World) (g bl bg : Nat) (L G : List BRow) : Prop where
  blk : w.heap[g]? = some (.cells #[.map (some bl),.map (some bg)] 169 (0,0))
  live : RowSet w bl L
  gone : RowSet w bg G
  ne : bl ≠ bg
theorem BagAt.raw {w : World} {g bl bg : Nat} {L G : List BRow} (h : BagAt w g bl bg L G) : RawBag w g bl bg L G:=⟨h.blk,h.live,h.gone,h.ne⟩
theorem RawBag.nel {w : World} {g bl bg : Nat} {L G : List BRow} (h : RawBag w g bl bg L G) : g ≠ bl:=set_ne h.live h.blk
theorem RawBag.neg {w : World} {g bl bg : Nat} {L G : List BRow} (h : RawBag w g bl bg L G) : g ≠ bg:=set_ne h.gone h.blk
theorem RawBag.lt {w : World} {g bl bg : Nat} {L G : List BRow} (h : RawBag w g bl bg L G) : g < w.heap.size ∧ bl < w.heap.size ∧ bg < w.heap.size :=
  ⟨(Array.getElem?_eq_some_iff.1 h.blk).1,h.live.lt,h.gone.lt⟩
theorem RawBag.kept {w w' : World} {g bl bg : Nat} {L G : List BRow} {S : List Nat} (h : RawBag w g bl bg L G) (k : Keep S w w') (hg : g ∉ S) (hl : bl ∉ S) (hb : bg ∉ S) : RawBag w' g bl bg L G :=
  ⟨(k.block g h.lt.1 hg).trans h.blk,h.live.kept k hl,h.gone.kept k hb,h.ne⟩
theorem RawBag.below {w w' : World} {g bl bg : Nat} {L G : List BRow} (h : RawBag w g bl bg L G) (k : Below w.heap.size w w') : RawBag w' g bl bg L G:=h.kept (Keep.of_below k) (by simp) (by simp) (by simp)
theorem RawBag.cell0 {w : World} {g bl bg : Nat} {L G : List BRow} (h : RawBag w g bl bg L G) : w.cell? ⟨g,0,none⟩ = some (.map (some bl)):=by rw [cell_of_row w g 0 _ _ _ h.blk];rfl
theorem RawBag.cell1 {w : World} {g bl bg : Nat} {L G : List BRow} (h : RawBag w g bl bg L G) : w.cell? ⟨g,1,none⟩ = some (.map (some bg)):=by rw [cell_of_row w g 1 _ _ _ h.blk];rfl
set_option maxRecDepth 100000 in
set_option maxHeartbeats 4000000 in
theorem bload (w : World) (s : ByteArray) (hs : s.size ≤ 1000000) :
    Calls Tryz.prog 171 #[.string s] w fun e w'=>∃ P,e = .returned (.tuple #[.pointer P,.int .i64 (loadB s.data.toList)]) ∧ (loadB s.data.toList = 0 → ∃ g bl bg,P = some ⟨g,0,none⟩ ∧ BagAt w' g bl bg (partA s.data.toList).rows (partG s.data.toList).rows ∧ w.heap.size ≤ g ∧ w.heap.size ≤ bl ∧ w.heap.size ≤ bg) ∧ (loadB s.data.toList ≠ 0 → P = none) ∧ Below w.heap.size w w':=by
  obtain ⟨l,hl⟩ : ∃ l,s.data.toList = l:=⟨_,rfl⟩
  have hsl : s = mkB l:=by rw [← hl];rfl
  have hll : l.length ≤ 1000000:=by rw [← hl];exact hs
  have cop:=rd_open s w (by omega);rw [hl] at cop ⊢;subst hsl;clear hl hs;have hpt:=fun h : loadB l = 0=>load_parts h;have hpG : partG l = readB (partA l).l (partA l).e:=rfl;have hpA : partA l = readB l 0:=rfl;have hld : loadB l = if (partG l).e ≠ 0 then (partG l).e
    else if longB (partA l).rows = true ∨ longB (partG l).rows = true then 3
    else if endE (partG l).l (partG l).e ≠ 0 ∨ risB (partA l).rows = false ∨ risB (partG l).rows = false then 4
    else if bothB (partA l).rows (partG l).rows = true then 4 else 0:=rfl
  obtain ⟨PG,hPG⟩ : ∃ PG,partG l = PG:=⟨_,rfl⟩
  obtain ⟨PA,hPA⟩ : ∃ PA,partA l = PA:=⟨_,rfl⟩
  rw [hPG,hPA] at hpG;rw [hPA] at hpA;rw [hPG,hPA] at hld ⊢;rw [hPG,hPA] at hpt;clear hPA hPG;obtain ⟨A,l1,e1⟩:=PA;obtain ⟨G,l2,e2⟩:=PG;dsimp only at *;have Hld:=Lib.hid hld;have Hpg:=Lib.hid hpG;have Hpa:=Lib.hid hpA;have Hpt:=Lib.hid hpt;clear hld hpG hpA hpt;obtain ⟨g,hg⟩ : ∃ g,w.heap.size = g:=⟨_,rfl⟩
  rw [hg] at cop ⊢;have Hg:=Lib.hid hg;clear hg;go_enter Tryz.func171,Tryz.ntmps171
  (go_wp2_with fail);refine cop.mono ?_;rintro e w0 ⟨rfl,hr0,hb0⟩;have c0:=bread w0 g l 0 hr0;rw [← Hpa.out] at c0;dsimp only at c0;have hg0 : g < w0.heap.size:=hr0.lt;clear cop hr0;(go_wp2_with fail);refine c0.mono ?_;rintro e w1 ⟨Aa,ca,rfl,hownA,hr1,hk1,hfA,hnA⟩;have hb1 : Below g w w1:=hb0.trans (hk1.below (by omega) (by simp));have hgA : ∀ x ∈ blk Aa,x ∉ [g]:=fun x hx=>(by have:=(hownA.at_base hx).1;simp;omega);have c1:=bread w1 g l1 e1 hr1;rw [← Hpg.out] at c1;dsimp only at c1;clear c0 hb0 hk1;(go_wp2_with fail);refine c1.mono ?_;rintro e w2 ⟨Ag,cg,rfl,hownG,hr2,hk2,hfG,hnG⟩;have hslA : RowsIn w2 Aa A.length A:=(hownA.kept hk2 hgA).slr;have hslG : RowsIn w2 Ag G.length G:=hownG.slr;have hb2 : Below g w w2:=hb1.trans (hk2.below (by have:=hb1.size;have:=Hg.out;omega) (by simp));have hAb : Hid (∀ x ∈ blk Aa,x < w2.heap.size):=fun x hx=>(by have:=(hownA.at_base hx).2;have:=hk2.size;omega);have hGb : Hid (∀ x ∈ blk Ag,x < w2.heap.size):=fun x hx=>(hownG.at_base hx).2;clear c1 hr1 hk2 hownA hownG hgA hb1 hfA hfG hg0;by_cases he : e2 = 0
  · subst he;have hld2:=Hld.out;rw [if_neg (by simp)] at hld2;have Hld2:=Lib.hid hld2;clear hld2 Hld;have cA:=fun w' (h' : RowsIn w' Aa A.length A)=>bcontains w' Aa A.length ca A h' (by omega);have cG:=fun w' (h' : RowsIn w' Ag G.length G)=>bcontains w' Ag G.length cg G h' (by omega);cases hlA : longB A with
    | true =>
      rw [hlA] at cA;have hld3:=Hld2.out;rw [if_pos (.inl hlA)] at hld3;have Hld3:=Lib.hid hld3;clear hld3 Hld2 hlA cG;(go_wp2_with fail);refine (rd_err _ g l2 0 hr2).mono ?_;rintro e w3 ⟨rfl,rfl⟩;(go_wp2_with fail);refine (cA _ hslA).mono ?_;rintro e w4 ⟨rfl,hb4⟩;(go_wp2_with fail);go_ret2;exact ⟨none,by rw [Hld3.out];rfl,fun h0=>absurd (Hld3.out.symm.trans h0) (by omega),fun _=>rfl,hb2.trans (hb4.mono (by have:=hb2.size;have:=Hg.out;omega))⟩
    | false =>
      rw [hlA] at cA;cases hlG : longB G with
      | true =>
        rw [hlG] at cG;have hld3:=Hld2.out;rw [if_pos (.inr hlG)] at hld3;have Hld3:=Lib.hid hld3;clear hld3 Hld2 hlA hlG;(go_wp2_with fail);refine (rd_err _ g l2 0 hr2).mono ?_;rintro e w3 ⟨rfl,rfl⟩;(go_wp2_with fail);refine (cA _ hslA).mono ?_;rintro e w4 ⟨rfl,hb4⟩;have hslG4 : RowsIn w4 Ag G.length G:=SlR.below hslG hb4;(go_wp2_with fail);refine (cG _ hslG4).mono ?_;rintro e w5 ⟨rfl,hb5⟩;(go_wp2_with fail);go_ret2;exact ⟨none,by rw [Hld3.out];rfl,fun h0=>absurd (Hld3.out.symm.trans h0) (by omega),fun _=>rfl,hb2.trans ((bel2 hb4 hb5).mono (by have:=hb2.size;have:=Hg.out;omega))⟩
      | false =>
        rw [hlG] at cG;have hld3:=Hld2.out;rw [if_neg (by simp [hlA,hlG])] at hld3;have Hld3:=Lib.hid hld3;have HsA:=Lib.hid (longB_false.1 hlA);have HsG:=Lib.hid (longB_false.1 hlG);clear hld3 Hld2 hlA hlG;(go_wp2_with fail);refine (rd_err _ g l2 0 hr2).mono ?_;rintro e w3 ⟨rfl,rfl⟩;(go_wp2_with fail);refine (cA _ hslA).mono ?_;rintro e w4 ⟨rfl,hb4⟩;have hslG4 : RowsIn w4 Ag G.length G:=SlR.below hslG hb4;(go_wp2_with fail);refine (cG _ hslG4).mono ?_;rintro e w5 ⟨rfl,hb5⟩;have hsA5 : RowsIn w5 Aa A.length A:=SlR.below (SlR.below hslA hb4) hb5;have hsG5 : RowsIn w5 Ag G.length G:=SlR.below hslG4 hb5;have hr5:=(hr2.below hb4).below hb5;have hb05 : Below g w w5:=hb2.trans ((bel2 hb4 hb5).mono (by have:=hb2.size;have:=Hg.out;omega));have hgw : g ≤ w5.heap.size:=by have:=hb05.size;have:=Hg.out;omega
        have hs25:=(bel2 hb4 hb5).size;clear hslA hslG hslG4 hr2 hb2 hb4 hb5 cA cG;have hcr:=fun w' (h' : RowsIn w' Aa A.length A)=>brising w' Aa A.length ca A h' (by omega);have hcg2:=fun w' (h' : RowsIn w' Ag G.length G)=>brising w' Ag G.length cg G h' (by omega);by_cases he0 : endE l2 0 = 0
        · have He0:=Lib.hid he0;cases hrA : risB A with
          | false =>
            rw [hrA] at hcr;clear hcg2;have hld4:=Hld3.out;rw [if_pos (by simp [hrA])] at hld4;have Hld4:=Lib.hid hld4;clear hld4;(go_wp2_with fail);refine (rd_end _ g l2 0 hr5).mono ?_;rintro e w6 ⟨rfl,hb5⟩;rw [He0.out];have hsA6 : RowsIn w6 Aa A.length A:=SlR.below hsA5 hb5;have hsG6 : RowsIn w6 Ag G.length G:=SlR.below hsG5 hb5;have hb6 : Below g w w6:=hb05.trans (hb5.mono hgw);(go_wp2_with fail);refine (hcr _ hsA6).mono ?_;rintro e w7 ⟨rfl,hb7⟩;(go_wp2_with fail);go_ret2;exact ⟨none,by rw [Hld4.out];rfl,fun h0=>absurd (Hld4.out.symm.trans h0) (by omega),fun _=>rfl,hb6.trans (hb7.mono (by have:=hb6.size;have:=Hg.out;omega))⟩
          | true =>
            rw [hrA] at hcr;cases hrG : risB G with
            | false =>
              rw [hrG] at hcg2;have hld4:=Hld3.out;rw [if_pos (by simp [hrG])] at hld4;have Hld4:=Lib.hid hld4;clear hld4;(go_wp2_with fail);refine (rd_end _ g l2 0 hr5).mono ?_;rintro e w6 ⟨rfl,hb5⟩;rw [He0.out];have hsA6 : RowsIn w6 Aa A.length A:=SlR.below hsA5 hb5;have hsG6 : RowsIn w6 Ag G.length G:=SlR.below hsG5 hb5;have hb6 : Below g w w6:=hb05.trans (hb5.mono hgw);(go_wp2_with fail);refine (hcr _ hsA6).mono ?_;rintro e w7 ⟨rfl,hb7⟩;have hsG7 : RowsIn w7 Ag G.length G:=SlR.below hsG6 hb7;(go_wp2_with fail);refine (hcg2 _ hsG7).mono ?_;rintro e w8 ⟨rfl,hb8⟩;(go_wp2_with fail);go_ret2;exact ⟨none,by rw [Hld4.out];rfl,fun h0=>absurd (Hld4.out.symm.trans h0) (by omega),fun _=>rfl,hb6.trans ((bel2 hb7 hb8).mono (by have:=hb6.size;have:=Hg.out;omega))⟩
            | true =>
              rw [hrG] at hcg2;have hld4:=Hld3.out;rw [if_neg (by simp [hrA,hrG,he0])] at hld4;have Hld4:=Lib.hid hld4;clear hld4 Hld3 he0 hrA hrG;(go_wp2_with fail);refine (rd_end _ g l2 0 hr5).mono ?_;rintro e w6 ⟨rfl,hb6⟩;rw [He0.out];have hsA6 : RowsIn w6 Aa A.length A:=SlR.below hsA5 hb6;have hsG6 : RowsIn w6 Ag G.length G:=SlR.below hsG5 hb6;(go_wp2_with fail);refine (hcr _ hsA6).mono ?_;rintro e w7 ⟨rfl,hb7⟩;have hsA7 : RowsIn w7 Aa A.length A:=SlR.below hsA6 hb7;have hsG7 : RowsIn w7 Ag G.length G:=SlR.below hsG6 hb7;(go_wp2_with fail);refine (hcg2 _ hsG7).mono ?_;rintro e w8 ⟨rfl,hb8⟩;have hsA8 : RowsIn w8 Aa A.length A:=SlR.below hsA7 hb8;have hsG8 : RowsIn w8 Ag G.length G:=SlR.below hsG7 hb8;have hb58:=bel2 (bel2 hb6 hb7) hb8;have hb08 : Below g w w8:=hb05.trans (hb58.mono hgw);have hgw8 : g ≤ w8.heap.size:=by have:=hb58.size;omega
              have hs28 : w2.heap.size ≤ w8.heap.size:=by have:=hb58.size;omega
              clear hsA5 hsG5 hsA6 hsG6 hsA7 hsG7 hb05 hb58 hb6 hb7 hb8 hcr hcg2 hr5 hgw;(go_wp2_with fail);refine (bnew _).mono ?_;rintro e w9 ⟨gb,bl,bg,rfl,hB9,hgb,hgl,hgg,hb9⟩;have hR9:=hB9.raw;have hsA9 : RowsIn w9 Aa A.length A:=SlR.below hsA8 hb9;have hsG9 : RowsIn w9 Ag G.length G:=SlR.below hsG8 hb9;have hb09 : Below g w w9:=hb08.trans (hb9.mono hgw8);have hgb' : g ≤ gb:=by omega
              have hgl' : g ≤ bl:=by omega
              have hgg' : g ≤ bg:=by omega
              have Hgb:=Lib.hid (show ∀ x,x ∈ [bl,bg] → g ≤ x by simp;omega);have hnl:=hR9.nel;have hng:=hR9.neg;have hAn : Hid (∀ x ∈ blk Aa,x ∉ [bl,bg]):=fun x hx=>(by have:=hAb.out x hx;simp;omega);have hGn : Hid (∀ x ∈ blk Ag,x ∉ [bl,bg]):=fun x hx=>(by have:=hGb.out x hx;simp;omega);clear hB9 hsA8 hsG8 hb08 hb9 hgb hgl hgg hgw8 hAb hGb hs28 hs25;(go_wp2_with fail);obtain ⟨wo,rfl⟩ : ∃ wo : World,wo = w9:=⟨_,rfl⟩
              go_loopw [42] (fun i wr=>∃ j : Nat,j ≤ G.length ∧ i = .int .i64 j ∧ RawBag wr gb bl bg [] (G.take j) ∧ Keep [bl,bg] wo wr) (fun i _=>G.length - (intOf i).toNat)
              case atStart=>exact ⟨0,Nat.zero_le _,rfl,hR9,Keep.refl _ _⟩
              case round =>
                clear hR9;obtain ⟨j,hj,rfl,hR,hkr⟩:=hrel;have hlt':=hR.lt;by_cases hlt : j < G.length
                · have hsGr : RowsIn wr Ag G.length G:=SlR.kept hsG9 hkr hGn.out;obtain ⟨q,o,rfl,hrow,-,-⟩:=RowsIn.get hsGr hlt hlt;have htk : G.take (j + 1) = G.take j ++ [G[j]'hlt]:=by rw [List.take_add_one,List.getElem?_eq_getElem hlt];rfl
                  have hsm:=HsG.out _ (List.getElem_mem hlt);obtain ⟨x,hx⟩ : ∃ x,G[j]'hlt = x:=⟨_,rfl⟩
                  rw [hx] at hrow htk hsm;have Htk:=Lib.hid htk;have Hsm:=Lib.hid hsm;clear hx htk hsm hsGr;have hb1 : Below wr.heap.size wr (wr.alloc (.cells (bRowC x) 171)):=(Below.refl _ _).alloc (Nat.le_refl _) _;have h1:=hR.below hb1;have hrow1 : rowAt (wr.alloc (.cells (bRowC x) 171)) wr.heap.size 0 33 = some (bRowC x):=by simp [go_sem]
                  go_upto_region 16 with fail
                  obtain ⟨W1,hW1⟩ : ∃ W1,W1 = (wr.alloc (.cells (bRowC x) 171)):=⟨_,rfl⟩
                  rw [← hW1] at h1 hrow1 hb1 ⊢;obtain ⟨w2',hrun,hG2,hk2⟩:=rput (x:=x) (h1.gone.kept (Keep.drew W1) (by simp)) Hsm.out;have hgb2 : gb ∉ [bg]:=by simp;exact hng
                  have hc1:=h1.cell1;clear hW1;refine wp_region_lex (Kp [bg] W1) false (by kernel_rfl) (by kernel_rfl) (by kernel_rfl) (kp_drew [bg] W1) ?_;have hne:=kp_some [bg] W1;have hS:=kp_drew [bg] W1;have b1:=ksub_cell hc1 hgb2;have b2:=ksub_row hrow1 (S:=[bg]) (by simp;omega);repeat (refine wpLx_loose ?_ ?_;(focus (simp only [chainOp];done));intro K hK;go_simp;refine hK _ ?_;clear hK K)
                  refine wpLx_chain ?_ ?_ ?_;(focus (exact hS));(focus (simp only [chainOp];done));intro K hK;go_simp;refine step_keep (kp_next hS hk2 (by simp)) (fun hS=>?_);refine hK _ _ ?_;clear hK K;refine wpLx_nil ?_;intro hS;have hS' : Keep [bg] W1 w2':=hS;have hlg : bl ∉ [bg]:=by simp;exact h1.ne
                  have hkW2 : Keep [bg] wr w2':=Keep.trans ((Keep.of_below hb1).mono (S':=[bg]) (by simp)) hS' (fun x hx=>.inl hx);have hkn : Keep [bl,bg] wo w2':=Keep.trans hkr (hkW2.mono (S':=[bl,bg]) (by simp)) (fun x hx=>.inl hx);have hRn : RawBag w2' gb bl bg [] (G.take (j + 1)):=by
                    rw [Htk.out];refine ⟨(hS'.block gb h1.lt.1 hgb2).trans h1.blk,h1.live.kept hS' hlg,hG2.congr fun y=>?_,h1.ne⟩;rw [List.mem_append,List.mem_singleton,List.mem_cons,or_comm]
                  clear b1 b2 hk2 hrun hne hS hS' hc1 hrow1 hb1 hkW2;(go_wp2_with fail);go_roundw
                  case rel=>exact ⟨j + 1,by omega,by go_num,hRn,hkn⟩
                  case measure=>simp [intOf];omega
                · have hR2 : RawBag wr gb bl bg [] G:=by
                    have:=hR
                    rwa [List.take_of_length_le (by omega)] at this
                  have hsA10 : RowsIn wr Aa A.length A:=SlR.kept hsA9 hkr hAn.out;have hb10 : Below g w wr:=hb09.trans (hkr.below (by have:=hb09.size;have:=Hg.out;omega) Hgb.out);clear hR hkr hsA9 hsG9 hb09 hlt';(go_wp2_with fail);obtain ⟨wp,rfl⟩ : ∃ wp : World,wp = wr:=⟨_,rfl⟩
                  go_loopw [54] (fun i wr=>∃ j : Nat,j ≤ A.length ∧ i = .int .i64 j ∧ RawBag wr gb bl bg (A.take j) G ∧ Hid (bothB A G = bothB (A.drop j) G) ∧ Keep [bl,bg] wp wr) (fun i _=>A.length - (intOf i).toNat)
                  case atStart=>exact ⟨0,Nat.zero_le _,rfl,hR2,(show _ = _ from rfl),Keep.refl _ _⟩
                  case round =>
                    clear hR2;obtain ⟨j,hj,rfl,hR,hbo,hkr⟩:=hrel;have hlt':=hR.lt;by_cases hlt : j < A.length
                    · have hsAr : RowsIn wr Aa A.length A:=SlR.kept hsA10 hkr hAn.out;obtain ⟨q,o,rfl,hrow,-,-⟩:=RowsIn.get hsAr hlt hlt;have htk : A.take (j + 1) = A.take j ++ [A[j]'hlt]:=by rw [List.take_add_one,List.getElem?_eq_getElem hlt];rfl
                      have hsm:=HsA.out _ (List.getElem_mem hlt);have hbo2 : bothB A G = (decide (A[j]'hlt ∈ G) || bothB (A.drop (j + 1)) G):=hbo.out.trans (bothB_drop hlt);obtain ⟨x,hx⟩ : ∃ x,A[j]'hlt = x:=⟨_,rfl⟩
                      rw [hx] at hrow htk hsm hbo2;have Htk:=Lib.hid htk;have Hsm:=Lib.hid hsm;clear hx htk hsm hsAr hbo;have hb1 : Below wr.heap.size wr (wr.alloc (.cells (bRowC x) 171)):=(Below.refl _ _).alloc (Nat.le_refl _) _;have h1:=hR.below hb1;have hrow1 : rowAt (wr.alloc (.cells (bRowC x) 171)) wr.heap.size 0 33 = some (bRowC x):=by simp [go_sem]
                      go_upto_region 21 with fail
                      obtain ⟨W1,hW1⟩ : ∃ W1,W1 = (wr.alloc (.cells (bRowC x) 171)):=⟨_,rfl⟩
                      rw [← hW1] at h1 hrow1 hb1 ⊢;have hc1:=h1.cell1;clear hW1;by_cases hin : x ∈ G
                      · rw [decide_eq_true hin,Bool.true_or] at hbo2;have hld5:=Hld4.out;rw [if_pos hbo2] at hld5;have Hld5:=Lib.hid hld5;have hk : ∀ y : Subtype (Bel W1),(Instr.lookup 167 (.map (some bg)) (.agg (bRowC x)) false).run Tryz.prog y.1 = .ok (.bool true) y.1:=fun y=>rhit (h1.gone.below y.2) Hsm.out hin;clear hld5 hbo2 hin;refine wp_region_lex (Bel W1) false (by kernel_rfl) (by kernel_rfl) (by kernel_rfl) (bel_drew W1) ?_;have hne:=bel_some W1;have hS:=bel_drew W1;have b1:=sub_cell hc1;have b2:=sub_row hrow1;repeat (refine wpLx_loose ?_ ?_;(focus (simp only [chainOp];done));intro K hK;go_simp;refine hK _ ?_;clear hK K)
                        refine wpLx_nil ?_;intro hS;(go_wp2_with fail);go_ret2;exact ⟨none,by rw [Hld5.out];rfl,fun h0=>absurd (Hld5.out.symm.trans h0) (by omega),fun _=>rfl,hb10.trans ((hkr.below (by have:=hb10.size;have:=Hg.out;omega) Hgb.out).trans ((bel2 hb1 hS).mono (by have:=hb10.size;have:=hkr.size;have:=Hg.out;omega)))⟩
                      · rw [decide_eq_false hin,Bool.false_or] at hbo2;have Hbo:=Lib.hid hbo2;have hk : ∀ y : Subtype (Bel W1),(Instr.lookup 167 (.map (some bg)) (.agg (bRowC x)) false).run Tryz.prog y.1 = .ok (.bool false) y.1:=fun y=>rmiss (h1.gone.below y.2) Hsm.out hin;clear hbo2 hin;refine wp_region_lex (Bel W1) false (by kernel_rfl) (by kernel_rfl) (by kernel_rfl) (bel_drew W1) ?_;have hne:=bel_some W1;have hS:=bel_drew W1;have b1:=sub_cell hc1;have b2:=sub_row hrow1;repeat (refine wpLx_loose ?_ ?_;(focus (simp only [chainOp];done));intro K hK;go_simp;refine hK _ ?_;clear hK K)
                        refine wpLx_nil ?_;intro hS;have hbd:=bel_drew W1;have h2:=h1.below hbd;have hrow2 : rowAt W1.drew wr.heap.size 0 33 = some (bRowC x):=hrow1;clear b1 b2 hk hne hS hc1 hrow1;go_upto_region 23 with fail
                        obtain ⟨W2,hW2⟩ : ∃ W2,W2 = W1.drew:=⟨_,rfl⟩
                        rw [← hW2] at h2 hrow2 hbd ⊢;have hc0:=h2.cell0;obtain ⟨w2',hrun,hL2,hk2⟩:=rput (x:=x) (h2.live.kept (Keep.drew W2) (by simp)) Hsm.out;have hgb2 : gb ∉ [bl]:=by simp;exact hnl
                        clear hW2;refine wp_region_lex (Kp [bl] W2) false (by kernel_rfl) (by kernel_rfl) (by kernel_rfl) (kp_drew [bl] W2) ?_;have hne:=kp_some [bl] W2;have hS:=kp_drew [bl] W2;have b1:=ksub_cell hc0 hgb2;have b2:=ksub_row hrow2 (S:=[bl]) (by simp;omega);repeat (refine wpLx_loose ?_ ?_;(focus (simp only [chainOp];done));intro K hK;go_simp;refine hK _ ?_;clear hK K)
                        refine wpLx_chain ?_ ?_ ?_;(focus (exact hS));(focus (simp only [chainOp];done));intro K hK;go_simp;refine step_keep (kp_next hS hk2 (by simp)) (fun hS=>?_);refine hK _ _ ?_;clear hK K;refine wpLx_nil ?_;intro hS;have hS' : Keep [bl] W2 w2':=hS;have hlg : bg ∉ [bl]:=by simp;exact fun e=>h2.ne e.symm
                        have hkW2 : Keep [bl] wr w2':=Keep.trans ((Keep.of_below (bel2 hb1 hbd)).mono (S':=[bl]) (by simp)) hS' (fun x hx=>.inl hx);have hkn : Keep [bl,bg] wp w2':=Keep.trans hkr (hkW2.mono (S':=[bl,bg]) (by simp)) (fun x hx=>.inl hx);have hRn : RawBag w2' gb bl bg (A.take (j + 1)) G:=by
                          rw [Htk.out];refine ⟨(hS'.block gb h2.lt.1 hgb2).trans h2.blk,hL2.congr fun y=>?_,h2.gone.kept hS' hlg,h2.ne⟩;rw [List.mem_append,List.mem_singleton,List.mem_cons,or_comm]
                        clear b1 b2 hk2 hrun hne hS hS' hc0 hrow2 hb1 hkW2 hbd;(go_wp2_with fail);go_roundw
                        case rel=>exact ⟨j + 1,by omega,by go_num,hRn,Hbo,hkn⟩
                        case measure=>simp [intOf];omega
                    · have hR3 : RawBag wr gb bl bg A G:=by
                        have:=hR
                        rwa [List.take_of_length_le (by omega)] at this
                      have hbo2 : bothB A G = false:=by rw [hbo.out,List.drop_eq_nil_of_le (by omega)];rfl
                      have hld5:=Hld4.out;rw [if_neg (by rw [hbo2];simp)] at hld5;obtain ⟨_,p2,p3,_,p5,p6,p7⟩:=Hpt.out hld5;have hBf : BagAt wr gb bl bg A G:=⟨hR3.blk,hR3.live,hR3.gone,hR3.ne,p5,p6,p2,p3,p7⟩
                      have Hld5:=Lib.hid hld5;have HBf:=Lib.hid hBf;have hb11 : Below g w wr:=hb10.trans (hkr.below (by have:=hb10.size;have:=Hg.out;omega) Hgb.out);clear p2 p3 p5 p6 p7 hBf hld5 hbo2 hR3 hR hbo hkr;(go_wp2_with fail);go_ret2;exact ⟨some ⟨gb,0,none⟩,by rw [Hld5.out];rfl,fun _=>⟨gb,bl,bg,rfl,HBf.out,hgb',hgl',hgg'⟩,fun h0=>absurd Hld5.out h0,hb11⟩
        · have hel : endE l2 0 = 4:=by
            unfold endE at he0 ⊢;rw [if_pos rfl] at he0 ⊢;split
            · rename_i h;rw [if_pos h] at he0;exact absurd rfl he0
            · rfl
          have He0:=Lib.hid hel;clear hcr hcg2;have hld4:=Hld3.out;rw [if_pos (by simp [hel])] at hld4;have Hld4:=Lib.hid hld4;clear hld4;(go_wp2_with fail);refine (rd_end _ g l2 0 hr5).mono ?_;rintro e w6 ⟨rfl,hb5⟩;rw [He0.out];have hsA6 : RowsIn w6 Aa A.length A:=SlR.below hsA5 hb5;have hsG6 : RowsIn w6 Ag G.length G:=SlR.below hsG5 hb5;have hb6 : Below g w w6:=hb05.trans (hb5.mono hgw);(go_wp2_with fail);go_ret2;exact ⟨none,by rw [Hld4.out];rfl,fun h0=>absurd (Hld4.out.symm.trans h0) (by omega),fun _=>rfl,hb6⟩
  · have heb : (e2 == 0) = false:=by simpa using he
    have hen : (e2 != 0) = true:=by simpa using he
    have hld2:=Hld.out;rw [if_pos he] at hld2;have Hld2:=Lib.hid hld2;have He:=Lib.hid he;clear hld2 Hld he;(go_wp2_with fail);refine (rd_err _ g l2 e2 hr2).mono ?_;rintro e w3 ⟨rfl,rfl⟩;(go_wp2_with fail);refine (rd_err _ g l2 e2 hr2).mono ?_;rintro e w3 ⟨rfl,rfl⟩;(go_wp2_with fail);go_ret2;exact ⟨none,by rw [Hld2.out];rfl,fun h0=>absurd (Hld2.out.symm.trans h0) He.out,fun _=>rfl,hb2⟩
end
section
open Go.RowKit
structure Rds where
  rows : List Row
  l : List UInt8
  e : Int
def oneRow (l : List UInt8) (e : Int) : Row:=⟨txV l e,txV (txL l e) (txE l e),(numV 4 (txL (txL l e) (txE l e)) (txE (txL l e) (txE l e)) : Int),
  idOf (rawV 32 (rawL 4 (txL (txL l e) (txE l e)) (txE (txL l e) (txE l e))) (rawE 4 (txL (txL l e) (txE l e)) (txE (txL l e) (txE l e))))⟩
def oneL_l (l : List UInt8) (e : Int) : List UInt8:=rawL 32 (rawL 4 (txL (txL l e) (txE l e)) (txE (txL l e) (txE l e))) (rawE 4 (txL (txL l e) (txE l e)) (txE (txL l e) (txE l e)))
def oneE_l (l : List UInt8) (e : Int) : Int:=rawE 32 (rawL 4 (txL (txL l e) (txE l e)) (txE (txL l e) (txE l e))) (rawE 4 (txL (txL l e) (txE l e)) (txE (txL l e) (txE l e)))
def stepRds (s : Rds) : Rds:=⟨s.rows ++ [oneRow s.l s.e],oneL_l s.l s.e,oneE_l s.l s.e⟩
def loopRds : Nat → Rds → Rds
  | 0,s=>s
  | k + 1,s=>if s.e = 0 then loopRds k (stepRds s) else s
def readRds (l : List UInt8) : Rds:=loopRds (numV 4 l 0) ⟨[],rawL 4 l 0,rawE 4 l 0⟩
theorem loopRds_stop (k : Nat) (s : Rds) (h : s.e ≠ 0) : loopRds k s = s:=by
  cases k with
  | zero=>rfl
  | succ k=>unfold loopRds;rw [if_neg h]
theorem loopRds_step (k : Nat) (s : Rds) (h : s.e = 0) : loopRds (k + 1) s = loopRds k (stepRds s):=by rw [loopRds,if_pos h]
def FitsL (R : List Row) : Prop:=∀ x ∈ R,x.key.size ≤ 255 ∧ x.val.size ≤ 255
theorem fits_step_l {R : List Row} (h : FitsL R) (l : List UInt8) (e : Int) : FitsL (R ++ [oneRow l e]):=fun x hx=>by
  rcases List.mem_append.1 hx with h' | h'
  · exact h x h'
  · simp at h';subst h';exact ⟨txV_size _ _,txV_size _ _⟩
def firstE : List Row → Int
  | []=>0
  | x :: l=>if checkE x.key (rowS x) = 0 then firstE l else checkE x.key (rowS x)
def risingB : List Row → Bool
  | []=>true
  | [_]=>true
  | x :: y :: l=>bltS x.key y.key && risingB (y :: l)
def loadE (l : List UInt8) : Int :=
  if (readRds l).e ≠ 0 then (readRds l).e
  else if firstE (readRds l).rows ≠ 0 then firstE (readRds l).rows
  else if risingB (readRds l).rows = false then 4
  else if (readRds l).l = [] then 0 else 4
end
section
open Go.RowKit
set_option maxRecDepth 100000 in
theorem rowC_set1 (k v v' : ByteArray) (n : Int) (d : Id32) : (rowC ⟨k,v,n,d⟩).setIfInBounds 1 (.string v') = rowC ⟨k,v',n,d⟩:=by
  apply Array.ext';simp [rowC]
set_option maxRecDepth 100000 in
theorem rowC_set2 (k v : ByteArray) (n n' : Int) (d : Id32) : (rowC ⟨k,v,n,d⟩).setIfInBounds 2 (.int .i64 n') = rowC ⟨k,v,n',d⟩:=by
  apply Array.ext';simp [rowC]
theorem rowC_set3 (k v : ByteArray) (n : Int) (d d' : Id32) : ((rowC ⟨k,v,n,d⟩).toList.take (3 + 0) ++ (idC d').toList ++ (rowC ⟨k,v,n,d⟩).toList.drop (3 + 0 + (idC d').toList.length)).toArray = rowC ⟨k,v,n,d'⟩:=by
  apply Array.ext';have h1 : (idC d').toList.length = 32:=by simp
  have h2 : (idC d).toList.length = 32:=by simp
  rw [h1];have e : (rowC ⟨k,v,n,d⟩).toList = [.string k,.string v,.int .i64 n] ++ (idC d).toList:=by simp [rowC]
  have e' : (rowC ⟨k,v,n,d'⟩).toList = [.string k,.string v,.int .i64 n] ++ (idC d').toList:=by simp [rowC]
  rw [e,e'];simp [List.drop_eq_nil_of_le,h2]
end
section
open Go.RowKit
structure Nm where
  key : ByteArray
  set : Setting
def nmC (x : Nm) : Array Value:=#[.string x.key] ++ settingC x.set
@[simp] theorem nmC_size (x : Nm) : (nmC x).size = 35:=by simp [nmC]
@[go_sem] theorem nmC_g0 (x : Nm) : (nmC x)[0]? = some (.string x.key):=by first | (simp [nmC,Array.getElem?_append];done) | (rw [show nmC x = ((#[] : Array Value)) ++ #[.string x.key] ++ (settingC x.set) from by apply Array.ext';simp [nmC]];exact arr_at _ _ _ _ (by simp))
@[go_sem] theorem nmC_gg0 (x : Nm) (h : 0 < (nmC x).size) : (nmC x)[0]'h = .string x.key:=Option.some.inj ((Array.getElem?_eq_getElem h).symm.trans (nmC_g0 x))
@[go_sem] theorem nmC_e1 (x : Nm) : (nmC x).extract 1 35 = settingC x.set:=by
  have h : nmC x = (#[.string x.key]) ++ settingC x.set ++ ((#[] : Array Value)):=by first | (simp [nmC,Array.append_assoc];done) | (apply Array.ext';simp [nmC];done)
  rw [h];exact arr_mid _ _ _ _ _ (by simp) (by simp)
@[go_sem] theorem nmC_all (x : Nm) : (nmC x).extract 0 35 = nmC x:=by have:=Array.extract_size (xs:=nmC x);rwa [nmC_size] at this
theorem nmC_one (x : Nm) : ∀ u ∈ (nmC x).toList,u.oneCell' = true:=by
  intro u hu;simp only [nmC,Array.toList_append,List.mem_append] at hu;rcases hu with hu | hu
  · simp at hu;subst hu;rfl
  · exact settingC_one _ u hu
def nm0 : Nm:=⟨⟨#[]⟩,setting0⟩
theorem Nm_ext {x y : Nm} (h : x.key = y.key ∧ x.set = y.set) : x = y:=by cases x;cases y;simp_all
instance : DecidableEq Nm:=fun x y=>if h : x.key = y.key ∧ x.set = y.set then isTrue (Nm_ext h) else isFalse (fun e=>h (by subst e;simp))
theorem infoNm : (Tryz.prog.info? 312).map (·.size) = some 35:=by kernel_rfl
@[go_sem ↓] theorem zeroNm_run (w : World) : (zeroValue 312).run Tryz.prog w = .ok (.agg (nmC nm0)) w:=by
  have h : (Tryz.prog.info? 312).bind (·.zero) = some (.agg (nmC nm0)):=by kernel_rfl
  cases hi : Tryz.prog.info? 312 with
  | none=>rw [hi] at h;cases h
  | some i =>
    rw [hi] at h;have hz : i.zero = some (.agg (nmC nm0)):=h;simp [zeroValue,typeInfo,hi,hz]
@[go_sem ↓] theorem loadNm_rw (a : Addr) : loadVar 312 a = ldS 312 a:=rfl
@[go_sem ↓] theorem storeNm_rw (a : Addr) (v : Value) : storeVar 312 a v = stS 312 a v:=rfl
@[go_sem] theorem loadNm_run (w : World) (g o : Nat) : (ldS 312 ⟨g,o,none⟩).run Tryz.prog w = match rowAt w g o 35 with | some cs=>.ok (.agg cs) w | none=>(loadVar 312 ⟨g,o,none⟩).run Tryz.prog w :=
  run_ldS Tryz.underlying312 rfl infoNm w g o
@[go_sem] theorem storeNm_run (w : World) (g : Nat) (hg : g = w.heap.size) (z : Array Value) (hz : z.size = 35) (x : Nm) (e : TypeId) : (stS 312 ⟨g,0,none⟩ (.agg (nmC x))).run Tryz.prog (w.alloc (.cells z e)) = .ok () (w.alloc (.cells (nmC x) e)) :=
  hg ▸ run_stS_new infoNm w z (nmC x) hz (nmC_size x) (nmC_one x)
theorem fieldsNm : Tryz.prog.underlying 312 = some (.struct (Tryz.prog.fieldsOf 312)):=by kernel_rfl
theorem placesNm (w : World) : ((Tryz.prog.fieldsOf 312).mapM fun (f : Field)=>do pure (f.offset,← sizeOf f.type)).run Tryz.prog w = .ok #[(0,1),(1,34)] w:=by kernel_rfl
@[go_sem ↓] theorem buildNm_rw (parts : Array (Nat × Value)) : Instr.build 312 parts = bdS 312 parts:=rfl
def nmOf (x : Row) : Nm:=⟨x.key,rowS x⟩
theorem einfoNm : ElemInfo Tryz.prog 309 312 35 72 :=
  .of (z:=.agg (nmC nm0)) Tryz.underlying309 (by kernel_rfl) (by kernel_rfl) (by kernel_rfl) (nmC_size _) (by omega)
@[go_sem ↓] theorem bsNm_rw (n : Nat) (parts : Array (Nat × Value)) : Instr.buildSlice 309 n parts = bsS 309 n parts:=rfl
@[go_sem] theorem bsNm_run (w : World) (x : Nm) : (bsS 309 1 #[(0,.agg (nmC x))]).run Tryz.prog w = .ok (.slice (some ⟨w.heap.size,0,none⟩) 1 1) (w.alloc (.cells (nmC x) 312)) :=
  run_bsS1 einfoNm (by omega) w (nmC x) (nmC_size x)
theorem nm_row (x : Row) : nmC (nmOf x) = rowC x:=by
  unfold nmC nmOf rowC rowS settingC;apply Array.ext';simp
set_option maxRecDepth 100000 in
theorem rowC_set0 (k k' v : ByteArray) (n : Int) (d : Id32) : (rowC ⟨k,v,n,d⟩).setIfInBounds 0 (.string k') = rowC ⟨k',v,n,d⟩:=by
  apply Array.ext';simp [rowC]
theorem copy_id_l {w : World} {g : Nat} {k v : ByteArray} {n : Int} (b : List UInt8) (hb : b.length = 32 ∨ b = []) (ty : TypeId) (c : Nat) (h : w.heap[g]? = some (.cells (rowC ⟨k,v,n,id0⟩) 312 (0,0))) :
    ∃ w' m,(Builtin.copy_ #[37,9] ty #[.slice (some ⟨g,3,none⟩) 32 c,.string (mkB b)]).run Tryz.prog w = .ok m w' ∧ w'.heap[g]? = some (.cells (rowC ⟨k,v,n,idOf b⟩) 312 (0,0)) ∧ Keep [g] w w':=by
  rcases hb with hb | hb
  · have hs : (mkB b).size = 32:=by rw [mkB_size,hb]
    have h1:=Go.Lib.run_copy_row_string (P:=Tryz.prog) w 37 9 ty 5 g 3 32 c (mkB b) _ _ Tryz.underlying37 (by kernel_rfl) h (by omega) (by rw [hs];simp);refine ⟨_,_,h1,?_,⟨rfl,rfl,rfl,by simp [World.setRow],fun x _ hx=>setRow_other w g x _ (by simpa using hx)⟩⟩;rw [setRow_heap w g _ _ _ _ h];have e3:=rowC_set3 k v n id0 (idOf b);have e : (idOf b).l = b:=by unfold idOf;rw [dif_pos hb]
    have e2 : (idC (idOf b)).toList = Go.Lib.byteCells (mkB b).data.toList:=by unfold idC;rw [e];rfl
    rw [e2] at e3;have e4 : (Go.Lib.byteCells (mkB b).data.toList).length = 32:=by rw [← e2];simp
    rw [e4] at e3;rw [hs];simp only [Nat.add_zero] at e3;rw [e3]
  · subst hb;have h1:=Go.Lib.run_copy_empty_string (P:=Tryz.prog) w 37 9 ty 5 (some ⟨g,3,none⟩) 32 c (mkB []) Tryz.underlying37 (by kernel_rfl) rfl;exact ⟨_,_,h1,h,Keep.refl _ _⟩
def nmsC (R : List Row) : List (Array Value):=R.map fun x=>nmC (nmOf x)
set_option maxRecDepth 100000 in
set_option maxHeartbeats 4000000 in
theorem lread (w : World) (g : Nat) (l : List UInt8) (hr0 : RdAt w g l 0) :
    Calls Tryz.prog 229 #[.pointer (some ⟨g,0,none⟩)] w fun e w'=>∃ A cap,e = .returned (.slice A (readRds l).rows.length cap) ∧ Own w' w.heap.size 312 35 A (readRds l).rows.length cap (nmsC (readRds l).rows) ∧ RdAt w' g (readRds l).l (readRds l).e ∧ Keep [g] w w' ∧ FitsL (readRds l).rows:=by
  have c0:=rd_num4 _ _ l 0 hr0;have hN:=numV_lt 4 l 0;obtain ⟨N,hNe⟩ : ∃ N,numV 4 l 0 = N:=⟨_,rfl⟩
  have hrd : Hid (readRds l = loopRds N ⟨[],rawL 4 l 0,rawE 4 l 0⟩):=by show _ = _;rw [← hNe];rfl
  rw [hNe] at c0 hN;clear hNe;have hgl:=hr0.lt;go_enter Tryz.func229,Tryz.ntmps229
  (go_wp2_with fail);refine c0.mono ?_;rintro e w1 ⟨rfl,hr1,hk1⟩;have Hk1:=Lib.hid hk1;have hs01:=hk1.size;clear c0 hr0 hk1;(go_wp2_with fail);go_loopw [3,5] (fun out i wr=>∃ (k : Nat) (R : List Row) (l1 : List UInt8) (e1 : Int) (A1 : Option Addr) (cap1 : Nat),k ≤ N ∧ i = .int .i64 k ∧ out = .slice A1 R.length cap1 ∧ R.length = k ∧ Own wr w1.heap.size 312 35 A1 R.length cap1 (nmsC R) ∧ RdAt wr g l1 e1 ∧ Hid (loopRds N ⟨[],rawL 4 l 0,rawE 4 l 0⟩ = loopRds (N - k) ⟨R,l1,e1⟩) ∧ Hid (FitsL R) ∧ Keep [g] w1 wr) (fun _ i _=>N - (intOf i).toNat)
  case atStart=>exact ⟨0,[],_,_,none,0,Nat.zero_le _,rfl,rfl,rfl,Own.nil _ _ _ _,hr1,(show _ = _ from rfl),(show FitsL [] by intro x hx;cases hx),Keep.refl _ _⟩
  case round =>
    clear hr1;obtain ⟨k,R,l1,e1,A1,cap1,hkN,rfl,rfl,hRk,hown,hr,hlp,hft,hk⟩:=hrel;have HRk:=Lib.hid hRk;have hRN : R.length ≤ N:=by omega
    clear hRk;have hsz:=hk.size;by_cases hgo : k < N ∧ e1 = 0
    · obtain ⟨hlt,rfl⟩:=hgo;have hlp2:=hlp.out;rw [show N - k = (N - (k + 1)) + 1 by omega,loopRds_step _ _ rfl] at hlp2;have Hlp:=Lib.hid hlp2;have hft2:=fits_step_l hft.out l1 0;have Hft:=Lib.hid hft2;clear hlp hlp2 hft hft2;have hgw:=hr.lt;have hgS : g ∉ blk A1:=fun hx=>(by have:=(hown.at_base hx).1;omega);have h8:=heap_alloc_new wr (.cells (rowC row0) 312);have hr3:=hr.kept (Keep.alloc wr (.cells (rowC row0) 312)) (by simp);have hk3 : Keep [] wr (wr.alloc (.cells (rowC row0) 312)):=Keep.alloc _ _;have hnm0 : nmC nm0 = rowC row0:=nm_row row0;(go_wp2_with fail);refine (rd_err _ g l1 0 hr).mono ?_;rintro e w5 ⟨rfl,rfl⟩;go_upto_region 7 with fail
      obtain ⟨g8,hg8⟩ : ∃ g8,wr.heap.size = g8:=⟨_,rfl⟩
      rw [hg8] at h8 ⊢;have hgg : g < g8:=by omega
      have Hg8:=Lib.hid hg8;clear hg8 hr hnm0;generalize wr.alloc (.cells (rowC row0) 312) = W at *;have hg8l : g8 < W.heap.size:=(Array.getElem?_eq_some_iff.1 h8).1;have hne8 : g8 ∉ [g]:=by simp;omega
      have hng : g ∉ [g8]:=by simp;omega
      (go_wp2_with fail);refine (rd_num1 _ g l1 0 hr3).mono ?_;rintro e w2 ⟨rfl,hr2,hk2⟩;have hn2:=numV_lt 1 l1 0;(go_wp2_with fail);refine (rd_raw _ g _ _ _ hr2 (by omega)).mono ?_;rintro e w3 ⟨rfl,hr3',hk3'⟩;have hE2 : RdAt w3 g (txL l1 0) (txE l1 0):=hr3';have hk23 : Keep [g] W w3:=Keep.trans hk2 hk3' (fun x hx=>.inl hx);have h83:=(hk23.block g8 hg8l hne8).trans h8;obtain ⟨kv,hkv⟩ : ∃ kv,mkB (rawV (numV 1 l1 0) (rawL 1 l1 0) (rawE 1 l1 0)) = kv:=⟨_,rfl⟩
      have Hkv:=Lib.hid (show txV l1 0 = kv from hkv);rw [hkv];obtain ⟨l2,hl2⟩ : ∃ l2,txL l1 0 = l2:=⟨_,rfl⟩
      obtain ⟨e2,he2⟩ : ∃ e2,txE l1 0 = e2:=⟨_,rfl⟩
      rw [hl2,he2] at hE2;have Hl2:=Lib.hid hl2;have He2:=Lib.hid he2;have x0 : w3.cell? ⟨g8,0,none⟩ = some (.string ⟨#[]⟩):=by rw [cell_of_row w3 g8 _ _ _ _ h83];simp [rowC,row0]
      have f0 : w3.frozen? ⟨g8,0,none⟩ = false:=by simp [World.frozen?,h83]
      have h84:=heap_setCell_same h83 0 (.string kv);rw [show row0 = ⟨⟨#[]⟩,⟨#[]⟩,0,id0⟩ from rfl,rowC_set0] at h84;have hks:=Keep.setCell w3 ⟨g8,0,none⟩ (.string kv);have hE4:=hE2.kept hks hng;have hk14 : Keep [g,g8] W (w3.setCell ⟨g8,0,none⟩ (.string kv)):=Keep.trans (hk23.mono (S':=[g,g8]) (by simp)) (hks.mono (S':=[g,g8]) (by simp)) (fun x hx=>.inl hx);clear hr2 hr3 hr3' hk2 hk3' hkv hl2 he2 hE2 hn2 h83 hks hk23 h8;go_upto_region 8 with fail
      generalize w3.setCell ⟨g8,0,none⟩ (.string kv) = W4 at *;clear x0 f0;have hg84 : g8 < W4.heap.size:=(Array.getElem?_eq_some_iff.1 h84).1;(go_wp2_with fail);refine (rd_num1 _ g l2 e2 hE4).mono ?_;rintro e w5 ⟨rfl,hr5,hk5⟩;have hn5:=numV_lt 1 l2 e2;(go_wp2_with fail);refine (rd_raw _ g _ _ _ hr5 (by omega)).mono ?_;rintro e w6 ⟨rfl,hr6,hk6⟩;have hE6 : RdAt w6 g (txL l2 e2) (txE l2 e2):=hr6;have hk56 : Keep [g] W4 w6:=Keep.trans hk5 hk6 (fun x hx=>.inl hx);have h86:=(hk56.block g8 hg84 hne8).trans h84;obtain ⟨vv,hvv⟩ : ∃ vv,mkB (rawV (numV 1 l2 e2) (rawL 1 l2 e2) (rawE 1 l2 e2)) = vv:=⟨_,rfl⟩
      have Hvv:=Lib.hid (show txV l2 e2 = vv from hvv);rw [hvv];obtain ⟨l3,hl3⟩ : ∃ l3,txL l2 e2 = l3:=⟨_,rfl⟩
      obtain ⟨e3,he3⟩ : ∃ e3,txE l2 e2 = e3:=⟨_,rfl⟩
      rw [hl3,he3] at hE6;have Hl3:=Lib.hid hl3;have He3:=Lib.hid he3;have x1 : w6.cell? ⟨g8,1,none⟩ = some (.string ⟨#[]⟩):=by rw [cell_of_row w6 g8 _ _ _ _ h86];simp [go_sem]
      have f1 : w6.frozen? ⟨g8,1,none⟩ = false:=by simp [World.frozen?,h86]
      have h87:=heap_setCell_same h86 1 (.string vv);rw [rowC_set1] at h87;have hks:=Keep.setCell w6 ⟨g8,1,none⟩ (.string vv);have hE7:=hE6.kept hks hng;have hk17 : Keep [g,g8] W (w6.setCell ⟨g8,1,none⟩ (.string vv)):=Keep.trans (Keep.trans hk14 (hk56.mono (S':=[g,g8]) (by simp)) (fun x hx=>.inl hx)) (hks.mono (S':=[g,g8]) (by simp)) (fun x hx=>.inl hx);clear hr5 hr6 hk5 hk6 hvv hl3 he3 hE6 hE4 hn5 hk56 h86 h84 hks hk14;go_upto_region 9 with fail
      generalize w6.setCell ⟨g8,1,none⟩ (.string vv) = W7 at *;clear x1 f1;have hg87 : g8 < W7.heap.size:=(Array.getElem?_eq_some_iff.1 h87).1;(go_wp2_with fail);refine (rd_num4 _ g l3 e3 hE7).mono ?_;rintro e w8 ⟨rfl,hE8,hk8⟩;have h88:=(hk8.block g8 hg87 hne8).trans h87;have x2 : w8.cell? ⟨g8,2,none⟩ = some (.int .i64 0):=by rw [cell_of_row w8 g8 _ _ _ _ h88];simp [go_sem]
      have f2 : w8.frozen? ⟨g8,2,none⟩ = false:=by simp [World.frozen?,h88]
      obtain ⟨nv,hnv⟩ : ∃ nv,numV 4 l3 e3 = nv:=⟨_,rfl⟩
      have Hnv:=Lib.hid hnv;rw [hnv];have h89:=heap_setCell_same h88 2 (.int .i64 nv);rw [rowC_set2] at h89;have hks:=Keep.setCell w8 ⟨g8,2,none⟩ (.int .i64 nv);have hE9:=hE8.kept hks hng;have hk19 : Keep [g,g8] W (w8.setCell ⟨g8,2,none⟩ (.int .i64 nv)):=Keep.trans (Keep.trans hk17 (hk8.mono (S':=[g,g8]) (by simp)) (fun x hx=>.inl hx)) (hks.mono (S':=[g,g8]) (by simp)) (fun x hx=>.inl hx);clear hE8 hk8 hnv hks hk17 h88 h87 hE7;go_upto_region 10 with fail
      generalize w8.setCell ⟨g8,2,none⟩ (.int .i64 nv) = W9 at *;clear x2 f2;have hg89 : g8 < W9.heap.size:=(Array.getElem?_eq_some_iff.1 h89).1;have c10:=rd_raw32 W9.drew g _ _ (hE9.kept (Keep.drew W9) (by simp));refine wp_region_lex (Kp [g,g8] W9) false (by kernel_rfl) (by kernel_rfl) (by kernel_rfl) (kp_drew [g,g8] W9) ?_;have hne:=kp_some [g,g8] W9;have hS:=kp_drew [g,g8] W9;repeat (refine wpLx_loose ?_ ?_;(focus (simp only [chainOp];done));intro K hK;go_simp;refine hK _ ?_;clear hK K)
      refine wpLx_chain ?_ ?_ ?_;(focus (exact hS));(focus (simp only [chainOp];done));intro K hK;go_simp;refine c10.mono ?_;rintro e w10 ⟨rfl,hE10,hk10⟩;replace hS:=kp_next hS hk10 (by simp);have h810 : w10.heap[g8]? = _:=(hk10.block g8 hg89 hne8).trans h89;refine ⟨_,rfl,hS,hK _ _ ?_⟩;clear hK K c10;obtain ⟨w11,m11,hcp,h811,hk11⟩:=copy_id_l (rawV 32 (rawL 4 l3 e3) (rawE 4 l3 e3)) (rawV_32 _ _) 3 32 h810;refine wpLx_chain ?_ ?_ ?_;(focus (exact hS));(focus (simp only [chainOp];done));intro K hK;go_simp;refine step_keep (kp_next hS hk11 (by simp)) (fun hS2=>?_);refine hK _ _ ?_;clear hK K;refine wpLx_nil ?_;intro hS;have hk911 : Keep [g,g8] W9 w11:=hS2;have hE11:=hE10.kept hk11 hng;have hg8w:=Hg8.out;have hk011 : Keep [g,g8] wr w11:=Keep.trans (hk3.mono (S':=[g,g8]) (by simp)) (Keep.trans hk19 hk911 (fun x hx=>.inl hx)) (fun x hx=>.inl hx);have hA1 : ∀ x ∈ blk A1,x ∉ [g,g8]:=fun x hx=>(by have:=hown.at_base hx;simp;omega);have hown11:=hown.kept hk011 hA1;have hk111 : Keep [g] wr w11:=hk011.mono (by intro x hx;simp at hx;rcases hx with rfl | rfl <;> simp;omega);have hx : oneRow l1 0 = ⟨kv,vv,(nv : Int),idOf (rawV 32 (rawL 4 l3 e3) (rawE 4 l3 e3))⟩:=by unfold oneRow;rw [Hkv.out,Hl2.out,He2.out,Hvv.out,Hl3.out,He3.out,Hnv.out]
      have hL : oneL_l l1 0 = rawL 32 (rawL 4 l3 e3) (rawE 4 l3 e3):=by unfold oneL_l;rw [Hl2.out,He2.out,Hl3.out,He3.out]
      have hEe : oneE_l l1 0 = rawE 32 (rawL 4 l3 e3) (rawE 4 l3 e3):=by unfold oneE_l;rw [Hl2.out,He2.out,Hl3.out,He3.out]
      rw [← hL,← hEe] at hE11;rw [← hx] at h811;obtain ⟨xx,hxx⟩ : ∃ xx,oneRow l1 0 = xx:=⟨_,rfl⟩
      rw [hxx] at h811 Hft;have Hxx:=Lib.hid hxx;rw [← nm_row] at h811;clear hxx hx hL hEe hown hA1 hne hS hS2 hcp hE10 hk10 hk11 hk911;have hrow11 : rowAt w11 g8 0 35 = some (nmC (nmOf xx)):=by unfold rowAt;rw [h811];simp [go_sem]
      have hbx : Below w11.heap.size w11 (w11.alloc (.cells (nmC (nmOf xx)) 312)):=(Below.refl _ _).alloc (Nat.le_refl _) _;have hown12:=hown11.below hbx;have hrow12 : rowAt (w11.alloc (.cells (nmC (nmOf xx)) 312)) w11.heap.size 0 35 = some (nmC (nmOf xx)):=by simp [go_sem]
      have hsz11 : w1.heap.size ≤ w11.heap.size:=by have:=hk011.size;omega
      clear hown11 h811 hk011 hk19 hk3;go_wp2_with (at_builtin;refine L_append einfoNm rfl hown12 rfl hrow12 (nmC_one _) (by omega) (by omega) (by simp;omega) ?_;intro A13 cap13 w13 hown13 hk13' hsub13)
      have hk0 : Keep (blk A1) w11 w13:=Keep.trans ((Keep.of_below hbx).mono (S':=blk A1) (by simp)) hk13' (fun x hx=>.inl hx);have hE13:=hE11.kept hk0 hgS;have hkf : Keep [g] w1 w13:=Keep.trans (Keep.trans hk hk111 (fun x hx=>.inl hx)) hk0 (fun x hx=>.inr (by have:=(hown12.at_base hx).1;omega));rw [show nmsC R ++ [nmC (nmOf xx)] = nmsC (R ++ [xx]) by simp [nmsC]] at hown13;have hlen13 : (R ++ [xx]).length = R.length + 1:=by simp
      have Hlen13:=Lib.hid hlen13;clear hlen13 hk0 hk13' hsub13 hown12 hrow12 hbx hrow11 hE11;(go_wp2_with fail);go_roundw
      case rel=>exact ⟨k + 1,R ++ [xx],_,_,A13,cap13,by omega,by go_num,(by rw [Hlen13.out]),(by rw [Hlen13.out,HRk.out]),(by rw [Hlen13.out];exact hown13),hE13,(show _ = _ by rw [Hlp.out];unfold stepRds;rw [Hxx.out]),Hft,hkf⟩
      case measure=>simp [intOf];omega
    · have hfin : readRds l = ⟨R,l1,e1⟩:=by
        rw [hrd.out,hlp.out];by_cases he : e1 = 0
        · rw [show N - k = 0 by omega];rfl
        · exact loopRds_stop _ _ he
      have Hfin:=Lib.hid hfin;clear hfin hlp hrd;by_cases hlt : k < N
      · have he : e1 ≠ 0:=by omega
        have heb : (e1 == 0) = false:=by simpa using he
        clear hgo he;(go_wp2_with fail);refine (rd_err _ g l1 e1 hr).mono ?_;rintro e w5 ⟨rfl,rfl⟩;(go_wp2_with fail);go_ret;rw [Hfin.out];exact ⟨A1,cap1,rfl,hown.mono hs01,hr,Keep.trans Hk1.out hk (fun x hx=>.inl hx),hft.out⟩
      · clear hgo;(go_wp2_with fail);go_ret;rw [Hfin.out];exact ⟨A1,cap1,rfl,hown.mono hs01,hr,Keep.trans Hk1.out hk (fun x hx=>.inl hx),hft.out⟩
end
section
open Go.RowKit
theorem first_ok : ∀ (R : List Row),firstE R = 0 ↔ ∀ p ∈ R.map rowL,checkE p.1 p.2 = 0
  | []=>by simp [firstE]
  | x :: R=>by
    unfold firstE;have ih:=first_ok R;constructor
    · intro h;split at h
      · rename_i hx
        intro p hp;rcases List.mem_cons.1 hp with e | hp
        · rw [e];exact hx
        · exact ih.1 h p hp
      · exact absurd h (by assumption)
    · intro h;rw [if_pos (show checkE x.key (rowS x) = 0 from h (rowL x) (by simp))];exact ih.2 fun p hp=>h p (by simp only [List.map_cons,List.mem_cons];exact .inr hp)
theorem risingB_ok : ∀ (R : List Row),risingB R = true ↔ Rising (R.map rowL)
  | []=>by simp [risingB,Rising]
  | [x]=>by simp [risingB,Rising]
  | x :: y :: R=>by
    have ih:=risingB_ok (y :: R);unfold risingB;rw [Bool.and_eq_true,ih,bltS_cmp,decide_eq_true_eq];constructor
    · rintro ⟨h1,h2⟩;refine ⟨fun z hz=>?_,h2⟩;rcases List.mem_cons.1 hz with e | hz
      · rw [e];exact h1
      · exact cmpS_trans _ _ _ h1 (h2.1 z hz)
    · rintro ⟨h1,h2⟩;exact ⟨h1 (rowL y) (by simp),h2⟩
theorem one_put_l {x : Row} (h : checkE x.key (rowS x) = 0) (t : List UInt8) : oneRow (rowLB (rowL x) ++ t) 0 = x ∧ oneL_l (rowLB (rowL x) ++ t) 0 = t ∧ oneE_l (rowLB (rowL x) ++ t) 0 = 0:=by
  have hb:=checkE_bd h;obtain ⟨k,v,n,d⟩:=x;simp only [rowS] at hb;have e0 : rowLB (rowL ⟨k,v,n,d⟩) ++ t = beL 1 k.size ++ (k.data.toList ++ (beL 1 v.size ++ (v.data.toList ++ (beL 4 n.toNat ++ (d.l ++ t))))):=by
    simp [rowLB,rowL,rowS]
  rw [e0];obtain ⟨a1,a2,a3⟩:=tx_put (s:=k) (by omega) (beL 1 v.size ++ (v.data.toList ++ (beL 4 n.toNat ++ (d.l ++ t))));obtain ⟨b1,b2,b3⟩:=tx_put (s:=v) (by omega) (beL 4 n.toNat ++ (d.l ++ t));obtain ⟨c1,c2,c3⟩:=num_put (M:=4) (n:=n.toNat) (by omega) (d.l ++ t);have hd:=raw_put d.l t;rw [d.h] at hd;obtain ⟨d1,d2,d3⟩:=hd;unfold oneRow oneL_l oneE_l;rw [a1,a2,a3,b1,b2,b3,c1,c2,c3,d1,d2,d3];refine ⟨?_,rfl,rfl⟩;have e1 : idOf d.l = d:=by unfold idOf;rw [dif_pos d.h]
  rw [e1];have e2 : ((n.toNat : Nat) : Int) = n:=by omega
  rw [e2]
theorem loop_put_l : ∀ (X R : List Row) (t : List UInt8),(∀ p ∈ X.map rowL,checkE p.1 p.2 = 0) → loopRds X.length ⟨R,(X.map rowL).flatMap rowLB ++ t,0⟩ = ⟨R ++ X,t,0⟩
  | [],R,t,_=>by simp [loopRds]
  | x :: X,R,t,h=>by
    rw [List.length_cons,loopRds_step _ _ rfl];obtain ⟨h1,h2,h3⟩:=one_put_l (x:=x) (h (rowL x) (by simp)) ((X.map rowL).flatMap rowLB ++ t);have e : stepRds ⟨R,((x :: X).map rowL).flatMap rowLB ++ t,0⟩ = ⟨R ++ [x],(X.map rowL).flatMap rowLB ++ t,0⟩:=by
      unfold stepRds;simp only [List.map_cons,List.flatMap_cons,List.append_assoc];rw [h1,h2,h3]
    rw [e,loop_put_l X (R ++ [x]) t (fun p hp=>h p (by simp only [List.map_cons,List.mem_cons];exact .inr hp))]
    simp
theorem read_put_l {X : List Row} (h : ∀ p ∈ X.map rowL,checkE p.1 p.2 = 0) (hn : X.length < 4294967296) : readRds (putLB (X.map rowL)) = ⟨X,[],0⟩:=by
  unfold readRds putLB;rw [List.length_map];obtain ⟨h1,h2,h3⟩:=num_put (M:=4) (n:=X.length) (by omega) ((X.map rowL).flatMap rowLB);rw [h1,h2,h3];have:=loop_put_l X [] [] h;simpa using this
theorem rows_of (L : List LRow) : ∃ X : List Row,X.map rowL = L:=⟨L.map fun p=>⟨p.1,p.2.val,p.2.n,p.2.id⟩,by
  rw [List.map_map];conv=>rhs;rw [← List.map_id L]
  exact List.map_congr_left fun p _=>rfl⟩
theorem put_load_l {X : List Row} (h : RowsOk (X.map rowL)) (hn : X.length < 4294967296) : loadE (putLB (X.map rowL)) = 0 ∧ (readRds (putLB (X.map rowL))).rows = X:=by
  have h1:=read_put_l h.2 hn;refine ⟨?_,by rw [h1]⟩;unfold loadE;rw [h1];simp only [ne_eq,not_true_eq_false,if_false,if_true];rw [if_neg (by rw [(first_ok X).2 h.2];simp),if_neg (by rw [(risingB_ok X).2 h.1];simp)]
end
section
open Go.RowKit
def addL (l : List LRow) (x : Row) : List LRow:=setL l x.key (rowS x)
def allL (R : List Row) : List LRow:=R.foldl addL []
end
section
open Go.RowKit
def LoadRes (w : World) (l : List UInt8) (e : Ending) (w' : World) : Prop :=
  ((loadE l ≠ 0 ∧ e = .returned (.tuple #[.pointer none,.int .i64 (loadE l)])) ∨
   (loadE l = 0 ∧ ∃ g b,e = .returned (.tuple #[.pointer (some ⟨g,0,none⟩),.int .i64 0]) ∧ LastAt w' g b ((readRds l).rows.map rowL) ∧ w.heap.size ≤ g ∧ w.heap.size ≤ b)) ∧ Below w.heap.size w w'
theorem LoadRes.bad {w w' : World} {l : List UInt8} {E : Int} (h : loadE l = E) (hE : E ≠ 0) (hb : Below w.heap.size w w') : LoadRes w l (.returned (.tuple #[.pointer none,.int .i64 E])) w' :=
  ⟨.inl ⟨by rw [h];exact hE,by rw [h]⟩,hb⟩
theorem NmsIn.get {w : World} {A : Option Addr} {n : Nat} {R : List Row} (h : SlR w A n 35 (nmsC R)) {i : Nat} (hi : i < n) (hR : i < R.length) :
    ∃ g o,A = some ⟨g,o,none⟩ ∧ rowAt w g (o + i * 35) 35 = some (nmC ⟨(R[i]).key,rowS R[i]⟩) ∧ w.cell? ⟨g,o + i * 35,none⟩ = some (.string (R[i]).key):=by
  obtain ⟨g,o,e,hr⟩:=h.at_ hi;have e2 : (nmsC R)[i]'(by rw [h.1];exact hi) = nmC ⟨(R[i]).key,rowS R[i]⟩:=by unfold nmsC;rw [List.getElem_map];rfl
  rw [e2] at hr;refine ⟨g,o,e,hr,?_⟩;have:=rowAt_cell hr (j:=0) (by omega)
  rwa [nmC_g0] at this
theorem rising_at : ∀ {R : List Row},risingB R = true → ∀ {j : Nat} (hj : j + 1 < R.length),bltS (R[j]).key (R[j + 1]).key = true
  | x :: y :: R,h,0,_=>by unfold risingB at h;rw [Bool.and_eq_true] at h;exact h.1
  | x :: y :: R,h,j + 1,hj=>by
    unfold risingB at h;rw [Bool.and_eq_true] at h;have:=rising_at h.2 (j:=j) (by simpa using hj);simpa using this
  | [],_,_,hj=>by simp at hj
  | [x],_,_,hj=>by simp at hj
theorem getL_less : ∀ {X : List LRow} {k : ByteArray},(∀ q ∈ X,cmpS q.1 k < 0) → getL X k = none
  | [],_,_=>rfl
  | a :: X,k,h=>by
    have ha:=h a (by simp);rw [getL_cons,if_neg (fun e=>by rw [e] at ha;exact cmpS_irr ha)];exact getL_less fun q hq=>h q (by simp [hq])
theorem insL_end : ∀ {X : List LRow} {k : ByteArray} {x : Setting},(∀ q ∈ X,cmpS q.1 k < 0) → insL X k x = X ++ [(k,x)]
  | [],_,_,_=>rfl
  | a :: X,k,x,h=>by
    unfold insL;rw [if_pos (h a (by simp)),insL_end fun q hq=>h q (by simp [hq])];rfl
theorem rising_all : ∀ {X : List LRow} {k : ByteArray},Rising X → (∀ q,X.getLast? = some q → cmpS q.1 k < 0) → ∀ q ∈ X,cmpS q.1 k < 0
  | [],_,_,_=>by simp
  | [a],k,_,h=>by intro q hq;simp at hq;subst hq;exact h q rfl
  | a :: b :: X,k,hr,h=>by
    have ih:=rising_all (k:=k) hr.2 (fun q hq=>h q (by rw [List.getLast?_cons_cons];exact hq));intro q hq;rcases List.mem_cons.1 hq with e | hq
    · rw [e];exact cmpS_trans _ _ _ (hr.1 b (by simp)) (ih b (by simp))
    · exact ih q hq
theorem take_last {R : List Row} {j : Nat} (hj : j + 1 ≤ R.length) : ((R.take (j + 1)).map rowL).getLast? = some (rowL (R[j]'(by omega))):=by
  rw [List.take_add_one,List.getElem?_eq_getElem (by omega),List.map_append,List.getLast?_append]
  simp
theorem take_more {R : List Row} {j : Nat} (hj : j < R.length) : (R.take (j + 1)).map rowL = (R.take j).map rowL ++ [(R[j].key,rowS R[j])]:=by
  rw [List.take_add_one,List.getElem?_eq_getElem hj,List.map_append];rfl
theorem loop_length : ∀ (k : Nat) (s : Rds),(loopRds k s).rows.length ≤ s.rows.length + k
  | 0,s=>by simp [loopRds]
  | k + 1,s=>by
    by_cases he : s.e = 0
    · rw [loopRds_step k s he];have:=loop_length k (stepRds s);simp only [stepRds,List.length_append,List.length_singleton] at this ⊢;omega
    · rw [loopRds_stop _ _ he];omega
theorem read_length (l : List UInt8) : (readRds l).rows.length ≤ 4294967296:=by
  have:=loop_length (numV 4 l 0) ⟨[],rawL 4 l 0,rawE 4 l 0⟩;have:=numV_lt 4 l 0;simp only [List.length_nil] at *;unfold readRds;omega
set_option maxRecDepth 100000 in
set_option maxHeartbeats 4000000 in
theorem lload (w : World) (s : ByteArray) (hs : s.size ≤ 9223372036854775807) : Calls Tryz.prog 172 #[.string s] w (LoadRes w s.data.toList):=by
  obtain ⟨l,hl⟩ : ∃ l,s.data.toList = l:=⟨_,rfl⟩
  have hRl:=read_length l;rw [hl];have Hl:=Lib.hid hl;clear hl;go_enter Tryz.func172,Tryz.ntmps172
  (go_wp2_with fail);refine (rd_open s _ hs).mono ?_;rintro e w1 ⟨rfl,hr1,hb1⟩;rw [Hl.out] at hr1;clear Hl;obtain ⟨g0,hg0⟩ : ∃ g0,w.heap.size = g0:=⟨_,rfl⟩
  have hg0w : w.heap.size ≤ g0:=by omega
  rw [hg0] at hr1;have hg01 : g0 < w1.heap.size:=hr1.lt;have Hg0:=Lib.hid hg0;(go_wp2_with fail);clear hg0;refine (lread _ g0 l hr1).mono ?_;rintro e w2 ⟨A,cap,rfl,hown,hr2,hk2,hft⟩;have hb2 : Below w.heap.size w w2:=hb1.trans (hk2.below hb1.size (by simp;omega));have hld : loadE l = if (readRds l).e ≠ 0 then (readRds l).e else if firstE (readRds l).rows ≠ 0 then firstE (readRds l).rows else if risingB (readRds l).rows = false then 4 else if (readRds l).l = [] then 0 else 4:=rfl;obtain ⟨R,hR⟩ : ∃ R,(readRds l).rows = R:=⟨_,rfl⟩
  obtain ⟨l1,hl1⟩ : ∃ l1,(readRds l).l = l1:=⟨_,rfl⟩
  obtain ⟨e1,he1⟩ : ∃ e1,(readRds l).e = e1:=⟨_,rfl⟩
  rw [hR,hl1,he1] at hld;rw [hR] at hown hft hRl ⊢;rw [hl1,he1] at hr2;have HR:=Lib.hid hR;have Hld:=Lib.hid hld;have Hft:=Lib.hid hft;have hs2 : SlR w2 A R.length 35 (nmsC R):=hown.slr;have hA2 : ∀ x ∈ blk A,x < w2.heap.size:=fun x hx=>(hown.at_base hx).2;clear hR hl1 he1 hld hown hft hb1 hr1 hk2;cases he : (e1 == 0) with
  | false =>
    have he' : e1 ≠ 0:=by simpa using he
    have hen : (e1 != 0) = true:=by simpa using he'
    have hE : loadE l = e1:=by rw [Hld.out,if_pos he']
    have HE:=Lib.hid hE;have He:=Lib.hid he';clear hE he';(go_wp2_with fail);refine (rd_err _ g0 l1 e1 hr2).mono ?_;rintro e w3 ⟨rfl,rfl⟩;(go_wp2_with fail);refine (rd_err _ g0 l1 e1 hr2).mono ?_;rintro e w3 ⟨rfl,rfl⟩;(go_wp2_with fail);go_ret2;exact LoadRes.bad HE.out He.out hb2
  | true =>
    obtain rfl : e1 = 0:=by simpa using he
    have hld:=Hld.out;rw [if_neg (by simp)] at hld;have Hld:=Lib.hid hld;clear hld he;(go_wp2_with fail);refine (rd_err _ g0 l1 0 hr2).mono ?_;rintro e w3 ⟨rfl,rfl⟩;(go_wp2_with fail);obtain ⟨wo,rfl⟩ : ∃ wo : World,wo = w2:=⟨_,rfl⟩
    go_loopw [23] (fun i wq=>∃ j : Nat,j ≤ R.length ∧ i = .int .i64 j ∧ Hid (firstE R = firstE (R.drop j)) ∧ Below wo.heap.size wo wq) (fun i _=>R.length - (intOf i).toNat)
    case atStart=>exact ⟨0,Nat.zero_le _,rfl,(show _ = _ from rfl),Below.refl _ _⟩
    case round =>
      obtain ⟨j,hj,rfl,hfe,hbq⟩:=hrel;by_cases hlt : j < R.length
      · obtain ⟨q,o,rfl,hrow,_⟩:=NmsIn.get (SlR.below hs2 hbq) hlt hlt;have hdr : R.drop j = R[j] :: R.drop (j + 1):=List.drop_eq_getElem_cons hlt;have hfit:=Hft.out _ (List.getElem_mem hlt);obtain ⟨x,hx⟩ : ∃ x,R[j]'hlt = x:=⟨_,rfl⟩
        rw [hx] at hrow hdr hfit;have hfe2:=hfe.out;rw [hdr] at hfe2;have hfe3 : firstE R = if checkE x.key (rowS x) = 0 then firstE (R.drop (j + 1)) else checkE x.key (rowS x):=hfe2;have Hfe:=Lib.hid hfe3;have hfv : (rowS x).val.size ≤ 9223372036854775807:=by have:=hfit.2;show x.val.size ≤ _;omega
        clear hfe hfe2 hfe3 hdr hx;(go_wp2_with fail);refine (lcheck_any x.key (rowS x) _ (by omega) hfv).mono ?_;rintro e w4 ⟨rfl,hb4⟩;have hbq4:=bel2 (hbq.alloc hbq.size (.cells (nmC ⟨x.key,rowS x⟩) 312)) hb4;clear hb4 hrow hbq;obtain ⟨E,hE⟩ : ∃ E,checkE x.key (rowS x) = E:=⟨_,rfl⟩
        rw [hE] at Hfe ⊢;clear hE;cases hE0 : (E == 0) with
        | true =>
          obtain rfl : E = 0:=by simpa using hE0
          have hfe4:=Hfe.out;rw [if_pos rfl] at hfe4;have Hfe4:=Lib.hid hfe4;clear hfe4;(go_wp2_with fail);go_roundw
          case rel=>exact ⟨j + 1,by omega,by go_num,Hfe4,hbq4⟩
          case measure=>simp [intOf];omega
        | false =>
          have hEn : E ≠ 0:=by simpa using hE0
          have hEb : (E != 0) = true:=by simpa using hE0
          have hfe4:=Hfe.out;rw [if_neg hEn] at hfe4;have hld2:=Hld.out;rw [hfe4,if_pos hEn] at hld2;have Hld2:=Lib.hid hld2;have HEn:=Lib.hid hEn;clear hfe4 hld2 hEn;(go_wp2_with fail);go_ret2;exact LoadRes.bad Hld2.out HEn.out (bel2 hb2 hbq4)
      · have hfe0 : firstE R = 0:=by rw [hfe.out,List.drop_eq_nil_of_le (by omega)];rfl
        have hld2:=Hld.out;rw [if_neg (by rw [hfe0];simp)] at hld2;have Hld2:=Lib.hid hld2;have Hfe0:=Lib.hid hfe0;have hs3:=SlR.below hs2 hbq;have hr3:=hr2.below hbq;have hb3:=bel2 hb2 hbq;have hA3 : ∀ x ∈ blk A,x < wr.heap.size:=fun x hx=>(by have:=hA2 x hx;have:=hbq.size;omega);have hg3:=hr3.lt;clear hfe0 hld2 hfe hs2 hr2 hb2 hbq hA2 Hld hg01;have hok1:=(first_ok R).1 Hfe0.out;have Hok:=Lib.hid hok1;clear hok1 Hfe0;(go_wp2_with fail);refine (lnew _).mono ?_;rintro e w4 ⟨gm,bm,rfl,hL4,hgm,hbm,hb4⟩;have hs4:=SlR.below hs3 hb4;have hr4:=hr3.below hb4;have hb4':=bel2 hb3 hb4;have hAb : ∀ x ∈ blk A,x ∉ [bm]:=fun x hx=>(by have:=hA3 x hx;simp;omega);have hgb : g0 ∉ [bm]:=by simp;omega
        have hbw : w.heap.size ≤ bm:=Nat.le_trans hb3.size hbm;have hgw : w.heap.size ≤ gm:=Nat.le_trans hb3.size hgm;clear hs3 hr3 hb3 hA3 hb4 hgm hbm hg3;(go_wp2_with fail);obtain ⟨wp,rfl⟩ : ∃ wp : World,wp = w4:=⟨_,rfl⟩
        go_loopw [39] (fun i wq=>∃ j : Nat,j ≤ R.length ∧ i = .int .i64 j ∧ LastAt wq gm bm ((R.take j).map rowL) ∧ Keep [bm] wp wq) (fun i _=>R.length - (intOf i).toNat)
        case atStart=>exact ⟨0,Nat.zero_le _,rfl,hL4,Keep.refl _ _⟩
        case round =>
          clear hL4;obtain ⟨j,hj,rfl,hL,hk⟩:=hrel;have hbk : Below w.heap.size w wr:=hb4'.trans (hk.below hb4'.size (by simp;omega));by_cases hlt : j < R.length
          · obtain ⟨q,o,rfl,hrow,_⟩:=NmsIn.get (hs4.kept hk hAb) hlt hlt;have hcx : checkE (R[j]'hlt).key (rowS (R[j]'hlt)) = 0:=Hok.out (rowL R[j]) (List.mem_map_of_mem (List.getElem_mem hlt));have htm:=take_more hlt;have hless0 : ∀ m (hm : m + 1 = j),cmpS (R[m]'(by omega)).key (R[j]'hlt).key < 0 → ∀ q ∈ (R.take j).map rowL,cmpS q.1 (R[j]'hlt).key < 0:=fun m hm h=>rising_all hL.rows.1 (fun q hq=>by
              subst hm;rw [take_last (by omega)] at hq;injection hq with hq
              rw [← hq];exact h)
            have hbad0 : ∀ m (hm : m + 1 = j),bltS (R[m]'(by omega)).key (R[j]'hlt).key = false → loadE l = 4:=fun m hm h=>by
              subst hm;have hri : risingB R = false:=by
                cases hr : risingB R with
                | false=>rfl
                | true=>rw [rising_at hr hlt] at h;cases h
              rw [Hld2.out,if_pos hri]
            have hpre : ∀ m (hm : m + 1 = j),wr.cell? ⟨q,o + m * 35,none⟩ = some (.string (R[m]'(by omega)).key):=fun m hm=>by
              obtain ⟨q',o',hqe,_,hkey⟩:=NmsIn.get (hs4.kept hk hAb) (show m < R.length by omega) (show m < R.length by omega);injection hqe with hqe
              injection hqe with hq1 hq2
              rw [hq1,hq2];exact hkey
            obtain ⟨x,hx⟩ : ∃ x,R[j]'hlt = x:=⟨_,rfl⟩
            rw [hx] at hrow hcx htm;simp only [hx] at hless0 hbad0;have Hcx:=Lib.hid hcx;have Htm:=Lib.hid htm;have Hless0:=Lib.hid hless0;have Hbad0:=Lib.hid hbad0;have Hpre:=Lib.hid hpre;have hkW : Keep [bm] wr (wr.alloc (.cells (nmC ⟨x.key,rowS x⟩) 312)):=(Keep.alloc _ _).mono (by simp);have hLW:=hL.kept (Keep.alloc wr (.cells (nmC ⟨x.key,rowS x⟩) 312)) (by simp) (by simp);have hbkW : (wr.alloc (.cells (nmC ⟨x.key,rowS x⟩) 312)).cell? ⟨wr.heap.size,0,none⟩ = some (.string x.key):=by simp [go_sem]
            have hsetW : rowAt (wr.alloc (.cells (nmC ⟨x.key,rowS x⟩) 312)) wr.heap.size 1 34 = some (settingC (rowS x)):=by simp [go_sem]
            have hbq1 : bm < wr.heap.size:=hL.lt.2;clear hcx htm hless0 hbad0 hpre hx hL;go_upto_region 16 with fail
            obtain ⟨bq,hbq⟩ : ∃ bq,wr.heap.size = bq:=⟨_,rfl⟩
            rw [hbq] at hbkW hsetW hbq1 ⊢;clear hrow;by_cases hj0 : j = 0
            · subst hj0;have hless : ∀ q ∈ (R.take 0).map rowL,cmpS q.1 x.key < 0:=by simp
              clear hbq;generalize wr.alloc (.cells (nmC ⟨x.key,rowS x⟩) 312) = W at *;refine wp_region_lex (Bel W) false (by kernel_rfl) (by kernel_rfl) (by kernel_rfl) (bel_drew W) ?_;have hne:=bel_some W;have hS:=bel_drew W;have b2:=sub_cell hbkW;repeat (refine wpLx_loose ?_ ?_;(focus (simp only [chainOp];done));intro K hK;go_simp;refine hK _ ?_;clear hK K)
              refine wpLx_nil ?_;intro hS;clear b2 hne hS;have Hless:=Lib.hid hless;clear hless;have hLZ:=hLW.kept (Keep.drew W) (by simp) (by simp);have hkZ : Keep [bm] wr W.drew:=Keep.trans hkW (Keep.drew W) (by simp);have hbkZ : W.drew.cell? ⟨bq,0,none⟩ = some (.string x.key):=hbkW;have hsetZ : rowAt W.drew bq 1 34 = some (settingC (rowS x)):=hsetW;clear hLW hkW hbkW hsetW;generalize W.drew = Z at *;obtain ⟨w2,hrun,hL2,hk2⟩:=(hLZ.kept (Keep.drew Z) (by simp) (by simp)).put Hcx.out (fun was e=>by rw [getL_less Hless.out] at e;cases e);rw [insL_end Hless.out] at hL2;rw [← Htm.out] at hL2;have hcZ:=hLZ.cell;have hgb2 : gm ∉ [bm]:=by simp;exact hLZ.ne
              have hqn : bq ∉ [bm]:=by simp;omega
              go_upto_region 18 with fail
              refine wp_region_lex (Kp [bm] Z) false (by kernel_rfl) (by kernel_rfl) (by kernel_rfl) (kp_drew [bm] Z) ?_;have hne:=kp_some [bm] Z;have hS:=kp_drew [bm] Z;have b1:=ksub_cell hcZ hgb2;have b2:=ksub_cell hbkZ hqn;have b3:=ksub_row hsetZ hqn;repeat (refine wpLx_loose ?_ ?_;(focus (simp only [chainOp];done));intro K hK;go_simp;refine hK _ ?_;clear hK K)
              refine wpLx_chain ?_ ?_ ?_;(focus (exact hS));(focus (simp only [chainOp];done));intro K hK;go_simp;refine step_keep (kp_next hS hk2 (by simp)) (fun hS=>?_);refine hK _ _ ?_;clear hK K;refine wpLx_nil ?_;intro hS;have hkE : Keep [bm] wp w2:=Keep.trans hk (Keep.trans hkZ hS (fun x hx=>.inl hx)) (fun x hx=>.inl hx);clear b1 b2 b3 hne hS hrun hk2 hbkZ hsetZ hcZ hLZ;(go_wp2_with fail);go_roundw
              case rel=>exact ⟨0 + 1,by omega,by go_num,hL2,hkE⟩
              case measure=>simp [intOf];omega
            · obtain ⟨m,hm⟩ : ∃ m,m + 1 = j:=⟨j - 1,by omega⟩
              have hkey1:=Hpre.out m hm;have hlessm:=Hless0.out m hm;have hbadm:=Hbad0.out m hm;obtain ⟨y,hy⟩ : ∃ y,R[m]'(by omega) = y:=⟨_,rfl⟩
              rw [hy] at hkey1;simp only [hy] at hlessm hbadm;have hkeyW : (wr.alloc (.cells (nmC ⟨x.key,rowS x⟩) 312)).cell? ⟨q,o + m * 35,none⟩ = some (.string y.key):=(World.cell?_alloc_lt wr _ _ (World.block_lt_of_cell? wr _ hkey1)).trans hkey1;have w1' : IntKind.i64.wrap ((j : Int) - 1) = (m : Int):=by rw [show (j : Int) - 1 = m by omega];exact IntWalk.i64_in _ (by omega)
              have t1 : decide ((0 : Int) < j) = true:=by simp;omega
              have t2 : (0 : Int) ≤ (m : Int):=by omega
              have t3 : (m : Int) < R.length:=by omega
              have t4 : m < R.length:=by omega
              have t5 : 0 < j:=by omega
              clear hy hkey1 hj0 hm hbq;generalize wr.alloc (.cells (nmC ⟨x.key,rowS x⟩) 312) = W at *;cases hbl : bltS y.key x.key with
              | true =>
                have hbl' : Op.bytesLess y.key.toList x.key.toList = true:=hbl;have hless:=hlessm (by rw [bltS_cmp] at hbl;exact of_decide_eq_true hbl);clear hlessm hbadm hbl;refine wp_region_lex (Bel W) false (by kernel_rfl) (by kernel_rfl) (by kernel_rfl) (bel_drew W) ?_;have hne:=bel_some W;have hS:=bel_drew W;have b1:=sub_cell hkeyW;have b2:=sub_cell hbkW;repeat (refine wpLx_loose ?_ ?_;(focus (simp only [chainOp];done));intro K hK;go_simp;refine hK _ ?_;clear hK K)
                refine wpLx_nil ?_;intro hS;clear b1 b2 hne hS hbl' w1' t1 hkeyW;have Hless:=Lib.hid hless;clear hless;have hLZ:=hLW.kept (Keep.drew W) (by simp) (by simp);have hkZ : Keep [bm] wr W.drew:=Keep.trans hkW (Keep.drew W) (by simp);have hbkZ : W.drew.cell? ⟨bq,0,none⟩ = some (.string x.key):=hbkW;have hsetZ : rowAt W.drew bq 1 34 = some (settingC (rowS x)):=hsetW;clear hLW hkW hbkW hsetW;generalize W.drew = Z at *;obtain ⟨w2,hrun,hL2,hk2⟩:=(hLZ.kept (Keep.drew Z) (by simp) (by simp)).put Hcx.out (fun was e=>by rw [getL_less Hless.out] at e;cases e);rw [insL_end Hless.out] at hL2;rw [← Htm.out] at hL2;have hcZ:=hLZ.cell;have hgb2 : gm ∉ [bm]:=by simp;exact hLZ.ne
                have hqn : bq ∉ [bm]:=by simp;omega
                go_upto_region 18 with fail
                refine wp_region_lex (Kp [bm] Z) false (by kernel_rfl) (by kernel_rfl) (by kernel_rfl) (kp_drew [bm] Z) ?_;have hne:=kp_some [bm] Z;have hS:=kp_drew [bm] Z;have b1:=ksub_cell hcZ hgb2;have b2:=ksub_cell hbkZ hqn;have b3:=ksub_row hsetZ hqn;repeat (refine wpLx_loose ?_ ?_;(focus (simp only [chainOp];done));intro K hK;go_simp;refine hK _ ?_;clear hK K)
                refine wpLx_chain ?_ ?_ ?_;(focus (exact hS));(focus (simp only [chainOp];done));intro K hK;go_simp;refine step_keep (kp_next hS hk2 (by simp)) (fun hS=>?_);refine hK _ _ ?_;clear hK K;refine wpLx_nil ?_;intro hS;have hkE : Keep [bm] wp w2:=Keep.trans hk (Keep.trans hkZ hS (fun x hx=>.inl hx)) (fun x hx=>.inl hx);clear b1 b2 b3 hne hS hrun hk2 hbkZ hsetZ hcZ hLZ;(go_wp2_with fail);go_roundw
                case rel=>exact ⟨j + 1,by omega,by go_num,hL2,hkE⟩
                case measure=>simp [intOf];omega
              | false =>
                have hbl' : Op.bytesLess y.key.toList x.key.toList = false:=hbl;have hbad:=hbadm hbl;have Hbad:=Lib.hid hbad;clear hlessm hbadm hbl hbad;refine wp_region_lex (Bel W) false (by kernel_rfl) (by kernel_rfl) (by kernel_rfl) (bel_drew W) ?_;have hne:=bel_some W;have hS:=bel_drew W;have b1:=sub_cell hkeyW;have b2:=sub_cell hbkW;repeat (refine wpLx_loose ?_ ?_;(focus (simp only [chainOp];done));intro K hK;go_simp;refine hK _ ?_;clear hK K)
                refine wpLx_nil ?_;intro hS;clear b1 b2 hne hbl' w1' t1 hkeyW;(go_wp2_with fail);go_ret2;exact LoadRes.bad Hbad.out (by omega) ((hbk.trans (hkW.below hbk.size (by simp;omega))).trans (hS.mono (by have:=hkW.size;have:=hbk.size;omega)))
          · have htk : R.take j = R:=List.take_of_length_le (by omega);rw [htk] at hL;have hri : risingB R = true:=(risingB_ok R).2 hL.rows.1;have hld3:=Hld2.out;rw [if_neg (by rw [hri];simp)] at hld3;have hr5:=hr4.kept hk hgb;clear htk hri hr4 hk hs4 hb4';by_cases hl0 : l1 = []
            · have he0 : endE l1 0 = 0:=by unfold endE;rw [if_pos rfl,if_pos hl0]
              rw [if_pos hl0] at hld3;have Hld3:=Lib.hid hld3;have He0:=Lib.hid he0;clear hld3 he0 hl0;(go_wp2_with fail);refine (rd_end _ g0 l1 0 hr5).mono ?_;rintro e w5 ⟨rfl,hb5⟩;rw [He0.out];have hL5:=hL.below hb5;(go_wp2_with fail);go_ret2;exact ⟨.inr ⟨Hld3.out,gm,bm,rfl,by rw [HR.out];exact hL5,hgw,hbw⟩,bel2 hbk hb5⟩
            · have he0 : endE l1 0 = 4:=by unfold endE;rw [if_pos rfl,if_neg hl0]
              rw [if_neg hl0] at hld3;have Hld3:=Lib.hid hld3;have He0:=Lib.hid he0;clear hld3 he0 hl0;(go_wp2_with fail);refine (rd_end _ g0 l1 0 hr5).mono ?_;rintro e w5 ⟨rfl,hb5⟩;rw [He0.out];(go_wp2_with fail);go_ret2;exact LoadRes.bad Hld3.out (by omega) (bel2 hbk hb5)
end
section
open Go.RowKit
def Wf : VSt → Prop
  | .t n=>-9223372036854775808 ≤ n ∧ n < 9223372036854775808
  | .b L G=>(∀ x ∈ L,small x) ∧ (∀ x ∈ G,small x) ∧ Ris cmpRow L ∧ Ris cmpRow G ∧ ∀ x ∈ L,x ∉ G
  | .l L=>RowsOk L
  | .m X O=>(∀ x ∈ X,msmall x) ∧ Ris cmpMR X ∧ Ris cmpId O ∧ ∀ x ∈ X,x.id ∉ O
  | .s N G=>(∀ x ∈ N,nodeE x = 0) ∧ OneId N ∧ Ris cmpId G
theorem StAt.wf {w : World} {O M : List Nat} {v : Value} {s : VSt} (h : StAt w O M v s) (ht : ∀ n,s = .t n → -9223372036854775808 ≤ n ∧ n < 9223372036854775808) (hr : s.ris) : Wf s:=by
  cases s with
  | t n=>exact ht n rfl
  | b L G=>obtain ⟨g,bl,bg,_,h1,_⟩:=h;exact ⟨h1.smL,h1.smG,h1.risL,h1.risG,h1.apart⟩
  | l L=>obtain ⟨g,b,_,h1,_⟩:=h;exact h1.rows
  | m X O=>obtain ⟨g,bl,bo,_,h1,_⟩:=h;exact ⟨h1.sm,h1.risX,h1.risO,h1.apart⟩
  | s N G=>obtain ⟨g,bn,bb,bg,_,h1,_⟩:=h;exact ⟨h1.ok,h1.one,hr⟩
theorem StAt.iface {w : World} {O M : List Nat} {v : Value} {s : VSt} (h : StAt w O M v s) : ∃ ty gs,v = .iface ty (.pointer (some ⟨gs,0,none⟩)):=by
  cases s with
  | t n=>obtain ⟨g,e,_⟩:=h;exact ⟨_,_,e⟩
  | b L G=>obtain ⟨g,bl,bg,e,_⟩:=h;exact ⟨_,_,e⟩
  | l L=>obtain ⟨g,b,e,_⟩:=h;exact ⟨_,_,e⟩
  | m X O=>obtain ⟨g,bl,bo,e,_⟩:=h;exact ⟨_,_,e⟩
  | s N G=>obtain ⟨g,bn,bb,bg,e,_⟩:=h;exact ⟨_,_,e⟩
set_option maxHeartbeats 1000000 in
theorem vload_t (w : World) (s : ByteArray) (Z : Nat → World → Prop) (c : Calls Tryz.prog 170 #[.string s] w fun e w'=>∃ g,e = .returned (.tuple #[.pointer (some ⟨g,0,none⟩),.int .i64 0]) ∧ Z g w') :
    Calls Tryz.prog 95 #[.int .i64 1,.string s] w fun e w'=>∃ g,e = .returned (.tuple #[.iface 100 (.pointer (some ⟨g,0,none⟩)),.int .i64 0]) ∧ Z g w':=by
  go_enter Tryz.func95,Tryz.ntmps95
  (go_wp2_with fail);refine c.mono ?_;rintro e w1 ⟨g,rfl,hz⟩;have Hz:=Lib.hid hz;clear hz c;(go_wp2_with fail);go_ret2;exact ⟨g,rfl,Hz.out⟩
set_option maxHeartbeats 1000000 in
theorem vload_b (w : World) (s : ByteArray) (Z : Nat → World → Prop) (c : Calls Tryz.prog 171 #[.string s] w fun e w'=>∃ g,e = .returned (.tuple #[.pointer (some ⟨g,0,none⟩),.int .i64 0]) ∧ Z g w') :
    Calls Tryz.prog 95 #[.int .i64 2,.string s] w fun e w'=>∃ g,e = .returned (.tuple #[.iface 102 (.pointer (some ⟨g,0,none⟩)),.int .i64 0]) ∧ Z g w':=by
  go_enter Tryz.func95,Tryz.ntmps95
  (go_wp2_with fail);refine c.mono ?_;rintro e w1 ⟨g,rfl,hz⟩;have Hz:=Lib.hid hz;clear hz c;(go_wp2_with fail);go_ret2;exact ⟨g,rfl,Hz.out⟩
set_option maxHeartbeats 1000000 in
theorem vload_l (w : World) (s : ByteArray) (Z : Nat → World → Prop) (c : Calls Tryz.prog 172 #[.string s] w fun e w'=>∃ g,e = .returned (.tuple #[.pointer (some ⟨g,0,none⟩),.int .i64 0]) ∧ Z g w') :
    Calls Tryz.prog 95 #[.int .i64 3,.string s] w fun e w'=>∃ g,e = .returned (.tuple #[.iface 104 (.pointer (some ⟨g,0,none⟩)),.int .i64 0]) ∧ Z g w':=by
  go_enter Tryz.func95,Tryz.ntmps95
  (go_wp2_with fail);refine c.mono ?_;rintro e w1 ⟨g,rfl,hz⟩;have Hz:=Lib.hid hz;clear hz c;(go_wp2_with fail);go_ret2;exact ⟨g,rfl,Hz.out⟩
set_option maxHeartbeats 1000000 in
theorem vload_m (w : World) (s : ByteArray) (Z : Nat → World → Prop) (c : Calls Tryz.prog 173 #[.string s] w fun e w'=>∃ g,e = .returned (.tuple #[.pointer (some ⟨g,0,none⟩),.int .i64 0]) ∧ Z g w') :
    Calls Tryz.prog 95 #[.int .i64 4,.string s] w fun e w'=>∃ g,e = .returned (.tuple #[.iface 105 (.pointer (some ⟨g,0,none⟩)),.int .i64 0]) ∧ Z g w':=by
  go_enter Tryz.func95,Tryz.ntmps95
  (go_wp2_with fail);refine c.mono ?_;rintro e w1 ⟨g,rfl,hz⟩;have Hz:=Lib.hid hz;clear hz c;(go_wp2_with fail);go_ret2;exact ⟨g,rfl,Hz.out⟩
set_option maxHeartbeats 1000000 in
theorem vload_s (w : World) (s : ByteArray) (Z : Nat → World → Prop) (c : Calls Tryz.prog 174 #[.string s] w fun e w'=>∃ g,e = .returned (.tuple #[.pointer (some ⟨g,0,none⟩),.int .i64 0]) ∧ Z g w') :
    Calls Tryz.prog 95 #[.int .i64 5,.string s] w fun e w'=>∃ g,e = .returned (.tuple #[.iface 106 (.pointer (some ⟨g,0,none⟩)),.int .i64 0]) ∧ Z g w':=by
  go_enter Tryz.func95,Tryz.ntmps95
  (go_wp2_with fail);refine c.mono ?_;rintro e w1 ⟨g,rfl,hz⟩;have Hz:=Lib.hid hz;clear hz c;(go_wp2_with fail);go_ret2;exact ⟨g,rfl,Hz.out⟩
theorem vload_st (w : World) (s : ByteArray) (hs : s.size ≤ 90000) (st0 : VSt) (hwf : Wf st0) (hbig : st0.big ≤ 1000000) (hb : s.data.toList = stB st0) (M0 : List Nat) (hM0 : ∀ x ∈ M0,x < w.heap.size) :
    Calls Tryz.prog 95 #[.int .i64 st0.kind,.string s] w fun e w'=>∃ v O st,e = .returned (.tuple #[v,.int .i64 0]) ∧ StAt w' O (M0 ++ O) v st ∧ SameS st0 st ∧ st.kind = st0.kind ∧ (∀ x ∈ O,w.heap.size ≤ x ∧ x < w'.heap.size) ∧ (st.ris ∧ st.len ≤ st0.len ∧ st.big ≤ st0.big) ∧ Below w.heap.size w w':=by
  cases st0 with
  | t n =>
    obtain ⟨h1,h2⟩:=putT_load n hwf.1 hwf.2;have hb' : s.data.toList = putTB n:=hb;have c:=tload w s (by omega);rw [hb',h1,h2] at c;refine (vload_t w s (fun g w'=>TallyAt w' g n ∧ w.heap.size ≤ g ∧ Below w.heap.size w w') (c.mono ?_)).mono ?_
    · rintro e w' ⟨P,rfl,h3,_,hbw⟩;obtain ⟨g,rfl,h4,h5⟩:=h3 rfl;exact ⟨g,rfl,h4,h5,hbw⟩
    · rintro e w' ⟨g,rfl,h4,h5,hbw⟩;exact ⟨_,[g],.t n,rfl,⟨g,rfl,h4,rfl⟩,rfl,rfl,fun x hx=>by rw [List.mem_singleton] at hx;subst hx;exact ⟨h5,h4.lt⟩,⟨trivial,Nat.le_refl _,Nat.le_refl _⟩,hbw⟩
  | b L G =>
    obtain ⟨a1,a2,a3,a4,a5⟩:=hwf;have hbg : L.length + G.length ≤ 1000000:=hbig;obtain ⟨h1,h2,h3⟩:=put_load a1 a2 a3 a4 a5 (by omega) (by omega);have hb' : s.data.toList = putB L G:=hb;have c:=bload w s (by omega);rw [hb',h1,h2,h3] at c;refine (vload_b w s (fun g w'=>∃ bl bg,BagAt w' g bl bg L G ∧ w.heap.size ≤ g ∧ w.heap.size ≤ bl ∧ w.heap.size ≤ bg ∧ Below w.heap.size w w') (c.mono ?_)).mono ?_
    · rintro e w' ⟨P,rfl,h4,_,hbw⟩;obtain ⟨g,bl,bg,rfl,h5,k1,k2,k3⟩:=h4 rfl;exact ⟨g,rfl,bl,bg,h5,k1,k2,k3,hbw⟩
    · rintro e w' ⟨g,rfl,bl,bg,h5,k1,k2,k3,hbw⟩;refine ⟨_,[g,bl,bg],.b L G,rfl,⟨g,bl,bg,rfl,h5,rfl⟩,⟨rfl,rfl⟩,rfl,fun x hx=>?_,⟨trivial,Nat.le_refl _,Nat.le_refl _⟩,hbw⟩;have:=h5.lt.1;have:=h5.live.lt;have:=h5.gone.lt;simp at hx;rcases hx with rfl | rfl | rfl <;> omega
  | l L =>
    obtain ⟨X,rfl⟩:=rows_of L;have hbg : (X.map rowL).length ≤ 1000000:=hbig;obtain ⟨h1,h2⟩:=put_load_l hwf (by rw [List.length_map] at hbg;omega);have hb' : s.data.toList = putLB (X.map rowL):=hb;have c:=lload w s (by omega);unfold LoadRes at c;rw [hb',h1,h2] at c;refine (vload_l w s (fun g w'=>∃ b,LastAt w' g b (X.map rowL) ∧ w.heap.size ≤ g ∧ w.heap.size ≤ b ∧ Below w.heap.size w w') (c.mono ?_)).mono ?_
    · rintro e w' ⟨⟨h3,_⟩ | ⟨_,g,b,rfl,h5,k1,k2⟩,hbw⟩
      · exact absurd rfl h3
      · exact ⟨g,rfl,b,h5,k1,k2,hbw⟩
    · rintro e w' ⟨g,rfl,b,h5,k1,k2,hbw⟩;obtain ⟨M',es,clk,hm,_⟩:=h5.map;refine ⟨_,[g,b],.l (X.map rowL),rfl,⟨g,b,rfl,h5,rfl⟩,rfl,rfl,fun x hx=>?_,⟨trivial,Nat.le_refl _,Nat.le_refl _⟩,hbw⟩;have:=(Array.getElem?_eq_some_iff.1 h5.blk).1;have:=hm.lt;simp at hx;rcases hx with rfl | rfl <;> omega
  | m X O =>
    obtain ⟨a1,a2,a3,a4⟩:=hwf;have hbg : X.length + O.length ≤ 1000000:=hbig;obtain ⟨h1,h2,h3⟩:=putM_load a1 a2 a3 a4 (by omega) (by omega);have hb' : s.data.toList = putMB X O:=hb;have c:=mload w s (by omega);rw [hb',h2,h3] at c;refine (vload_m w s (fun g w'=>∃ bl bo,MultiAt w' g bl bo X O ∧ w.heap.size ≤ g ∧ w.heap.size ≤ bl ∧ w.heap.size ≤ bo ∧ Below w.heap.size w w') (c.mono ?_)).mono ?_
    · rintro e w' ⟨P,E,rfl,h4,h5,_,hbw⟩;have hE:=loadM_uniq h4 h1;subst hE;obtain ⟨g,bl,bo,rfl,h6,k1,k2,k3⟩:=h5 rfl;exact ⟨g,rfl,bl,bo,h6,k1,k2,k3,hbw⟩
    · rintro e w' ⟨g,rfl,bl,bo,h5,k1,k2,k3,hbw⟩;refine ⟨_,[g,bl,bo],.m X O,rfl,⟨g,bl,bo,rfl,h5,rfl⟩,⟨rfl,rfl⟩,rfl,fun x hx=>?_,⟨trivial,Nat.le_refl _,Nat.le_refl _⟩,hbw⟩;have:=h5.lt.1;have:=h5.live.lt;have:=h5.over.lt;simp at hx;rcases hx with rfl | rfl | rfl <;> omega
  | s N G =>
    obtain ⟨a1,a2,a3⟩:=hwf;have hbg : N.length + G.length ≤ 1000000:=hbig;obtain ⟨h1,h2,h3⟩:=putS_load a1 a2 a3 (by omega) (by omega);have hb' : s.data.toList = putSB N G:=hb;have c:=sqload_ok w s hs (by rw [hb'];exact h1) M0 hM0;rw [hb',h2,h3] at c;refine (vload_s w s (fun g w'=>∃ bn bb bg,SeqAt w' (M0 ++ [g,bn,bb,bg]) g bn bb bg (sortN N) G ∧ w.heap.size ≤ g ∧ w.heap.size ≤ bn ∧ w.heap.size ≤ bb ∧ w.heap.size ≤ bg ∧ Below w.heap.size w w') (c.mono ?_)).mono ?_
    · rintro e w' ⟨g,bn,bb,bg,rfl,h5,k1,k2,k3,k4,hbw⟩;exact ⟨g,rfl,bn,bb,bg,h5,k1,k2,k3,k4,hbw⟩
    · rintro e w' ⟨g,rfl,bn,bb,bg,h5,k1,k2,k3,k4,hbw⟩;obtain ⟨es,clk,hn⟩:=h5.nodes;obtain ⟨BM,es',clk',hbh,_⟩:=h5.behind;refine ⟨_,[g,bn,bb,bg],.s (sortN N) G,rfl,⟨g,bn,bb,bg,rfl,h5,rfl⟩,⟨fun z=>mem_sortN.symm,rfl⟩,rfl,fun x hx=>?_,⟨a3,sortN_length N,by show (sortN N).length + G.length ≤ N.length + G.length;have:=sortN_length N;omega⟩,hbw⟩;have:=h5.ltg;have:=hn.lt;have:=hbh.lt;have:=h5.gone.lt;simp at hx;rcases hx with rfl | rfl | rfl | rfl <;> omega
set_option maxHeartbeats 1000000 in
theorem rd_left (w : World) (g : Nat) (l : List UInt8) (h : RdAt w g l 0) : Calls Tryz.prog 96 #[.pointer (some ⟨g,0,none⟩)] w fun en w'=>en = .returned (.int .i64 l.length) ∧ Below w.heap.size w w':=by
  have h0:=h;obtain ⟨s,a,ha,hs,hg,hl⟩:=h;obtain ⟨c0,c1,c2,c3,_⟩:=rd_cells hg;have hll : l.length = s.size - a:=by rw [hl,List.length_drop];congr 1
  have hsub : ((s.size : Int) - (a : Int)) = ((s.size - a : Nat) : Int):=by omega
  have Hll:=Lib.hid hll;have HL:=Lib.hid hl;clear hl hll h0;have hst:=rd_stuck w g 0 c3 c2;rw [show (!((0 : Int) == 0)) = false from rfl] at hst;obtain ⟨m,hm⟩ : ∃ m,s.size - a = m:=⟨_,rfl⟩
  rw [hm] at hsub;have hmb : m ≤ 9223372036854775807:=by omega
  have hwr : IntKind.i64.wrap (m : Int) = (m : Int):=IntWalk.i64_in _ (by omega);have Hm:=Lib.hid hm;clear hm;go_enter Tryz.func96,Tryz.ntmps96
  (go_wp2_with fail);refine hst.mono ?_;rintro e w1 ⟨rfl,rfl⟩;go_upto_region 3 with fail
  refine wp_region_lex (Bel w) false (by kernel_rfl) (by kernel_rfl) (by kernel_rfl) (bel_drew w) ?_;have hne:=bel_some w;have hS:=bel_drew w;have b1:=sub_cell c0;have b2:=sub_cell c1;repeat (refine wpLx_loose ?_ ?_;(focus (simp only [chainOp];done));intro K hK;go_simp;refine hK _ ?_;clear hK K)
  refine wpLx_nil ?_;intro hS;(go_wp2_with fail);go_ret;exact ⟨ret_int (by rw [Hll.out,Hm.out]),hS⟩
set_option maxRecDepth 100000 in
set_option maxHeartbeats 4000000 in
theorem vload_ok (t : ByteArray) (w : World) (s : ByteArray) (I : List Id32) (st0 : VSt) (hs : s.size ≤ 90000) (ht : t.size ≤ 9223372036854775807) (hk : st0.kind = kindB t) (hw : 0 < w.heap.size) (hb : s.data.toList = idsB I ++ stB st0) (rI : Ris cmpId I) (hwf : Wf st0) (hbig : st0.big ≤ 1000000) (hI : I.length ≤ 1000000) :
    Calls Tryz.prog 38 #[.string t,.string s] w fun e w'=>∃ g b O v st,e = .returned (.tuple #[.pointer (some ⟨g,0,none⟩),.int .i64 0]) ∧ VAt w' g t b O I v st ∧ SameS st0 st ∧ st.kind = st0.kind ∧ (st.ris ∧ st.len ≤ st0.len ∧ st.big ≤ st0.big) ∧ (∀ x ∈ b :: O,w.heap.size ≤ x) ∧ w.heap.size ≤ g ∧ Below w.heap.size w w':=by
  obtain ⟨l,hl⟩ : ∃ l,s.data.toList = l:=⟨_,rfl⟩
  have hll : l.length ≤ 90000:=by rw [← hl];exact hs
  have hk0 : kindB t ≠ 0:=by rw [← hk];cases st0 <;> simp [VSt.kind]
  have c1:=vnew_any t w ht hk0 hw;have c2:=fun w=>rd_open s w (by omega);have hrd : readG idP l 0 = ⟨I,stB st0,0⟩:=by rw [← hl,hb];exact readG_put idLaw (stB st0) (fun _ _=>trivial) (by omega)
  have hls : (stB st0).length ≤ l.length:=by rw [← hl,hb,List.length_append];omega
  rw [hl] at c2;have hN:=numV_lt 4 l 0;obtain ⟨N,hNe⟩ : ∃ N,numV 4 l 0 = N:=⟨_,rfl⟩
  have hlp0 : loopG idP N ⟨[],rawL 4 l 0,rawE 4 l 0⟩ = ⟨I,stB st0,0⟩:=by rw [← hrd,← hNe];rfl
  rw [hNe] at hN;have HNe:=Lib.hid hNe;have Hlp0:=Lib.hid hlp0;clear hl hb hrd hNe hlp0;go_enter Tryz.func38,Tryz.ntmps38
  (go_wp2_with fail);refine c1.mono ?_;rintro e w2 ⟨g,b,O0,v0,rfl,hV,hbO,hgw,hb2⟩;(go_wp2_with fail);refine (c2 w2).mono ?_;rintro e w3 ⟨rfl,hr3,hb3⟩;obtain ⟨gr,hgr⟩ : ∃ gr,w2.heap.size = gr:=⟨_,rfl⟩
  have Hgr:=Lib.hid hgr;have hV3 : ViewAt w3 g t b [] v0:=hV.view.below hb3;have hgg : g < gr ∧ b < gr:=by have h1:=hV.view.lt;have h2:=hV.view.ids.lt;omega
  have hb03:=bel2 hb2 hb3;have hbw : w.heap.size ≤ b:=hbO b (by simp);rw [hgr] at hr3 ⊢;have hsz0 : w.heap.size ≤ gr:=by have:=hb2.size;omega
  clear c1 c2 hV hbO hb2 hb3 hgr;(go_wp2_with fail);refine (rd_num4 w3 gr l 0 hr3).mono ?_;rintro e w4 ⟨rfl,hr4,hk4⟩;rw [HNe.out];have hsz34:=hk4.size;have hgr3:=hr3.lt;clear hr3;(go_wp2_with fail);go_loopw [9,11,12] (fun out i _ wr=>∃ (k : Nat) (G : List Id32) (l2 : List UInt8) (e2 : Int) (B1 : Option Addr) (capB : Nat),k ≤ N ∧ i = .int .i64 k ∧ out = .slice B1 G.length capB ∧ G.length = k ∧ Own wr w4.heap.size 39 32 B1 G.length capB (G.map idC) ∧ RdAt wr gr l2 e2 ∧ Hid (loopG idP N ⟨[],rawL 4 l 0,rawE 4 l 0⟩ = loopG idP (N - k) ⟨G,l2,e2⟩) ∧ Keep [gr] w4 wr) (fun _ i _ _=>N - (intOf i).toNat)
  case atStart=>exact ⟨0,[],_,_,none,0,Nat.zero_le _,rfl,rfl,rfl,Own.nil _ _ _ _,hr4,(show _ = _ from rfl),Keep.refl _ _⟩
  case round =>
    clear hr4;obtain ⟨k,G,l2,e2,B1,capB,hkN,rfl,rfl,hGk,hown,hr,hlp,hk⟩:=hrel;have HGk:=Lib.hid hGk;have hGN : G.length ≤ N:=by omega
    clear hGk;have hsz:=hk.size;have Hfin : Hid (¬ (k < N ∧ e2 = 0) → ⟨G,l2,e2⟩ = (⟨I,stB st0,0⟩ : RdsG Id32)):=fun hn=>by
      rw [← Hlp0.out,hlp.out];by_cases he : e2 = 0
      · rw [show N - k = 0 by omega];rfl
      · exact (loopG_stop _ _ he).symm
    by_cases hgo : k < N ∧ e2 = 0
    · obtain ⟨hlt,rfl⟩:=hgo;have hlp2:=hlp.out;rw [show N - k = (N - (k + 1)) + 1 by omega,loopG_step _ _ rfl] at hlp2;have Hlp:=Lib.hid hlp2;clear hlp hlp2 Hfin;have hgw':=hr.lt;have hgS : gr ∉ blk B1:=fun hx=>(by have:=(hown.at_base hx).1;omega);have h8:=heap_alloc_new wr (.cells (idC id0) 39);have hrx:=hr.kept (Keep.alloc wr (.cells (idC id0) 39)) (by simp);have hk8 : Keep [] wr (wr.alloc (.cells (idC id0) 39)):=Keep.alloc _ _;have hsz8 : (wr.alloc (.cells (idC id0) 39)).heap.size = wr.heap.size + 1:=by simp
      (go_wp2_with fail);refine (rd_err _ gr l2 0 hr).mono ?_;rintro e w5 ⟨rfl,rfl⟩;go_upto_region 11 with fail
      obtain ⟨g8,hg8⟩ : ∃ g8,wr.heap.size = g8:=⟨_,rfl⟩
      have Hg8:=Lib.hid hg8;obtain ⟨W,hW⟩ : ∃ W,W = wr.alloc (.cells (idC id0) 39):=⟨_,rfl⟩
      rw [← hW] at h8 hrx hk8 hsz8 ⊢;rw [hg8] at h8 hgw' hsz8 ⊢;have hg8l : g8 < W.heap.size:=by omega
      have hne8 : g8 ∉ [gr]:=by simp;omega
      have hng : gr ∉ [g8]:=by simp;omega
      have Hsz8:=Lib.hid hsz8;clear hW hg8 hr hsz8;have c1:=rd_raw32 W.drew gr l2 0 (hrx.kept (Keep.drew W) (by simp));refine wp_region_lex (Kp [gr,g8] W) false (by kernel_rfl) (by kernel_rfl) (by kernel_rfl) (kp_drew [gr,g8] W) ?_;have hne:=kp_some [gr,g8] W;have hS:=kp_drew [gr,g8] W;repeat (refine wpLx_loose ?_ ?_;(focus (simp only [chainOp];done));intro K hK;go_simp;refine hK _ ?_;clear hK K)
      refine wpLx_chain ?_ ?_ ?_;(focus (exact hS));(focus (simp only [chainOp];done));intro K hK;go_simp;refine c1.mono ?_;rintro en w1 ⟨rfl,hr1,hk1⟩;replace hS:=kp_next hS hk1 (by simp);have hg31 : w1.heap[g8]? = _:=(hk1.block g8 (by show _ < W.drew.heap.size;exact hg8l) hne8).trans h8;refine ⟨_,rfl,hS,hK _ _ ?_⟩;clear hK K c1;obtain ⟨w5,m2,hcp,hg32,hk2⟩:=copy_idb (rawV 32 l2 0) (rawV_32 _ _) 3 32 hg31;refine wpLx_chain ?_ ?_ ?_;(focus (exact hS));(focus (simp only [chainOp];done));intro K hK;go_simp;refine step_keep (kp_next hS hk2 (by simp)) (fun hS2=>?_);refine hK _ _ ?_;clear hK K;refine wpLx_nil ?_;intro hS;have hkk : Keep [gr,g8] W w5:=hS2;have hr5:=hr1.kept hk2 hng;have hst : stepG idP ⟨G,l2,0⟩ = ⟨G ++ [idOf (rawV 32 l2 0)],rawL 32 l2 0,rawE 32 l2 0⟩:=rfl;rw [hst] at Hlp;obtain ⟨d,hd⟩ : ∃ d,idOf (rawV 32 l2 0) = d:=⟨_,rfl⟩
      rw [hd] at hg32 Hlp;clear hd hst hcp hS hS2 hne hk1 hk2 hr1 hg31 h8 hrx;have hkw : Keep [gr,g8] wr w5:=Keep.trans (hk8.mono (S':=[gr,g8]) (by simp)) hkk (fun x hx=>.inl hx);have hk5 : Keep [gr] wr w5:=hkw.narrow (fun x hx=>by have:=Hg8.out;simp at hx ⊢;omega);have hown5:=hown.kept hk5 (fun x hx=>by have:=(hown.at_base hx).1;simp;omega);have hrow5 : rowAt w5 g8 0 32 = some (idC d):=by unfold rowAt;rw [hg32];simp [go_sem]
      have hbx : Below w5.heap.size w5 (w5.alloc (.cells (idC d) 39)):=(Below.refl _ _).alloc (Nat.le_refl _) _;have hown12:=hown5.below hbx;have hrow12 : rowAt (w5.alloc (.cells (idC d) 39)) w5.heap.size 0 32 = some (idC d):=by simp [go_sem]
      have hszZ : w4.heap.size ≤ w5.heap.size:=by have:=hk5.size;omega
      clear hown hown5 hg32 hkk hkw hk8;go_wp2_with (at_builtin;refine L_append einfoId rfl hown12 rfl hrow12 (idC_one _) (by omega) (by omega) (by simp;omega) ?_;intro A13 cap13 w13 hown13 hk13' hsub13)
      have hk0 : Keep (blk B1) w5 w13:=Keep.trans ((Keep.of_below hbx).mono (S':=blk B1) (by simp)) hk13' (fun x hx=>.inl hx);have hE13:=hr5.kept hk0 hgS;have hkf : Keep [gr] w4 w13:=Keep.trans (Keep.trans hk hk5 (fun x hx=>.inl hx)) hk0 (fun x hx=>.inr (by have:=(hown12.at_base hx).1;omega));rw [show G.map idC ++ [idC d] = (G ++ [d]).map idC by simp] at hown13;have hlen13 : (G ++ [d]).length = G.length + 1:=by simp
      have Hlen13:=Lib.hid hlen13;clear hlen13 hk0 hk13' hsub13 hown12 hrow12 hbx hrow5 hr5;(go_wp2_with fail);go_roundw
      case rel=>exact ⟨k + 1,G ++ [d],_,_,A13,cap13,by omega,by go_num,(by rw [Hlen13.out]),(by rw [Hlen13.out,HGk.out]),(by rw [Hlen13.out];exact hown13),hE13,Hlp,hkf⟩
      case measure=>simp [intOf];omega
    · have hf:=Hfin.out hgo;have f1 : G = I:=congrArg RdsG.rows hf;have f2 : l2 = stB st0:=congrArg RdsG.l hf;have f3 : e2 = 0:=congrArg RdsG.e hf;subst f1;subst f2;subst f3;have hkn : ¬ k < N:=fun h=>hgo ⟨h,rfl⟩;clear hf hgo Hfin hlp;have hVr : ViewAt wr g t b [] v0:=hV3.kept (Keep.trans hk4 hk (fun x hx=>.inl hx)) (by simp;omega) (by simp;omega);have hb0r : Below w.heap.size w wr:=(hb03.trans (hk4.below (by have:=hb03.size;omega) (by simp;omega))).trans (hk.below (B:=w.heap.size) (by have:=hb03.size;omega) (by simp;omega));have ci:=is_ids wr B1 G.length capB G hown.slr (by omega);rw [(risI_ok G).2 rI] at ci;have hgwr : gr < wr.heap.size:=hr.lt;clear hV3 hk4 hk hb03;(go_wp2_with fail);refine (rd_err _ gr _ 0 hr).mono ?_;rintro e w5 ⟨rfl,rfl⟩;(go_wp2_with fail);refine ci.mono ?_;rintro e w5 ⟨rfl,hb5⟩;have hV5:=hVr.below hb5;have hr5:=hr.below hb5;have ho5:=hown.below hb5;have hb05:=bel2 hb0r hb5;clear ci hVr hr hown hb0r hb5;(go_wp2_with fail);refine (kind_any t w5 ht).mono ?_;rintro e w6 ⟨rfl,hb6⟩;have hV6:=hV5.below hb6;have hr6:=hr5.below hb6;have ho6:=ho5.below hb6;have hb06:=bel2 hb05 hb6;clear hV5 hr5 ho5 hb05 hb6;(go_wp2_with fail);refine (rd_left w6 gr _ hr6).mono ?_;rintro e w7 ⟨rfl,hb7⟩;have hV7:=hV6.below hb7;have hr7:=hr6.below hb7;have ho7:=ho6.below hb7;have hb07:=bel2 hb06 hb7;clear hV6 hr6 ho6 hb06 hb7;(go_wp2_with fail);refine (rd_raw w7 gr _ _ 0 hr7 (by omega)).mono ?_;rintro e w8 ⟨rfl,hr8,hk8⟩;have erV : rawV (stB st0).length (stB st0) 0 = stB st0:=by unfold rawV;rw [if_pos ⟨rfl,Nat.le_refl _⟩];exact List.take_length
      rw [erV];have hV8:=hV7.kept hk8 (by simp;omega) (by simp;omega);have ho8:=ho7.kept hk8 (fun x hx=>by have:=(ho7.at_base hx).1;simp;omega);have hb08 : Below w.heap.size w w8:=hb07.trans (hk8.below (B:=w.heap.size) (by have:=hb07.size;omega) (by simp;omega));have hgl8:=hV8.lt;have hbl8:=hV8.ids.lt;have cl:=vload_st w8 (mkB (stB st0)) (by rw [mkB_size];omega) st0 hwf hbig rfl [b] (by simpa using hbl8);rw [hk] at cl;clear erV hV7 hr7 ho7 hb07 hr8 hk8;(go_wp2_with fail);refine cl.mono ?_;rintro e w9 ⟨v,O,st,rfl,hst,hsame,hkind,hO,hris,hb9⟩;obtain ⟨ty,gs,rfl⟩:=hst.iface;have hV9:=hV8.below hb9;have ho9:=ho8.below hb9;have hb09:=bel2 hb08 hb9;have hgb:=hV9.ne;have f2 : w9.frozen? ⟨g,2,none⟩ = false:=by simp [World.frozen?,hV9.blk]
      have x2:=hV9.cell2;have hks : Keep [g] w9 (w9.setCell ⟨g,2,none⟩ (.iface ty (.pointer (some ⟨gs,0,none⟩)))):=Keep.setCell w9 ⟨g,2,none⟩ (.iface ty (.pointer (some ⟨gs,0,none⟩)));have h10:=heap_setCell_same hV9.blk 2 (.iface ty (.pointer (some ⟨gs,0,none⟩)));have hst10:=hst.kept_small hks (fun x hx=>by rw [List.mem_singleton] at hx;subst hx;exact small_cells hV9.blk (by simp)) (fun x hx hm=>by rw [List.mem_singleton] at hm;have:=(hO x hx).1;omega);have hid10 : IdSet _ b []:=hV9.ids.kept hks (by simpa using fun e=>hgb e.symm);have ho10:=ho9.kept hks (fun x hx hm=>by rw [List.mem_singleton] at hm;have:=(ho9.at_base hx).1;omega);have hb10 : Below w.heap.size w (w9.setCell ⟨g,2,none⟩ (.iface ty (.pointer (some ⟨gs,0,none⟩)))):=hb09.trans (hks.below (B:=w.heap.size) hb09.size (by simp;omega));have hO10 : ∀ x ∈ O,w8.heap.size ≤ x ∧ x < (w9.setCell ⟨g,2,none⟩ (.iface ty (.pointer (some ⟨gs,0,none⟩)))).heap.size:=fun x hx=>⟨(hO x hx).1,Nat.lt_of_lt_of_le (hO x hx).2 hks.size⟩;have hgl9:=hV9.lt;have hsz9:=hks.size;clear cl hV8 ho8 hb08 hV9 ho9 hb09 hst hO hb9 hks;go_upto_region 21 with fail
      obtain ⟨w10,hw10⟩ : ∃ w10,w9.setCell ⟨g,2,none⟩ (.iface ty (.pointer (some ⟨gs,0,none⟩))) = w10:=⟨_,rfl⟩
      rw [hw10] at h10 hst10 hid10 ho10 hb10 hO10 hsz9;rw [hw10];have Hst:=Lib.hid hst10;have HO:=Lib.hid hO10;have Hsame:=Lib.hid hsame;have Hkind:=Lib.hid hkind;have Hris:=Lib.hid hris;have Hb10:=Lib.hid hb10;have H10:=Lib.hid h10;have hbl10 : b < w10.heap.size:=hid10.lt;clear hw10 f2 x2 hst10 hO10 hsame hkind hris hb10 h10;(go_wp2_with fail);go_loopw [75] (fun i wr=>∃ k : Nat,k ≤ G.length ∧ i = .int .i64 k ∧ IdSet wr b (G.take k) ∧ Keep [b] w10 wr) (fun i _=>G.length - (intOf i).toNat)
      case atStart=>exact ⟨0,Nat.zero_le _,rfl,by simpa using hid10,Keep.refl _ _⟩
      case round =>
        obtain ⟨k2,hk2,rfl,hid,hkr⟩:=hrel;have hgl10 : g < w10.heap.size:=(Array.getElem?_eq_some_iff.1 H10.out).1;have hblkr:=(hkr.block g hgl10 (by simpa using hgb)).trans H10.out;have hcr1 : wr.cell? ⟨g,1,none⟩ = some (.map (some b)):=by rw [cell_of_row wr g 1 _ _ _ hblkr];rfl
        by_cases hlt2 : k2 < G.length
        · have hBq:=ho10.kept hkr (fun x hx=>by have:=(ho10.at_base hx).1;simp;omega);obtain ⟨q,o,rfl,hrow⟩:=TagsIn.get hBq.slr hlt2 hlt2;have htk : G.take (k2 + 1) = G.take k2 ++ [G[k2]'hlt2]:=by rw [List.take_add_one,List.getElem?_eq_getElem hlt2];rfl
          obtain ⟨x,hx⟩ : ∃ x,G[k2]'hlt2 = x:=⟨_,rfl⟩
          rw [hx] at hrow htk;have Htk:=Lib.hid htk;have hbx : Below wr.heap.size wr (wr.alloc (.cells (idC x) 39)):=(Below.refl _ _).alloc (Nat.le_refl _) _;have ho1:=SetAt.below hid hbx;have hcx:=(hbx.cell (p:=⟨g,1,none⟩) (World.block_lt_of_cell? wr _ hcr1)).trans hcr1;have hrx : rowAt (wr.alloc (.cells (idC x) 39)) wr.heap.size 0 32 = some (idC x):=by simp [go_sem]
          have hkx : Keep [b] w10 (wr.alloc (.cells (idC x) 39)):=Keep.trans hkr (Keep.of_below hbx) (by simp);have hbol : b < wr.heap.size:=hid.lt;clear hx htk hBq;go_upto_region 24 with fail
          obtain ⟨g8,hg8⟩ : ∃ g8,wr.heap.size = g8:=⟨_,rfl⟩
          obtain ⟨W1,hW1⟩ : ∃ W1,W1 = wr.alloc (.cells (idC x) 39):=⟨_,rfl⟩
          rw [← hW1] at ho1 hcx hrx hkx ⊢;rw [hg8] at hrx hbol ⊢;clear hW1 hg8 hrow hcr1 hbx hid hblkr;obtain ⟨w5',hrun,ho5,hk5⟩:=iput (x:=x) (ho1.kept (Keep.drew W1) (by simp));have hgbo : g ∉ [b]:=by simpa using hgb
          refine wp_region_lex (Kp [b] W1) false (by kernel_rfl) (by kernel_rfl) (by kernel_rfl) (kp_drew [b] W1) ?_;have hne:=kp_some [b] W1;have hS:=kp_drew [b] W1;have b1:=ksub_cell hcx hgbo;have b2:=ksub_row hrx (S:=[b]) (by simp;omega);repeat (refine wpLx_loose ?_ ?_;(focus (simp only [chainOp];done));intro K hK;go_simp;refine hK _ ?_;clear hK K)
          refine wpLx_chain ?_ ?_ ?_;(focus (exact hS));(focus (simp only [chainOp];done));intro K hK;go_simp;refine step_keep (kp_next hS hk5 (by simp)) (fun hS=>?_);refine hK _ _ ?_;clear hK K;refine wpLx_nil ?_;intro hS;have hS' : Keep [b] W1 w5':=hS;have hkn' : Keep [b] w10 w5':=Keep.trans hkx hS' (fun x hx=>.inl hx);have ho6 : IdSet w5' b (G.take (k2 + 1)):=SetAt.congr ho5 (fun y=>by rw [Htk.out,List.mem_append,List.mem_singleton,List.mem_cons];exact Or.comm);clear b1 b2 hne hS hk5 hrun hcx hrx ho5 hS' ho1;(go_wp2_with fail);go_roundw
          case rel=>exact ⟨k2 + 1,by omega,by go_num,ho6,hkn'⟩
          case measure=>simp [intOf];omega
        · have e2 : G.take k2 = G:=List.take_of_length_le (by omega);rw [e2] at hid;have hbO : b ∉ O:=fun hx=>(by have:=(HO.out b hx).1;omega);have hstf : StAt wr O (b :: O) (.iface ty (.pointer (some ⟨gs,0,none⟩))) st:=Hst.out.kept hkr (fun x hx hm=>by rw [List.mem_singleton] at hm;rw [hm] at hx;exact hbO hx) (fun x hx=>.inl (by rw [List.mem_singleton] at hx;rw [hx];simp));have hfin : VAt wr g t b O G (.iface ty (.pointer (some ⟨gs,0,none⟩))) st:=⟨⟨hblkr,hid⟩,hstf,fun hx=>by
            rcases List.mem_cons.1 hx with h1 | h1
            · exact hgb h1
            · have:=(HO.out g h1).1;omega,hbO,fun x hx=>by
            have:=hkr.size;rcases List.mem_cons.1 hx with h1 | h1
            · omega
            · have:=(HO.out x h1).2;omega,fun hx=>by
            rcases List.mem_cons.1 hx with h1 | h1
            · omega
            · have:=(HO.out 0 h1).1;omega⟩
          have hbf : Below w.heap.size w wr:=Hb10.out.trans (hkr.below (B:=w.heap.size) Hb10.out.size (by simp;omega));have Hfin:=Lib.hid hfin;have Hbf:=Lib.hid hbf;clear e2 hid hkr hblkr hcr1 hfin hbf hstf hbO;(go_wp2_with fail);go_ret2;exact ⟨g,b,O,_,st,rfl,Hfin.out,Hsame.out,hk ▸ Hkind.out,Hris.out,fun x hx=>by
            rcases List.mem_cons.1 hx with h1 | h1
            · omega
            · have:=(HO.out x h1).1;omega,by omega,Hbf.out⟩
end
section
open Go.RowKit
theorem means_same {F : List MarkV} {s s' : VSt} (h : SameS s s') (hm : Means F s) : Means F s':=by
  cases s <;> cases s' <;> try exact h.elim
  · have e : _ = _:=h;subst e;exact hm
  · obtain ⟨e1,e2⟩:=h;subst e1;subst e2;exact hm
  · have e : _ = _:=h;subst e;exact hm
  · obtain ⟨e1,e2⟩:=h;subst e1;subst e2;exact hm
  · obtain ⟨e1,e2⟩:=h;subst e2;obtain ⟨h1,h2,h3⟩:=hm;exact ⟨fun z=>(e1 z).symm.trans (h1 z),h2,h3⟩
structure Made (t : ByteArray) (P : List MarkV) (I : List Id32) (s : VSt) : Prop where
  ids : ∀ d,d ∈ I ↔ ∃ m ∈ P,m.id = d
  st : ∃ F : List MarkV,F.Nodup ∧ (∀ m,m ∈ F ↔ m ∈ P ∧ fits t m) ∧ Means F s
  nd : I.Nodup
def OnceL (R : List MarkV) : Prop:=∀ a ∈ R,∀ b ∈ R,a.id = b.id → a = b
theorem made_new (t : ByteArray) (k : Int) : Made t [] [] (VSt.new k):=⟨by simp,⟨[],List.nodup_nil,by simp,means_new k⟩,List.nodup_nil⟩
theorem made_step {t : ByteArray} {P R : List MarkV} {I : List Id32} {s : VSt} {m : MarkV} (h : Made t P I s) (hk : kindB t = s.kind) (ho : OnceL R) (hP : ∀ a ∈ P,a ∈ R) (hm : m ∈ R) : Made t (P ++ [m]) (stepI m I) (stepS t m I s):=by
  obtain ⟨h1,⟨F,h2,h3,h4⟩,hnd⟩:=h;unfold stepI stepS;by_cases hi : m.id ∈ I
  · rw [if_pos hi,if_pos hi];obtain ⟨a,ha,e⟩:=(h1 _).1 hi;have e2 : a = m:=ho a (hP a ha) m hm e;subst e2;have hmem : ∀ x,x ∈ P ++ [a] ↔ x ∈ P:=fun x=>by
      rw [List.mem_append,List.mem_singleton];exact ⟨fun h=>h.elim id fun h=>by rw [h];exact ha,.inl⟩
    exact ⟨fun d=>by rw [h1 d];simp only [hmem],⟨F,h2,fun x=>by rw [h3 x,hmem],h4⟩,hnd⟩
  · rw [if_neg hi,if_neg hi];have hids : ∀ d,d ∈ m.id :: I ↔ ∃ a ∈ P ++ [m],a.id = d:=fun d=>by
      rw [ex_snoc,List.mem_cons,h1 d];exact ⟨fun h=>h.elim (fun h=>.inr h.symm) .inl,fun h=>h.elim .inr fun h=>.inl h.symm⟩
    have hfr : ∀ a ∈ P,a.id ≠ m.id:=fun a ha e=>hi ((h1 _).2 ⟨a,ha,e⟩);refine ⟨hids,?_,List.nodup_cons.2 ⟨hi,hnd⟩⟩;unfold foldS;by_cases hf : fits t m
    · rw [if_pos hf];refine ⟨F ++ [m],?_,fun x=>?_,means_fold h4 (opO_ok _ hf.1).2.2.2.2.1 (fun a ha=>hfr a ((h3 a).1 ha).1)⟩
      · rw [List.nodup_append];refine ⟨h2,List.pairwise_singleton _ _,fun a ha b hb e=>?_⟩;rw [List.mem_singleton] at hb;subst hb;subst e;exact hfr a ((h3 a).1 ha).1 rfl
      · rw [List.mem_append,List.mem_singleton,List.mem_append,List.mem_singleton,h3 x];constructor
        · rintro (⟨a1,a2⟩ | rfl)
          · exact ⟨.inl a1,a2⟩
          · exact ⟨.inr rfl,hf⟩
        · rintro ⟨a1 | rfl,a2⟩
          · exact .inl ⟨a1,a2⟩
          · exact .inr rfl
    · rw [if_neg hf];refine ⟨F,h2,fun x=>?_,h4⟩;rw [h3 x,List.mem_append,List.mem_singleton];constructor
      · rintro ⟨a1,a2⟩;exact ⟨.inl a1,a2⟩
      · rintro ⟨a1 | rfl,a2⟩
        · exact ⟨a1,a2⟩
        · exact absurd a2 hf
theorem made_congr {t : ByteArray} {P P' : List MarkV} {I I' : List Id32} {s s' : VSt} (h : Made t P I s) (hP : ∀ m,m ∈ P ↔ m ∈ P') (hI : ∀ d,d ∈ I ↔ d ∈ I') (hn : I'.Nodup) (hs : SameS s s') : Made t P' I' s':=by
  obtain ⟨h1,⟨F,h2,h3,h4⟩,hnd⟩:=h;exact ⟨fun d=>by rw [← hI d,h1 d];exact ex_mem hP,⟨F,h2,fun m=>by rw [h3 m,hP m],means_same hs h4⟩,hn⟩
theorem made_same {t : ByteArray} {P P' : List MarkV} {I I' : List Id32} {s s' : VSt} (h : Made t P I s) (h' : Made t P' I' s') (hP : ∀ m,m ∈ P ↔ m ∈ P') (hk : s.kind = s'.kind) : SameS s s' ∧ ∀ d,d ∈ I ↔ d ∈ I':=by
  obtain ⟨h1,⟨F,h2,h3,h4⟩,_⟩:=h;obtain ⟨k1,⟨F',k2,k3,k4⟩,_⟩:=h';have hp : F.Perm F':=(List.perm_ext_iff_of_nodup h2 k2).2 fun m=>(by rw [h3,k3,hP]);exact ⟨means_uniq hp h4 k4 hk,fun d=>by rw [h1,k1];exact ex_mem hP⟩
theorem same_num {s s' : VSt} (h : SameS s s') : s.num = s'.num:=by
  cases s <;> cases s' <;> first | exact h | rfl | exact h.elim
theorem same_bytes {s s' : VSt} (h : SameS s s') : stB s = stB s':=by
  cases s <;> cases s' <;> try exact h.elim
  · have e : _ = _:=h;subst e;rfl
  · obtain ⟨e1,e2⟩:=h;subst e1;subst e2;rfl
  · have e : _ = _:=h;subst e;rfl
  · obtain ⟨e1,e2⟩:=h;subst e1;subst e2;rfl
  · obtain ⟨e1,e2⟩:=h;subst e2;show putSB _ _ = putSB _ _;unfold putSB;rw [sortN_congr e1]
theorem same_put {s s' : VSt} {I I' : List Id32} (h : SameS s s') (hI : ∀ d,d ∈ I ↔ d ∈ I') : putVB I s = putVB I' s':=by
  unfold putVB;rw [same_bytes h,sortC_congr totId hI]
theorem same_pairs {w : World} {O M : List Nat} {v : Value} {s s' : VSt} (hs : StAt w O M v s) (h : SameS s s') : s.pairs = s'.pairs:=by
  cases s <;> cases s' <;> try exact h.elim
  · rfl
  · obtain ⟨e1,e2⟩:=h;subst e1;subst e2;rfl
  · have e : _ = _:=h;subst e;rfl
  · obtain ⟨e1,e2⟩:=h;subst e1;subst e2;rfl
  · obtain ⟨e1,e2⟩:=h;subst e2;obtain ⟨g,bn,bb,bg,_,h1,_⟩:=hs;show listS _ _ = listS _ _;show pS (orderN _) _ = pS (orderN _) _;rw [orderN_congr e1 ⟨h1.one,fun a ha=>(nodeE_id (h1.ok a ha)).1⟩]
theorem stB_few {w : World} {O M : List Nat} {v : Value} {s : VSt} (h : StAt w O M v s) : (stB s).length ≤ 100 + 100 * s.big:=by
  cases s with
  | t n=>show (putTB n).length ≤ _;unfold putTB;rw [List.length_append,beL_length,beL_length];omega
  | b L G =>
    obtain ⟨gs,bl,bg,rfl,h1,_⟩:=h;have z1:=rowsB_len h1.smL;have z2:=rowsB_len h1.smG;show (putB L G).length ≤ 100 + 100 * (L.length + G.length);unfold putB;rw [List.length_append];omega
  | l L =>
    obtain ⟨gs,bl,rfl,h1,_⟩:=h;have z1:=rows_length L h1.rows.2;show (putLB L).length ≤ 100 + 100 * L.length;unfold putLB;rw [List.length_append,beL_length];omega
  | m X Ov =>
    obtain ⟨gs,bl,bo,rfl,h1,_⟩:=h;have z1:=flatMap_len rowMB 66 X (fun x hx=>by rw [rowMB_len];have:=h1.sm x hx;unfold msmall at this;omega);have z2:=idsB_len Ov;show (putMB X Ov).length ≤ 100 + 100 * (X.length + Ov.length);unfold putMB;rw [List.length_append,List.length_append,beL_length];omega
  | s N G =>
    obtain ⟨gs,bn,bb,bg,rfl,h1,_⟩:=h;have z0:=sortN_length N;have z1:=flatMap_len nodeB 85 (sortN N) (fun x hx=>by rw [nodeB_len];have:=nodeE_id (h1.ok x (mem_sortN.1 hx));omega);have z2:=idsB_len G;show (putSB N G).length ≤ 100 + 100 * (N.length + G.length);unfold putSB;rw [List.length_append,List.length_append,beL_length];omega
theorem means_num {F : List MarkV} {s : VSt} (h : Means F s) : ∀ n,s = .t n → -9223372036854775808 ≤ n ∧ n < 9223372036854775808:=by
  rintro n rfl;have e : n = wrap64 (sumN F):=h;rw [e];unfold wrap64;omega
theorem made_num {t : ByteArray} {P : List MarkV} {I : List Id32} {s : VSt} (h : Made t P I s) : ∀ n,s = .t n → -9223372036854775808 ≤ n ∧ n < 9223372036854775808:=by
  obtain ⟨_,⟨F,_,_,h4⟩,_⟩:=h;exact means_num h4
end
section
open Go.RowKit
def markEqB (x y : MarkV) : Bool:=(x.id == y.id) && ((x.h == y.h) && (x.body.toList == y.body.toList))
theorem markEqB_eq (x y : MarkV) : markEqB x y = true ↔ x = y:=by
  unfold markEqB;simp only [Bool.and_eq_true,beq_iff_eq,toList_inj];exact ⟨fun h=>MarkV_ext h,fun h=>by subst h;exact ⟨rfl,rfl,rfl⟩⟩
theorem eqMark_in (x y : MarkV) (w : World) : (Op.equalIn 10000 41 (.agg (markVC x)) (.agg (markVC y))).run Tryz.prog w = .ok (markEqB x y) w:=by
  rw [show (10000 : Nat) = 9999 + 1 from rfl,run_equalIn_agg w 9999 41 _ _ fieldsMarkV (by kernel_rfl)];unfold markEqB;have e1:=eqId_in 9997 x.id y.id w;have e2:=run_equalIn_string (P:=Tryz.prog) w 9998 9 x.body y.body Tryz.underlying9;have e3:=run_equalIn_int (P:=Tryz.prog) w 9998 3 .i64 .i64 x.h y.h (by kernel_rfl);simp only [Program.fieldsOf,Tryz.underlying41];simp [Op.eqFields,part,asAgg,isAgg,go_sem,Tryz.underlying9,Tryz.underlying39,e1,e2,e3];cases h1 : (x.id == y.id) <;> cases h2 : (x.body.toList == y.body.toList) <;> cases h3 : (x.h == y.h) <;> simp_all
@[go_sem ↓] theorem neqMark_run (x y : MarkV) (w : World) : (binOp .neq 41 (.agg (markVC x)) (.agg (markVC y))).run Tryz.prog w = .ok (.bool (!(markEqB x y))) w:=by
  rw [run_neq_struct,eqMark_in];rfl
def OncePre (R : List MarkV) (i k : Nat) : Prop:=∀ a b (ha : a < R.length) (hb : b < R.length),b < a → (a < i ∨ (a = i ∧ b < k)) → (R[a]).id = (R[b]).id → R[a] = R[b]
theorem oncePre_next {R : List MarkV} {i k : Nat} (h : OncePre R i k) (hi : i < R.length) (hk : k < i) (hx : (R[i]).id = (R[k]'(by omega)).id → R[i] = R[k]'(by omega)) : OncePre R i (k + 1):=by
  intro a b ha hb hab hc he;rcases hc with h1 | ⟨h1,h2⟩
  · exact h a b ha hb hab (.inl h1) he
  · by_cases h3 : b < k
    · exact h a b ha hb hab (.inr ⟨h1,h3⟩) he
    · obtain rfl : b = k:=by omega
      subst h1;exact hx he
theorem oncePre_row {R : List MarkV} {i : Nat} (h : OncePre R i i) : OncePre R (i + 1) 0:=by
  intro a b ha hb hab hc he;rcases hc with h1 | ⟨h1,h2⟩
  · by_cases h3 : a < i
    · exact h a b ha hb hab (.inl h3) he
    · obtain rfl : a = i:=by omega
      exact h a b ha hb hab (.inr ⟨rfl,hab⟩) he
  · omega
set_option maxRecDepth 100000 in
set_option maxHeartbeats 4000000 in
theorem vonce (w : World) (A : Option Addr) (n cap : Nat) (R : List MarkV) (h : MarksIn w A n R) (hn : n ≤ 30) :
    Calls Tryz.prog 40 #[.slice A n cap] w fun e w'=>∃ b,e = .returned (.bool b) ∧ (b = true → ∀ x ∈ R,∀ y ∈ R,x.id = y.id → x = y) ∧ Below w.heap.size w w':=by
  have hlen:=h.len;have Hlen:=Lib.hid hlen;have hrows:=h;clear h hlen;go_enter Tryz.func40,Tryz.ntmps40
  (go_wp2_with fail);go_loopw [3,4] (fun iv _ wr=>∃ i : Nat,i ≤ n ∧ iv = .int .i64 i ∧ Hid (OncePre R i 0) ∧ Below w.heap.size w wr) (fun iv _ _=>n - (intOf iv).toNat)
  case atStart=>exact ⟨0,Nat.zero_le _,rfl,(show OncePre R 0 0 from fun a b _ _ h1 h2=>by omega),Below.refl _ _⟩
  case round =>
    obtain ⟨i,hi,rfl,hO,hb⟩:=hrel;by_cases hlt : i < n
    · obtain ⟨q,o,rfl,hrow,hid,_⟩:=MarksIn.get (SlR.below hrows hb) hlt (by rw [Hlen.out];exact hlt);have hiR : i < R.length:=by rw [Hlen.out];exact hlt
      obtain ⟨x,hx⟩ : ∃ x,R[i]'hiR = x:=⟨_,rfl⟩
      have hx' : R[i]'(by rw [Hlen.out];exact hlt) = x:=hx;rw [hx'] at hrow hid;have Hx:=Lib.hid hx;have HiR:=Lib.hid hiR;obtain ⟨wo,rfl⟩ : ∃ wo,wo = wr:=⟨wr,rfl⟩
      clear hx hx';(go_wp2_with fail);go_loopw [4] (fun kv wr=>∃ k : Nat,k ≤ i ∧ kv = .int .i64 k ∧ Hid (OncePre R i k) ∧ Below wo.heap.size wo wr) (fun kv _=>i - (intOf kv).toNat)
      case atStart=>exact ⟨0,Nat.zero_le _,rfl,hO,Below.refl _ _⟩
      case round =>
        obtain ⟨k,hk,rfl,hOk,hbk⟩:=hrel;by_cases hlt2 : k < i
        · obtain ⟨q',o',e',hrow2,hid2,_⟩:=MarksIn.get (SlR.below (SlR.below hrows hb) hbk) (i:=k) (by omega) (by rw [Hlen.out];omega);injection e' with e';injection e' with e1' e2'
          subst e1';subst e2';have hkR : k < R.length:=by rw [Hlen.out];omega
          have hkn : k < n:=by omega
          obtain ⟨y,hy⟩ : ∃ y,R[k]'hkR = y:=⟨_,rfl⟩
          have hy' : R[k]'(by rw [Hlen.out];omega) = y:=hy;rw [hy'] at hrow2 hid2;have Hy:=Lib.hid hy;have hrow1:=(rowAt_of_block (hbk.block q (rowAt_lt hrow)) _ _).trans hrow;have hid1:=(rowAt_of_block (hbk.block q (rowAt_lt hid)) _ _).trans hid;have Hnx : Hid ((x.id = y.id → x = y) → OncePre R i (k + 1)):=fun hh=>oncePre_next hOk.out HiR.out hlt2 (by rw [Hx.out,Hy.out];exact hh);clear hy hy' hOk;obtain ⟨eb,heb⟩ : ∃ eb,(x.id == y.id) = eb:=⟨_,rfl⟩
          obtain ⟨mb,hmb⟩ : ∃ mb,markEqB x y = mb:=⟨_,rfl⟩
          have Hmb:=Lib.hid hmb;have Heb:=Lib.hid heb;clear hmb;go_upto_region 7 with fail
          go_cut [37] (fun v wx=>v = .bool (eb && !mb) ∧ Below wr.heap.size wr wx)
          case first =>
            have hmb:=Hmb.out;cases eb with
            | false =>
              refine wp_region_lex (Bel wr) false (by kernel_rfl) (by kernel_rfl) (by kernel_rfl) (bel_drew wr) ?_;have hne:=bel_some wr;have hS:=bel_drew wr;have b1:=sub_row hid1;have b2:=sub_row hid2;repeat (refine wpLx_loose ?_ ?_;(focus (simp only [chainOp];done));intro K hK;go_simp;refine hK _ ?_;clear hK K)
              refine wpLx_nil ?_;intro hS;go_wp2_with fail
              go_meet
              exact ⟨rfl,hS⟩
            | true =>
              refine wp_region_lex (Bel wr) false (by kernel_rfl) (by kernel_rfl) (by kernel_rfl) (bel_drew wr) ?_;have hne:=bel_some wr;have hS:=bel_drew wr;have b1:=sub_row hid1;have b2:=sub_row hid2;have b3:=sub_row hrow1;have b4:=sub_row hrow2;repeat (refine wpLx_loose ?_ ?_;(focus (simp only [chainOp];done));intro K hK;go_simp;refine hK _ ?_;clear hK K)
              refine wpLx_nil ?_;intro hS;go_wp2_with fail
              go_meet
              exact ⟨by simp,hS⟩
          case rest =>
          obtain ⟨rfl,hbz⟩:=hcut;obtain ⟨wz,rfl⟩ : ∃ wz,wz = wc:=⟨wc,rfl⟩
          have hbf : Below wo.heap.size wo wz:=bel2 hbk hbz;clear heb hrow1 hid1 hrow2 hid2 hbz hbk;obtain ⟨tb,htb⟩ : ∃ tb,(eb && !mb) = tb:=⟨_,rfl⟩
          have Htb:=Lib.hid htb;rw [htb];clear htb;cases tb with
          | true =>
            (go_wp2_with fail);go_ret;first | exact .inl ⟨rfl,bel2 hb hbf⟩ | exact ⟨false,rfl,fun h=>by cases h,bel2 hb hbf⟩
          | false =>
            have hnx:=Hnx.out (fun e=>by
              have h1:=Htb.out;rw [← Heb.out,← Hmb.out,show (x.id == y.id) = true by rw [e];exact beq_self_eq_true _] at h1;exact (markEqB_eq x y).1 (by simpa using h1))
            have HN:=Lib.hid hnx;clear hnx;(go_wp2_with fail);go_roundw
            case rel=>exact ⟨k + 1,by omega,by go_num,HN,hbf⟩
            case measure=>simp [intOf];omega
        · obtain rfl : k = i:=by omega
          have hn2:=oncePre_row hOk.out;have HN:=Lib.hid hn2;have hbf:=bel2 hb hbk;clear hn2 hOk;(go_wp2_with fail);go_roundw
          case rel=>exact ⟨k + 1,by omega,by go_num,HN,hbf⟩
          case measure=>simp [intOf];omega
    · have hin : i = n:=by omega
      have hall : ∀ x ∈ R,∀ y ∈ R,x.id = y.id → x = y:=fun x hx y hy e=>by
        obtain ⟨a,ha,rfl⟩:=List.getElem_of_mem hx;obtain ⟨c,hc,rfl⟩:=List.getElem_of_mem hy;have hl:=Hlen.out;rcases Nat.lt_trichotomy a c with h1 | h1 | h1
        · exact (hO.out c a hc ha h1 (.inl (by omega)) e.symm).symm
        · subst h1;rfl
        · exact hO.out a c ha hc h1 (.inl (by omega)) e
      have Hall:=Lib.hid hall;clear hall hin;(go_wp2_with fail);go_ret;first | exact ⟨true,rfl,fun _=>Hall.out,hb⟩ | exact .inr ⟨rfl,Hall.out,hb⟩
end
section
open Go.RowKit
theorem chk_inc (n : Nat) (hn : n < 1000) : chkN ⟨1,n,⟨#[]⟩,⟨#[]⟩,id0,[]⟩ = 0:=by
  unfold chkN numO risI;simp only [emptyS,List.length_nil];have h1 : decide ((n : Int) < 2147483648) = true:=decide_eq_true (by omega);have h2 : decide (-2147483648 ≤ (n : Int)) = true:=decide_eq_true (by omega);rw [h1,h2];rfl
def incL (n : Nat) : List UInt8:=beL 1 1 ++ beL 4 (n + 2147483648)
set_option maxRecDepth 100000 in
set_option maxHeartbeats 2000000 in
theorem rop_put_inc (n : Nat) (w : World) (hn : n < 1000) :
    Calls Tryz.prog 41 #[.agg (opPC ⟨1,n,⟨#[]⟩,⟨#[]⟩,id0,.slice none 0 0⟩)] w fun e w'=>∃ s : ByteArray,e = .returned (.tuple #[.string s,.int .i64 0]) ∧ s.data.toList = incL n ∧ Below w.heap.size w w':=by
  have hB : Below w.heap.size w (w.alloc (.cells (opPC ⟨1,n,⟨#[]⟩,⟨#[]⟩,id0,.slice none 0 0⟩) 52)):=(Below.refl _ _).alloc (Nat.le_refl _) _;have hr : rowAt (w.alloc (.cells (opPC ⟨1,n,⟨#[]⟩,⟨#[]⟩,id0,.slice none 0 0⟩) 52)) w.heap.size 0 37 = some (opPC ⟨1,n,⟨#[]⟩,⟨#[]⟩,id0,.slice none 0 0⟩):=by simp [go_sem]
  have cck:=rop_check ⟨1,n,⟨#[]⟩,⟨#[]⟩,id0,[]⟩ none 0 (w.alloc (.cells (opPC ⟨1,n,⟨#[]⟩,⟨#[]⟩,id0,.slice none 0 0⟩) 52)) (.inl ⟨rfl,rfl,rfl,rfl,rfl⟩) SlR.nil_ (by simp) (by rw [emptyS];omega) (by rw [emptyS];omega);rw [chk_inc n hn] at cck;change Calls Tryz.prog _ #[.agg (opPC ⟨1,n,⟨#[]⟩,⟨#[]⟩,id0,.slice none 0 0⟩)] _ _ at cck;go_enter Tryz.func41,Tryz.ntmps41
  go_upto_region 1 with fail
  obtain ⟨ga,hga⟩ : ∃ ga,w.heap.size = ga:=⟨_,rfl⟩
  have Hga:=Lib.hid hga;rw [hga] at hr hB ⊢;obtain ⟨W,hW⟩ : ∃ W,W = w.alloc (.cells (opPC ⟨1,n,⟨#[]⟩,⟨#[]⟩,id0,.slice none 0 0⟩) 52):=⟨_,rfl⟩
  rw [← hW] at hr hB cck ⊢;clear hW hga;(go_wp2_with fail);refine cck.mono ?_;rintro e w1 ⟨rfl,hb1⟩;have hr1 : rowAt w1 ga 0 37 = some (opPC ⟨1,n,⟨#[]⟩,⟨#[]⟩,id0,.slice none 0 0⟩):=(rowAt_of_block (hb1.block ga (rowAt_lt hr)) _ _).trans hr;have hB1 : Below ga w w1:=hB.trans (hb1.mono (by have:=hB.size;have:=Hga.out;omega));have x0:=rowAt_cell hr1 (j:=0) (by omega);rw [opPC_g0,Nat.zero_add] at x0;clear hr hB cck hb1;(go_wp2_with fail);refine (rnumP 1 1 _ (.inl rfl) (by omega)).mono ?_;rintro e w2 ⟨s1,rfl,hs1,hl1,hb2⟩;have hr2 : rowAt w2 ga 0 37 = some (opPC ⟨1,n,⟨#[]⟩,⟨#[]⟩,id0,.slice none 0 0⟩):=(rowAt_of_block (hb2.block ga (rowAt_lt hr1)) _ _).trans hr1;have hB2 : Below ga w w2:=hB1.trans (hb2.mono (by have:=rowAt_lt hr1;omega));clear hr1 hB1 hb2 x0;have x0:=rowAt_cell hr2 (j:=0) (by omega);have x1:=rowAt_cell hr2 (j:=1) (by omega);rw [opPC_g0,Nat.zero_add] at x0;rw [opPC_g1,Nat.zero_add] at x1;have Hl1:=Lib.hid hl1;have Hs1:=Lib.hid hs1;clear hl1;have ch:=rop_has 1 w2 (by omega);rw [show hasS 1 = ⟨#[78]⟩ from rfl] at ch;(go_wp2_with fail);refine ch.mono ?_;rintro e w3 ⟨rfl,rfl⟩;have hb0 : (((⟨#[78]⟩ : ByteArray)[0]'(by decide)).toNat : Int) = 78:=rfl;have cn:=rnumP (n + 2147483648) 4 w2 (.inr rfl) (by omega);rw [show ((n + 2147483648 : Nat) : Int) = (n : Int) + 2147483648 from by omega] at cn;have hw1 : ((n : Int) + 2147483648 + 9223372036854775808) % 18446744073709551616 - 9223372036854775808 = (n : Int) + 2147483648:=by omega
  have hle : (((⟨#[78]⟩ : ByteArray).size : Nat) : Int) = 1:=rfl;(go_wp2_with fail);refine wp_loop_rounds 2 ?_;rw [rounds_succ];(go_wp2_with fail);refine cn.mono ?_;rintro e w4 ⟨s2,rfl,hs2,hl2,hb4⟩;have hB4 : Below ga w w4:=hB2.trans (hb4.mono (by have:=rowAt_lt hr2;omega));have hsz : (s1 ++ s2).size ≤ 9223372036854775807:=by rw [ByteArray.size_append];omega
  have hss : ¬ 9223372036854775807 < s1.size + s2.size:=by omega
  have Hl2:=Lib.hid hl2;clear hb4 hr2 x0 x1 hl2 cn;(go_wp2_with fail);rw [rounds_succ];(go_wp2_with fail);go_ret2;refine ⟨s1 ++ s2,rfl,?_,by rw [Hga.out];exact hB4⟩;rw [ByteArray.data_append,Array.toList_append,Hl1.out,Hl2.out];rfl
theorem inc2_e : opE (incL 2) = 0:=by decide +kernel
theorem inc2_k : (opO (incL 2)).k = 1:=by decide +kernel
theorem inc2_n : (opO (incL 2)).n = 2:=by decide +kernel
end
section
open Go.RowKit
def id1v : Id32:=⟨1 :: List.replicate 31 0,by simp⟩
@[go_sem ↓] theorem buildId1v_run (w : World) : (Instr.build 39 #[(0,.int .u8 1)]).run Tryz.prog w = .ok (.agg (idC id1v)) w:=by kernel_rfl
@[go_sem] theorem id1v_set : (idC id0).setIfInBounds 0 (.int .u8 1) = idC id1v:=by simp [idC,id0,id1v,byteC,List.replicate]
def caS : ByteArray:=⟨#[99,97]⟩
theorem ca_kind : kindB caS = 1:=by decide +kernel
set_option maxRecDepth 100000 in
set_option maxHeartbeats 1000000 in
theorem awake26 (w : World) (hp : PartsVar w) : Calls Tryz.prog 22 #[] w fun e w'=>e = .returned (.bool true) ∧ Below w.heap.size w w':=by
  have hca : (⟨#[99,97]⟩ : ByteArray) = caS:=rfl;have c1:=vnew caS w (by decide) 1 ca_kind (by omega) 100 (fun a b gs=>gs = a.heap.size ∧ TallyAt b gs 0) (fun w=>(vfresh_t w).mono fun e w' ⟨h1,h2,h3⟩=>⟨w.heap.size,h1,⟨rfl,h2⟩,h3⟩);go_enter Tryz.func22,Tryz.ntmps22
  (go_wp2_with fail);refine c1.mono ?_;rintro e w1 ⟨g,b,gt,w2,w3,rfl,hv,⟨hgt,hT⟩,hb23,hb31,hg,hbl,hb2,hB⟩;have hT1 : TallyAt w1 gt 0:=hT.kept (Keep.of_below hb31) (by simp);have hgtb : gt ≠ b:=by omega
  have hgtg : gt ≠ g:=by have:=hT.lt;omega
  have hgl : w.heap.size ≤ gt:=by have:=hb23.size;have:=hB.size;omega
  have hp1:=hp.below hB;have hbn : b ≠ 0:=by have:=hp.lt;omega
  clear hT hgt hb23 hb31 hg hb2 c1 hca;have cp:=rop_put_inc 2 w1 (by omega);change Calls Tryz.prog _ #[.agg (opPC ⟨1,2,⟨#[]⟩,⟨#[]⟩,id0,.slice none 0 0⟩)] _ _ at cp;(go_wp2_with fail);refine cp.mono ?_;rintro e w4 ⟨s,rfl,hs,hb4⟩;have hv4:=hv.below hb4;have hT4 : TallyAt w4 gt 0:=hT1.kept (Keep.of_below hb4) (by simp);have hp4:=hp1.below hb4;have hB4:=bel2 hB hb4;clear hv hT1 hp1 hb4 cp hB;have hfit : fits caS ⟨id1v,1,s⟩:=by
    unfold fits;simp only [hs];exact ⟨inc2_e,by rw [inc2_k,ca_kind];rfl⟩
  have hsz : s.size ≤ 9223372036854775807:=by
    have : s.data.toList.length = 5:=by rw [hs];rfl
    have e : s.size = s.data.toList.length:=Array.length_toList.symm;omega
  have cf:=vfold_new ⟨id1v,1,s⟩ w4 g caS b [] _ hv4 (by simp) hp4 hbn hsz (by decide)
    (fun w'=>ViewAt w' g caS b [id1v] (.iface 100 (.pointer (some ⟨gt,0,none⟩))) ∧ TallyAt w' gt 2 ∧ Below w.heap.size w w')
    (fun hn=>absurd hfit hn)
    (fun _ w5 A c hv5 hk5 hp5 _=>by
      have hT5 : TallyAt w5 gt 0:=hT4.kept hk5 (by simpa using hgtb);have hn : (opO s.data.toList).n = 2:=by rw [hs];exact inc2_n
      refine (vdoes_t ⟨id1v,1,s⟩ _ A c w5 g gt caS b _ 0 hv5 hT5 (by rw [hn];omega) (by rw [hn];omega)).mono ?_;rintro e w6 ⟨rfl,h6,hk6⟩;rw [hn,show wrap64 (0 + 2) = 2 from by decide +kernel] at h6;refine ⟨rfl,hv5.kept hk6 (by simpa using fun e=>hgtg e.symm) (by simpa using fun e=>hgtb e.symm),h6,?_⟩;have hB5:=hB4.trans (hk5.below (B:=w.heap.size) hB4.size (by simpa using hbl));exact hB5.trans (hk6.below (B:=w.heap.size) hB5.size (by simpa using hgl)))
  have Hcf:=cf;clear hfit hs hsz cf hp4 hT4;(go_wp2_with fail);refine Hcf.mono ?_;rintro e w5 ⟨rfl,hv5,hT5,hB5⟩;clear Hcf hv4 hB4;have cv:=vvalue_t w5 g gt caS b _ 2 hv5 hT5 (by decide) ca_kind;(go_wp2_with fail);refine cv.mono ?_;rintro e w6 ⟨rfl,hb6⟩;have hv6:=hv5.below hb6;have hB6:=bel2 hB5 hb6;clear cv hv5 hT5 hB5 hb6;have ch:=vhas id1v w6 g caS b _ _ hv6;rw [show decide (id1v ∈ [id1v]) = true from by simp] at ch;(go_wp2_with fail);refine ch.mono ?_;rintro e w7 ⟨rfl,hb7⟩;have hB7:=bel2 hB6 hb7;clear ch hv6 hB6 hb7;(go_wp2_with fail);go_ret;exact ⟨rfl,hB7⟩
end
end Go.Proofs.YtgfpjjppeldhbaaGreatDoor
