/- Part 10 of the texts that lead to this claim: the walks of the functions and the plain law, in order. -/
import Derived.Test.YtgfpjjppeldhbaaGreatDoorMt9
namespace Go.Proofs.YtgfpjjppeldhbaaGreatDoor
section
open Go.RowKit
theorem set_same {cs : Array Value} {j : Nat} {v : Value} (h : cs[j]? = some v) : cs.setIfInBounds j v = cs:=by
  obtain ⟨hj,e⟩:=Array.getElem?_eq_some_iff.1 h;apply Array.ext
  · simp
  · intro i h1 h2;rw [Array.getElem_setIfInBounds];split
    · rename_i e';subst e';exact e.symm
    · rfl
set_option maxRecDepth 100000 in
set_option maxHeartbeats 4000000 in
theorem rsins8 (x : NodeV) (w : World) (g : Nat) (cs : Array Value) (A : Option Addr) (n cap : Nat) (L : List NodeV) (hg : w.heap[g]? = some (.cells cs 69 (0,0))) (hcs : cs[8]? = some (.slice A n cap)) (hswW : SlW w A n cap 66 (L.map nodeC)) (hgA : g ∉ blk A) (hok : NodesOk L) (hv : x.val.size ≤ 9223372036854775807) (hn : n ≤ 100000) :
    Calls Tryz.prog 148 #[.pointer (some ⟨g,8,none⟩),.agg (nodeC x)] w fun e w'=>∃ A' n' cap',e = .returned (.int .i64 (nodeE x)) ∧ w'.heap[g]? = some (.cells (cs.setIfInBounds 8 (.slice A' n' cap')) 69 (0,0)) ∧ SlW w' A' n' cap' 66 ((insN L x).map nodeC) ∧ g ∉ blk A' ∧ Keep [g] w w':=by
  have hgl : g < w.heap.size:=(Array.getElem?_eq_some_iff.1 hg).1;have hb0 : Below w.heap.size w (w.alloc (.cells (rNodeC (nodeR x)) 213)):=(Below.refl _ _).alloc (Nat.le_refl _) _;have hr0 : rowAt (w.alloc (.cells (rNodeC (nodeR x)) 213)) w.heap.size 0 66 = some (nodeC x):=by simp [go_sem]
  have hLn : L.length = n:=by simpa using hswW.len
  have Hlen:=Lib.hid hLn;have Hok:=Lib.hid hok;have hlt0 : w.heap.size < (w.alloc (.cells (rNodeC (nodeR x)) 213)).heap.size:=rowAt_lt hr0;clear hLn hok;go_enter Tryz.func148,Tryz.ntmps148
  go_upto_region 1 with fail
  obtain ⟨gx,hgx⟩ : ∃ gx,w.heap.size = gx:=⟨_,rfl⟩
  obtain ⟨W0,hW0⟩ : ∃ W0,w.alloc (.cells (rNodeC (nodeR x)) 213) = W0:=⟨_,rfl⟩
  rw [hW0] at hb0 hr0 hlt0;rw [hW0];rw [hgx] at hr0 hlt0 ⊢;have Hgx:=Lib.hid hgx;have c0:=rscheck x W0 hv;obtain ⟨E,hE⟩ : ∃ E,nodeE x = E:=⟨_,rfl⟩
  rw [hE] at c0;have HE:=Lib.hid hE;clear hW0 hgx hE;(go_wp2_with fail);refine c0.mono ?_;rintro e w1 ⟨rfl,hb1⟩;have hb01:=bel2 hb0 hb1;have hg1 : w1.heap[g]? = some (.cells cs 69 (0,0)):=(hb01.block g hgl).trans hg;have hr1 : rowAt w1 gx 0 66 = some (nodeC x):=(rowAt_of_block (hb1.block gx hlt0) _ _).trans hr0;have hsw1:=hswW.below hb01;have hc1 : w1.cell? ⟨g,8,none⟩ = some (.slice A n cap):=by rw [cell_of_row w1 g 8 _ _ _ hg1];exact hcs
  clear c0 hb0 hr0 hb1 hlt0 hg;by_cases hE0 : E = 0
  · subst hE0;obtain ⟨f1,_,_,_⟩:=node_cells hr1;(go_wp2_with fail);go_loopw [6] (fun j wj=>∃ m : Nat,m ≤ n ∧ j = .int .i64 m ∧ Hid (∀ i (hi : i < L.length),i < m → cmpId (L[i]).id x.id < 0) ∧ Below w1.heap.size w1 wj) (fun j _=>n - (intOf j).toNat)
    case atStart=>exact ⟨0,Nat.zero_le _,rfl,(show ∀ i (hi : i < L.length),i < 0 → _ from fun i _ h=>absurd h (by omega)),Below.refl _ _⟩
    case round =>
      obtain ⟨m,hmO,rfl,hlow,hbj⟩:=hrel;have hrj : rowAt wr gx 0 66 = some (nodeC x):=(rowAt_of_block (hbj.block gx (rowAt_lt hr1)) _ _).trans hr1;have j1 : rowAt wr gx 0 32 = some (idC x.id):=(rowAt_of_block (hbj.block gx (rowAt_lt hr1)) _ _).trans f1;have hcj:=(hbj.cell (p:=⟨g,8,none⟩) (World.block_lt_of_cell? w1 _ hc1)).trans hc1;have hswj:=hsw1.below hbj;by_cases hmlt : m < n
      · obtain ⟨q2,o2,rfl,hrO⟩:=NodesIn.get hswj.rd hmlt (by rw [Hlen.out];exact hmlt);obtain ⟨y1,_,_,_⟩:=node_cells hrO;obtain ⟨y,hy⟩ : ∃ y,L[m]'(by rw [Hlen.out];exact hmlt) = y:=⟨_,rfl⟩
        rw [hy] at y1;have Hy:=Lib.hid hy;have c2:=rcompare y.id x.id wr.drew;obtain ⟨c,hc⟩ : ∃ c,cmpId y.id x.id = c:=⟨_,rfl⟩
        rw [hc] at c2;have Hc:=Lib.hid hc;clear hy hc hrO;go_upto_region 5 with fail
        refine wp_region_lex (Bel wr) false (by kernel_rfl) (by kernel_rfl) (by kernel_rfl) (bel_drew wr) ?_;have hne:=bel_some wr;have hS:=bel_drew wr;have b1:=sub_row j1;have b2:=sub_row y1;have b3:=sub_cell hcj;repeat (refine wpLx_loose ?_ ?_;(focus (simp only [chainOp];done));intro K hK;go_simp;refine hK _ ?_;clear hK K)
        refine wpLx_chain ?_ ?_ ?_;(focus (exact hS));(focus (simp only [chainOp];done));intro K hK;go_simp;refine (c2).mono ?_;rintro e w' ⟨rfl,hb⟩;replace hS:=bel_next hS hb;refine ⟨_,rfl,hS,hK _ _ ?_⟩;clear hK K hb;repeat (refine wpLx_loose ?_ ?_;(focus (simp only [chainOp];done));intro K hK;go_simp;refine hK _ ?_;clear hK K)
        refine wpLx_nil ?_;intro hS;have hS' : Below wr.heap.size wr w':=hS;have hbz:=bel2 hbj hS';have hcz:=(hS'.cell (World.block_lt_of_cell? wr _ hcj)).trans hcj;have j1z : rowAt w' gx 0 32 = some (idC x.id):=(rowAt_of_block (hS'.block gx (rowAt_lt j1)) _ _).trans j1;have y1z : rowAt w' q2 (o2 + m * 66) 32 = some (idC y.id):=(rowAt_of_block (hS'.block q2 (rowAt_lt y1)) _ _).trans y1;clear b1 b2 b3 hne hS c2 hS' hbj j1 y1 hcj hswj hrj;by_cases hyx : c < 0
        · clear hcz j1z y1z;(go_wp2_with fail);go_roundw
          case rel =>
            refine ⟨m + 1,by omega,by go_num,(show ∀ i (hi : i < L.length),i < m + 1 → cmpId (L[i]).id x.id < 0 from fun i hi hlt=>?_),hbz⟩;by_cases e : i = m
            · subst e;rw [Hy.out,Hc.out];exact hyx
            · exact hlow.out i hi (by omega)
          case measure=>simp [intOf];omega
        · have Hyx:=Lib.hid hyx;obtain ⟨V,rfl⟩ : ∃ V,V = w':=⟨w',rfl⟩
          by_cases hid : y.id = x.id
          · have hin : x.id ∈ L.map NodeV.id:=List.mem_map.2 ⟨y,by rw [← Hy.out];exact List.getElem_mem _,hid⟩;have Hin : Hid (insN L x = L):=(show _ = _ by unfold insN;rw [if_pos HE.out,if_pos hin])
            have he : (y.id == x.id) = true:=by simpa using hid
            clear hin hid;go_upto_region 7 with fail
            refine wp_region_lex (Bel V) false (by kernel_rfl) (by kernel_rfl) (by kernel_rfl) (bel_drew V) ?_;have hne:=bel_some V;have hS:=bel_drew V;have b1:=sub_row j1z;have b2:=sub_row y1z;have b3:=sub_cell hcz;repeat (refine wpLx_loose ?_ ?_;(focus (simp only [chainOp];done));intro K hK;go_simp;refine hK _ ?_;clear hK K)
            refine wpLx_nil ?_;intro hS;have hsz:=hsw1.below (hbz.drew);have hgz:=(hbz.drew.block g (Array.getElem?_eq_some_iff.1 hg1).1).trans hg1;have hkz : Keep [g] w V.drew:=(Keep.of_below (bel2 hb01 hbz.drew)).mono (S':=[g]) (by simp);have Hsz:=Lib.hid hsz;clear b1 b2 b3 hne hS j1z y1z hcz hbz hsz he;(go_wp2_with fail);go_ret;exact ⟨ret_int HE.out.symm,_,n,cap,by rw [set_same hcs];exact hgz,by rw [Hin.out];exact Hsz.out,hgA,hkz⟩
          · have hnin : x.id ∉ L.map NodeV.id:=fun hx=>by
              obtain ⟨z,hz,e⟩:=List.mem_map.1 hx;obtain ⟨i,hi,e2⟩:=List.mem_iff_getElem.1 hz;have hri:=nodes_ids Hok.out;rcases Nat.lt_trichotomy i m with h1 | h1 | h1
              · have:=hlow.out i hi h1;rw [e2,e] at this;exact totId.irr _ this
              · subst h1;rw [Hy.out] at e2;rw [← e2] at e;exact hid e
              · have h2:=ris_get hri (i:=m) (j:=i) h1 (by simpa using hi);rw [List.getElem_map,List.getElem_map,Hy.out,e2,e] at h2;rw [Hc.out] at h2;exact Hyx.out h2
            have hat:=insC_at (c:=cmpM) L x m (by rw [Hlen.out];exact hmO) (fun i hi hlt=>by
                have h1:=hlow.out i hi hlt;unfold cmpM orC;rw [if_neg (by omega)];exact h1) (fun hk'=>by
                rw [Hy.out];have h1 : cmpId y.id x.id ≠ 0:=fun e'=>hid ((cmpId_zero _ _).1 e');have h2:=Hyx.out;rw [← Hc.out] at h2;unfold cmpM orC;rw [if_neg h1];omega)
            have Hat:=Lib.hid hat;have Hin : Hid (insN L x = insC cmpM L x):=(show _ = _ by unfold insN;rw [if_pos HE.out,if_neg hnin])
            have he : (y.id == x.id) = false:=by simpa using hid
            clear hnin hat hid;go_upto_region 7 with fail
            refine wp_region_lex (Bel V) false (by kernel_rfl) (by kernel_rfl) (by kernel_rfl) (bel_drew V) ?_;have hne:=bel_some V;have hS:=bel_drew V;have b1:=sub_row j1z;have b2:=sub_row y1z;have b3:=sub_cell hcz;repeat (refine wpLx_loose ?_ ?_;(focus (simp only [chainOp];done));intro K hK;go_simp;refine hK _ ?_;clear hK K)
            refine wpLx_nil ?_;intro hS;have hsw:=hsw1.below (hbz.drew);have hrx : rowAt V.drew gx 0 66 = some (nodeC x):=(rowAt_of_block (hbz.drew.block gx (rowAt_lt hr1)) _ _).trans hr1;have hgV:=(hbz.drew.block g (Array.getElem?_eq_some_iff.1 hg1).1).trans hg1;have hcW:=(hbz.drew.cell (p:=⟨g,8,none⟩) (World.block_lt_of_cell? w1 _ hc1)).trans hc1;have hBw:=bel2 hb01 hbz.drew;clear b1 b2 b3 hne hS j1z y1z hcz hbz he hsw1 hr1 hg1 hc1 f1 hb01;obtain ⟨W,hW⟩ : ∃ W,V.drew = W:=⟨_,rfl⟩
            rw [hW] at hsw hrx hgV hcW hBw;rw [hW];clear hW;have hgW : g < W.heap.size:=(Array.getElem?_eq_some_iff.1 hgV).1;obtain ⟨A,hA1⟩ : ∃ A,(some ⟨q2,o2,none⟩ : Option Addr) = A:=⟨_,rfl⟩
            rw [hA1] at hsw hcW;rw [hA1] at hgA;clear hA1 hcs hswW;have hBx : Below W.heap.size W (W.alloc (.cells #[] 213)):=(Below.refl _ _).alloc (Nat.le_refl _) _;have hcx:=(hBx.cell (p:=⟨g,8,none⟩) (World.block_lt_of_cell? W _ hcW)).trans hcW;have hown0:=Own.empty W W.heap.size 213 66 (Nat.le_refl _);have hlo : ∀ w0 : World,(slS 65 (.slice A n cap) none (some (.int .i64 m)) none).run Tryz.prog w0 = .ok (.slice A m cap) w0:=fun w0=>SlW.lo einfoRN hsw hmO w0;obtain ⟨Ah,ch,hhi,hhs,hhf⟩:=hsw.hi (P:=Tryz.prog) einfoRN (m:=m) hmO;have hslo : SlR (W.alloc (.cells #[] 213)) A m 66 ((L.map nodeC).take m):=(hsw.rd.below hBx).take_ hmO;have hf1:=hsw.nil;have hrone : ∀ r ∈ (L.map nodeC).take m,∀ u ∈ r.toList,u.oneCell' = true:=fun r hr=>(by obtain ⟨y',_,rfl⟩:=List.mem_map.1 (List.mem_of_mem_take hr);exact nodeC_one _);have hrone2 : ∀ r ∈ (L.map nodeC).drop m,∀ u ∈ r.toList,u.oneCell' = true:=fun r hr=>(by obtain ⟨y',_,rfl⟩:=List.mem_map.1 (List.mem_of_mem_drop hr);exact nodeC_one _);go_upto_region 10 with (at_builtin;refine L_appends einfoRN rfl hown0 rfl hslo hf1 hrone (by omega) (by omega) (by simp) ?_;intro A2 cap2 w2 hown2 hk2 hsub2)
            simp only [Nat.zero_add,List.nil_append] at hown2;have hwW : Below W.heap.size W w2:=hBx.trans (hk2.below (by simp) (by simp [blk]));have hrw2 : rowAt w2 gx 0 66 = some (nodeC x):=(rowAt_of_block (hwW.block gx (rowAt_lt hrx)) _ _).trans hrx;have hB3 : Below w2.heap.size w2 (w2.alloc (.cells (rNodeC (nodeR x)) 213)):=(Below.refl _ _).alloc (Nat.le_refl _) _;have hown3:=hown2.below hB3;have hrow3 : rowAt (w2.alloc (.cells (rNodeC (nodeR x)) 213)) w2.heap.size 0 66 = some (nodeC x):=by simp [go_sem]
            have hsz2:=hwW.size;go_upto_region 11 with (at_builtin;refine L_append einfoRN rfl hown3 rfl hrow3 (nodeC_one _) (by omega) (by omega) (by simp;omega) ?_;intro A4 cap4 w4 hown4 hk4 hsub4)
            have hwW4 : Below W.heap.size W w4:=(hwW.trans (hB3.mono hsz2)).trans (hk4.below (by simp;omega) (fun x hx=>(hown2.at_base hx).1));have hs4:=hhs w4 (hsw.rd.below hwW4);have hsz4:=hwW4.size;have hc4:=(hwW4.cell (p:=⟨g,8,none⟩) (World.block_lt_of_cell? W _ hcW)).trans hcW;clear hown3 hrow3 hB3 hown0 hBx hslo hrw2 hlo hcx;go_upto_region 12 with (at_builtin;refine L_appends einfoRN rfl hown4 rfl hs4 hhf hrone2 (by omega) (by omega) (by omega) ?_;intro A5 cap5 w5 hown5 hk5 hsub5)
            have hwW5 : Below W.heap.size W w5:=hwW4.trans (hk5.below (by omega) (fun x hx=>(hown4.at_base hx).1));have hO5 : (L.map nodeC).take m ++ [nodeC x] ++ (L.map nodeC).drop m = (L.take m ++ x :: L.drop m).map nodeC:=by simp [List.map_take,List.map_drop]
            rw [hO5,← Hat.out] at hown5;clear hown4 hown2 hO5 hs4 hhi hhs hrone hrone2 hf1 hc4;have hg5 : w5.heap[g]? = some (.cells cs 69 (0,0)):=(hwW5.block g hgW).trans hgV;have hc5 : w5.cell? ⟨g,8,none⟩ = some (.slice A n cap):=(hwW5.cell (p:=⟨g,8,none⟩) (World.block_lt_of_cell? W _ hcW)).trans hcW;have hf5 : w5.frozen? ⟨g,8,none⟩ = false:=by simp [World.frozen?,hg5]
            have hfin:=heap_setCell_same hg5 8 (.slice A5 (m + 1 + (n - m)) cap5);have hks:=Keep.setCell w5 ⟨g,8,none⟩ (.slice A5 (m + 1 + (n - m)) cap5);have hbb : Below w.heap.size w w5:=hBw.trans (hwW5.mono hBw.size);have hWw:=hBw.size;have hown6:=hown5.kept hks (fun y hy hm=>by have:=(hown5.at_base hy).1;simp at hm;omega);have hsl6:=hown6.slw;have hgA5 : g ∉ blk A5:=fun hx=>(by have:=(hown5.at_base hx).1;omega);have hkf : Keep [g] w (w5.setCell ⟨g,8,none⟩ (.slice A5 (m + 1 + (n - m)) cap5)):=Keep.trans ((Keep.of_below hbb).mono (S':=[g]) (by simp)) hks (fun x hx=>.inl hx);have Hsl6:=Lib.hid hsl6;clear hown5 hown6 hsl6 hbb hks;(go_wp2_with fail);go_ret;first | exact ⟨ret_int HE.out.symm,A5,m + 1 + (n - m),cap5,hfin,by rw [Hin.out];exact Hsl6.out,hgA5,hkf⟩ | exact ⟨A5,m + 1 + (n - m),cap5,ret_int HE.out.symm,hfin,by rw [Hin.out];exact Hsl6.out,hgA5,hkf⟩
      · have hd : decide (m < n) = false:=by simpa using hmlt
        have hnin : x.id ∉ L.map NodeV.id:=fun hx=>by
          obtain ⟨z,hz,e⟩:=List.mem_map.1 hx;obtain ⟨i,hi,e2⟩:=List.mem_iff_getElem.1 hz;have:=hlow.out i hi (by have:=Hlen.out;omega);rw [e2,e] at this;exact totId.irr _ this
        have hat:=insC_at (c:=cmpM) L x m (by rw [Hlen.out];exact hmO) (fun i hi hlt=>by
            have h1:=hlow.out i hi hlt;unfold cmpM orC;rw [if_neg (by omega)];exact h1) (fun hk'=>absurd (by rw [← Hlen.out];exact hk') hmlt)
        have Hat:=Lib.hid hat;have Hin : Hid (insN L x = insC cmpM L x):=(show _ = _ by unfold insN;rw [if_pos HE.out,if_neg hnin])
        clear hnin hat j1;go_upto_region 5 with fail
        refine wp_region_lex (Bel wr) false (by kernel_rfl) (by kernel_rfl) (by kernel_rfl) (bel_drew wr) ?_;have hne:=bel_some wr;have hS:=bel_drew wr;have b3:=sub_cell hcj;repeat (refine wpLx_loose ?_ ?_;(focus (simp only [chainOp];done));intro K hK;go_simp;refine hK _ ?_;clear hK K)
        refine wpLx_chain ?_ ?_ ?_;(focus (exact hS));(focus (simp only [chainOp];done));intro K hK;go_simp;refine hK _ _ ?_;clear hK K;repeat (refine wpLx_loose ?_ ?_;(focus (simp only [chainOp];done));intro K hK;go_simp;refine hK _ ?_;clear hK K)
        refine wpLx_nil ?_;intro hS;clear b3 hne hS;have hcz : wr.drew.cell? ⟨g,8,none⟩ = some (.slice A n cap):=hcj;go_upto_region 7 with fail
        refine wp_region_lex (Bel wr.drew) false (by kernel_rfl) (by kernel_rfl) (by kernel_rfl) (bel_drew wr.drew) ?_;have hne:=bel_some wr.drew;have hS:=bel_drew wr.drew;have b3:=sub_cell hcz;repeat (refine wpLx_loose ?_ ?_;(focus (simp only [chainOp];done));intro K hK;go_simp;refine hK _ ?_;clear hK K)
        refine wpLx_nil ?_;intro hS;have hbz : Below w1.heap.size w1 wr.drew.drew:=hbj.drew.drew;have hsw:=hsw1.below hbz;have hrx : rowAt wr.drew.drew gx 0 66 = some (nodeC x):=hrj;have hgV:=(hbz.block g (Array.getElem?_eq_some_iff.1 hg1).1).trans hg1;have hcW : wr.drew.drew.cell? ⟨g,8,none⟩ = some (.slice A n cap):=hcj;have hBw:=bel2 hb01 hbz;clear b3 hne hS hcz hbz hsw1 hr1 hg1 hc1 f1 hb01 hcj hrj hbj hswj hd hmlt;obtain ⟨W,hW⟩ : ∃ W,wr.drew.drew = W:=⟨_,rfl⟩
        rw [hW] at hsw hrx hgV hcW hBw;rw [hW];clear hW;have hgW : g < W.heap.size:=(Array.getElem?_eq_some_iff.1 hgV).1;clear hcs hswW;have hBx : Below W.heap.size W (W.alloc (.cells #[] 213)):=(Below.refl _ _).alloc (Nat.le_refl _) _;have hcx:=(hBx.cell (p:=⟨g,8,none⟩) (World.block_lt_of_cell? W _ hcW)).trans hcW;have hown0:=Own.empty W W.heap.size 213 66 (Nat.le_refl _);have hlo : ∀ w0 : World,(slS 65 (.slice A n cap) none (some (.int .i64 m)) none).run Tryz.prog w0 = .ok (.slice A m cap) w0:=fun w0=>SlW.lo einfoRN hsw hmO w0;obtain ⟨Ah,ch,hhi,hhs,hhf⟩:=hsw.hi (P:=Tryz.prog) einfoRN (m:=m) hmO;have hslo : SlR (W.alloc (.cells #[] 213)) A m 66 ((L.map nodeC).take m):=(hsw.rd.below hBx).take_ hmO;have hf1:=hsw.nil;have hrone : ∀ r ∈ (L.map nodeC).take m,∀ u ∈ r.toList,u.oneCell' = true:=fun r hr=>(by obtain ⟨y',_,rfl⟩:=List.mem_map.1 (List.mem_of_mem_take hr);exact nodeC_one _);have hrone2 : ∀ r ∈ (L.map nodeC).drop m,∀ u ∈ r.toList,u.oneCell' = true:=fun r hr=>(by obtain ⟨y',_,rfl⟩:=List.mem_map.1 (List.mem_of_mem_drop hr);exact nodeC_one _);go_upto_region 10 with (at_builtin;refine L_appends einfoRN rfl hown0 rfl hslo hf1 hrone (by omega) (by omega) (by simp) ?_;intro A2 cap2 w2 hown2 hk2 hsub2)
        simp only [Nat.zero_add,List.nil_append] at hown2;have hwW : Below W.heap.size W w2:=hBx.trans (hk2.below (by simp) (by simp [blk]));have hrw2 : rowAt w2 gx 0 66 = some (nodeC x):=(rowAt_of_block (hwW.block gx (rowAt_lt hrx)) _ _).trans hrx;have hB3 : Below w2.heap.size w2 (w2.alloc (.cells (rNodeC (nodeR x)) 213)):=(Below.refl _ _).alloc (Nat.le_refl _) _;have hown3:=hown2.below hB3;have hrow3 : rowAt (w2.alloc (.cells (rNodeC (nodeR x)) 213)) w2.heap.size 0 66 = some (nodeC x):=by simp [go_sem]
        have hsz2:=hwW.size;go_upto_region 11 with (at_builtin;refine L_append einfoRN rfl hown3 rfl hrow3 (nodeC_one _) (by omega) (by omega) (by simp;omega) ?_;intro A4 cap4 w4 hown4 hk4 hsub4)
        have hwW4 : Below W.heap.size W w4:=(hwW.trans (hB3.mono hsz2)).trans (hk4.below (by simp;omega) (fun x hx=>(hown2.at_base hx).1));have hs4:=hhs w4 (hsw.rd.below hwW4);have hsz4:=hwW4.size;have hc4:=(hwW4.cell (p:=⟨g,8,none⟩) (World.block_lt_of_cell? W _ hcW)).trans hcW;clear hown3 hrow3 hB3 hown0 hBx hslo hrw2 hlo hcx;go_upto_region 12 with (at_builtin;refine L_appends einfoRN rfl hown4 rfl hs4 hhf hrone2 (by omega) (by omega) (by omega) ?_;intro A5 cap5 w5 hown5 hk5 hsub5)
        have hwW5 : Below W.heap.size W w5:=hwW4.trans (hk5.below (by omega) (fun x hx=>(hown4.at_base hx).1));have hO5 : (L.map nodeC).take m ++ [nodeC x] ++ (L.map nodeC).drop m = (L.take m ++ x :: L.drop m).map nodeC:=by simp [List.map_take,List.map_drop]
        rw [hO5,← Hat.out] at hown5;clear hown4 hown2 hO5 hs4 hhi hhs hrone hrone2 hf1 hc4;have hg5 : w5.heap[g]? = some (.cells cs 69 (0,0)):=(hwW5.block g hgW).trans hgV;have hc5 : w5.cell? ⟨g,8,none⟩ = some (.slice A n cap):=(hwW5.cell (p:=⟨g,8,none⟩) (World.block_lt_of_cell? W _ hcW)).trans hcW;have hf5 : w5.frozen? ⟨g,8,none⟩ = false:=by simp [World.frozen?,hg5]
        have hfin:=heap_setCell_same hg5 8 (.slice A5 (m + 1 + (n - m)) cap5);have hks:=Keep.setCell w5 ⟨g,8,none⟩ (.slice A5 (m + 1 + (n - m)) cap5);have hbb : Below w.heap.size w w5:=hBw.trans (hwW5.mono hBw.size);have hWw:=hBw.size;have hown6:=hown5.kept hks (fun y hy hm=>by have:=(hown5.at_base hy).1;simp at hm;omega);have hsl6:=hown6.slw;have hgA5 : g ∉ blk A5:=fun hx=>(by have:=(hown5.at_base hx).1;omega);have hkf : Keep [g] w (w5.setCell ⟨g,8,none⟩ (.slice A5 (m + 1 + (n - m)) cap5)):=Keep.trans ((Keep.of_below hbb).mono (S':=[g]) (by simp)) hks (fun x hx=>.inl hx);have Hsl6:=Lib.hid hsl6;clear hown5 hown6 hsl6 hbb hks;(go_wp2_with fail);go_ret;first | exact ⟨ret_int HE.out.symm,A5,m + 1 + (n - m),cap5,hfin,by rw [Hin.out];exact Hsl6.out,hgA5,hkf⟩ | exact ⟨A5,m + 1 + (n - m),cap5,ret_int HE.out.symm,hfin,by rw [Hin.out];exact Hsl6.out,hgA5,hkf⟩
  · have hE1 : (E != 0) = true:=by simpa using hE0
    have Hin : Hid (insN L x = L):=(show _ = _ by unfold insN;rw [if_neg (by rw [HE.out];exact hE0)])
    have hkz : Keep [g] w w1:=(Keep.of_below hb01).mono (S':=[g]) (by simp);have Hsz:=Lib.hid hsw1;clear hE0 hsw1 hr1 hc1 hb01;(go_wp2_with fail);go_ret;exact ⟨A,n,cap,ret_int HE.out.symm,by rw [set_same hcs];exact hg1,by rw [Hin.out];exact Hsz.out,hgA,hkz⟩
set_option maxRecDepth 100000 in
set_option maxHeartbeats 2000000 in
theorem rsdel8 (d : Id32) (w : World) (g : Nat) (cs : Array Value) (A : Option Addr) (n cap : Nat) (G : List Id32) (hg : w.heap[g]? = some (.cells cs 69 (0,0))) (hcs : cs[9]? = some (.slice A n cap)) (hI : IdsW w A n cap G) (hgA : g ∉ blk A) (hr : Ris cmpId G) (hn : n ≤ 100000) :
    Calls Tryz.prog 149 #[.pointer (some ⟨g,8,none⟩),.agg (idC d)] w fun e w'=>∃ A' cap',e = .returned (.tuple #[]) ∧ w'.heap[g]? = some (.cells (cs.setIfInBounds 9 (.slice A' (insC cmpId G d).length cap')) 69 (0,0)) ∧ IdsW w' A' (insC cmpId G d).length cap' (insC cmpId G d) ∧ g ∉ blk A' ∧ Keep [g] w w':=by
  have hgl : g < w.heap.size:=(Array.getElem?_eq_some_iff.1 hg).1;have hb0 : Below w.heap.size w (w.alloc (.cells (idC d) 39)):=(Below.refl _ _).alloc (Nat.le_refl _) _;have hr0 : rowAt (w.alloc (.cells (idC d) 39)) w.heap.size 0 32 = some (idC d):=by simp [go_sem]
  go_enter Tryz.func149,Tryz.ntmps149
  go_upto_region 1 with fail
  obtain ⟨gx,hgx⟩ : ∃ gx,w.heap.size = gx:=⟨_,rfl⟩
  obtain ⟨W,hW⟩ : ∃ W,w.alloc (.cells (idC d) 39) = W:=⟨_,rfl⟩
  rw [hW] at hb0 hr0;rw [hW];rw [hgx] at hr0 ⊢;have Hgx:=Lib.hid hgx;have hgW:=(hb0.block g hgl).trans hg;have hcW : W.cell? ⟨g,9,none⟩ = some (.slice A n cap):=by rw [cell_of_row W g 9 _ _ _ hgW];exact hcs
  have hIW:=hI.below hb0;have c1:=rwith W.drew A n cap G d (hIW.below (bel_drew W)) (by omega) hr;clear hW hgx;refine wp_region_lexf (Kp [] W) false (by kernel_rfl) (by kernel_rfl) (by kernel_rfl) (by kernel_rfl) (kp_drew [] W) ?_;have hne:=kp_some [] W;have hS:=kp_drew [] W;have b1:=ksub_row hr0 (S:=[]) (by simp);have b2:=ksub_cell hcW (S:=[]) (by simp);repeat (refine wpLx_loose ?_ ?_;(focus (simp only [chainOp];done));intro K hK;go_simp;refine hK _ ?_;clear hK K)
  refine wpLx_chain ?_ ?_ ?_;(focus (exact hS));(focus (simp only [chainOp];done));intro K hK;go_simp;refine c1.mono ?_;rintro e w3 ⟨A',cap',rfl,hI3,hsub3,hb3⟩;have hb30 : Below W.heap.size W w3:=bel_next (bel_drew W) hb3;have hb3w:=bel2 hb0 hb30;refine ⟨_,rfl,(Keep.of_below hb30),hK _ _ ?_⟩;clear hK K;have hg3 : w3.heap[g]? = some (.cells cs 69 (0,0)):=(hb3w.block g hgl).trans hg;have hc3 : w3.cell? ⟨g,9,none⟩ = some (.slice A n cap):=by rw [cell_of_row w3 g 9 _ _ _ hg3];exact hcs
  have hf3 : w3.frozen? ⟨g,9,none⟩ = false:=by simp [World.frozen?,hg3]
  repeat (refine wpLx_loose ?_ ?_;(focus (simp only [chainOp];done));intro K hK;go_simp;refine hK _ ?_;clear hK K)
  refine wpLx_end ?_ ?_;(focus (simp only [chainOp];done));intro K hK;go_simp;refine hK _ _ ?_;clear hK K;have hfin:=heap_setCell_same hg3 9 (.slice A' (insC cmpId G d).length cap');have hks:=Keep.setCell w3 ⟨g,9,none⟩ (.slice A' (insC cmpId G d).length cap');have hgA3 : g ∉ blk A':=fun hx=>by
    rcases hsub3 g hx with h1 | h1
    · exact hgA h1
    · have h2:=hb0.size;have h3 : W.drew.heap.size = W.heap.size:=rfl;omega
  have hI4:=hI3.kept hks (fun x hx hm=>hgA3 (by simp at hm;rw [← hm];exact hx));have hkf : Keep [g] w (w3.setCell ⟨g,9,none⟩ (.slice A' (insC cmpId G d).length cap')):=Keep.trans ((Keep.of_below hb3w).mono (S':=[g]) (by simp)) hks (fun x hx=>.inl hx);clear hI3 hks hg3 hc3 hf3 b1 b2 hne hS c1;(go_wp2_with fail);go_end0;exact ⟨A',cap',rfl,hfin,hI4,hgA3,hkf⟩
end
section
open Go.RowKit
set_option maxRecDepth 100000 in
set_option maxHeartbeats 4000000 in
theorem rmset6 (xr : MRow) (B : Option Addr) (m mc : Nat) (T : List Id32) (w : World) (g : Nat) (cs : Array Value) (AX : Option Addr) (nX cX : Nat) (X : List MRow) (OA : Option Addr) (no oc : Nat) (G : List Id32)
    (hg : w.heap[g]? = some (.cells cs 69 (0,0))) (hcs : cs[6]? = some (.slice AX nX cX)) (hcs7 : cs[7]? = some (.slice OA no oc)) (h1w : MRowsIn w AX nX X) (f1 : AX = none → cX = 0) (hOw : TagsIn w OA no G) (hgO : g ∉ blk OA) (hBw : TagsIn w B m T) (hgB : g ∉ blk B)
    (hks : xr.key.size ≤ 16) (hvs : xr.val.size ≤ 16) (hn : nX ≤ 100000) (hno : no ≤ 100000) (hm : m ≤ 100000) :
    Calls Tryz.prog 147 #[.pointer (some ⟨g,6,none⟩),.agg (mRowC xr),.slice B m mc] w fun e w'=>∃ A3 cap3 A9 cap9,e = .returned (.int .i64 0) ∧ w'.heap[g]? = some (.cells ((cs.setIfInBounds 6 (.slice A3 (nX + 1) cap3)).setIfInBounds 7 (.slice A9 (sortC cmpId (G ++ T)).length cap9)) 69 (0,0)) ∧ Own w' w.heap.size 210 34 A3 (nX + 1) cap3 ((X ++ [xr]).map mRowC) ∧ IdsW w' A9 (sortC cmpId (G ++ T)).length cap9 (sortC cmpId (G ++ T)) ∧ (∀ x ∈ blk A9,w.heap.size ≤ x) ∧ Keep [g] w w':=by
  have hbW : Below w.heap.size w (w.alloc (.cells (mRowC xr) 210)):=(Below.refl _ _).alloc (Nat.le_refl _) _;have hgl : g < w.heap.size:=(Array.getElem?_eq_some_iff.1 hg).1;have hgx:=(hbW.block g hgl).trans hg;have h1:=SlR.below h1w hbW;have hO:=SlR.below hOw hbW;have hB:=SlR.below hBw hbW;have hrb : rowAt (w.alloc (.cells (mRowC xr) 210)) w.heap.size 0 34 = some (mRowC xr):=by simp [go_sem]
  have hWs : w.heap.size ≤ (w.alloc (.cells (mRowC xr) 210)).heap.size:=by simp
  go_enter Tryz.func147,Tryz.ntmps147
  go_upto_region 3 with fail
  obtain ⟨gx,hgxe⟩ : ∃ gx,w.heap.size = gx:=⟨_,rfl⟩
  obtain ⟨W,hW⟩ : ∃ W,w.alloc (.cells (mRowC xr) 210) = W:=⟨_,rfl⟩
  rw [hW] at hbW hgx h1 hO hB hrb hWs;rw [hW];have HW:=Lib.hid hWs;rw [hgxe] at hrb ⊢;have hgW : g < W.heap.size:=by omega
  have hc0 : W.cell? ⟨g,6,none⟩ = some (.slice AX nX cX):=by rw [cell_of_row W g 6 _ _ _ hgx];exact hcs
  have b1:=ksub_cell hc0 (S:=[]) (by simp);have b2:=ksub_row hrb (S:=[]) (by simp);clear hW hgxe hWs h1w hOw hBw hgl;refine wp_region_treef (.loose 0 (.loose 2 (.loose 3 (.loose 4 (.loose 5 (.loose 7 (.two 1 (.two 6 (.one 8 (.one 9 (.loose 10 (.loose 11 (.one 12 .done))))) 8 (.one 6 (.one 9 (.loose 10 (.loose 11 (.one 12 .done)))))) 8 (.one 1 (.one 6 (.one 9 (.loose 10 (.loose 11 (.one 12 .done))))))))))))) (Kp [] W) false (by kernel_rfl) (by kernel_rfl) (by kernel_rfl) (by kernel_rfl) (by kernel_rfl) (kp_drew [] W) ?_;have hne:=kp_some [] W;have hS:=kp_drew [] W;repeat (refine wpTx_loose rfl ?_ ?_;(focus (simp only [chainOp];done));intro K hK;go_simp;refine hK _ ?_;clear hK K)
  refine wpTx_two ?_ ?_
  ·
    refine wpTx_one ?_ rfl ?_ ?_;(focus (exact hS));(focus (simp only [chainOp];done));intro K hK;go_simp;refine step_keep (kp_alloc hS _) (fun hSn=>?_);refine hK _ _ ?_;clear hK K;replace hS:=hSn;clear hSn;refine wpTx_two ?_ ?_
    · have hs1 : SlR (W.drew.alloc (.cells #[] 210)) AX nX 34 (X.map mRowC):=h1.kept hS (by simp);refine Tx_rows einfoRM rfl rfl (Own.empty W.drew W.heap.size 210 34 (Nat.le_refl _)) rfl hs1 f1 (onesMR X) (by omega) (by omega) (by simp) ?_;intro A2 cap2 w2 hown2 hk2 hsub2;simp only [Nat.zero_add,List.nil_append] at hown2 ⊢;refine step_keep (Keep.trans hS hk2 (by simp [blk])) (fun hSn=>?_);replace hS:=hSn;clear hSn;refine wpTx_one ?_ rfl ?_ ?_;(focus (exact hS));(focus (simp only [chainOp];done));intro K hK;go_simp;refine step_keep (kp_alloc hS _) (fun hSn=>?_);refine hK _ _ ?_;clear hK K;replace hS:=hSn;clear hSn;have hba : Below w2.heap.size w2 (w2.alloc (.cells (mRowC xr) 210)):=(Below.refl _ _).alloc (Nat.le_refl _) _;have hown3:=hown2.below hba;have hrow3 : rowAt (w2.alloc (.cells (mRowC xr) 210)) w2.heap.size 0 34 = some (mRowC xr):=by simp [go_sem]
      have hsz:=hS.size;refine Tx_append einfoRM rfl rfl hown3 rfl hrow3 (mRowC_one _) (by omega) (by omega) hsz ?_;intro A3 cap3 w3 hown4 hk3 hsub3;refine step_keep (Keep.trans hS hk3 (fun x hx=>.inr ((hown2.at_base hx).1))) (fun hSn=>?_);replace hS:=hSn;clear hSn;repeat (refine wpTx_loose rfl ?_ ?_;(focus (simp only [chainOp];done));intro K hK;go_simp;refine hK _ ?_;clear hK K)
      have hg3 : w3.heap[g]? = some (.cells cs 69 (0,0)):=(hS.block g hgW (by simp)).trans hgx;have hc3 : w3.cell? ⟨g,6,none⟩ = some (.slice AX nX cX):=by rw [cell_of_row w3 g 6 _ _ _ hg3];exact hcs
      have hf3 : w3.frozen? ⟨g,6,none⟩ = false:=by simp [World.frozen?,hg3]
      refine wpTx_end rfl ?_ (by kernel_rfl) ?_;(focus (simp only [chainOp];done));intro K hK;go_simp;refine hK _ _ ?_;clear hK K;have hown5:=hown4.kept (Keep.setCell w3 ⟨g,6,none⟩ (.slice A3 (nX + 1) cap3)) (fun x hx=>by have:=(hown4.at_base hx).1;simp;omega);have hfin : (w3.setCell ⟨g,6,none⟩ (.slice A3 (nX + 1) cap3)).heap[g]? = some (.cells (cs.setIfInBounds 6 (.slice A3 (nX + 1) cap3)) 69 (0,0)):=heap_setCell_same hg3 6 _;have hrowsF : (X.map mRowC) ++ [mRowC xr] = (X ++ [xr]).map mRowC:=by simp
      have hown6 : Own (w3.setCell ⟨g,6,none⟩ (.slice A3 (nX + 1) cap3)) W.heap.size 210 34 A3 (nX + 1) cap3 ((X ++ [xr]).map mRowC):=by rw [← hrowsF];exact hown5
      have hkfin : Keep [g] W (w3.setCell ⟨g,6,none⟩ (.slice A3 (nX + 1) cap3)):=Keep.trans (hS.mono (S':=[g]) (by simp)) (Keep.setCell w3 ⟨g,6,none⟩ _) (by simp);clear hown5 hown4 hown2 hown3 hS hg3 hc3 hf3 hk3 hk2 hsub3 hsub2 hrowsF;have hb3 : Keep [g] w (w3.setCell ⟨g,6,none⟩ (.slice A3 (nX + 1) cap3)):=Keep.trans ((Keep.of_below hbW).mono (S':=[g]) (by simp)) hkfin (fun x hx=>.inl hx);obtain ⟨V,hV⟩ : ∃ V,w3.setCell ⟨g,6,none⟩ (.slice A3 (nX + 1) cap3) = V:=⟨_,rfl⟩
      rw [hV] at hfin hown6 hkfin hb3 ⊢;have hVO : TagsIn V OA no G:=hO.kept (hkfin) (fun x hx hm=>hgO (by simp at hm;subst hm;exact hx));have hVB : TagsIn V B m T:=hB.kept (hkfin) (fun x hx hm=>hgB (by simp at hm;subst hm;exact hx));have hcV : V.cell? ⟨g,7,none⟩ = some (.slice OA no oc):=by rw [cell_of_row V g 7 _ _ _ hfin];simp [hcs7]
      have Hown6:=Lib.hid hown6;clear hV hcs hO hB hgx hkfin hown6 hc0 hrb b1 b2 hbW hgW h1;have cb:=rboth V OA B no m oc mc G T hVO hVB (by omega) (by omega);(go_wp2_with fail);refine cb.mono ?_;rintro e w9 ⟨A9,cap9,rfl,hI9,hb9,hbel9⟩;have hg9 : w9.heap[g]? = some (.cells (cs.setIfInBounds 6 (.slice A3 (nX + 1) cap3)) 69 (0,0)):=(hbel9.block g (Array.getElem?_eq_some_iff.1 hfin).1).trans hfin;have hc9 : w9.cell? ⟨g,7,none⟩ = some (.slice OA no oc):=(hbel9.cell (p:=⟨g,7,none⟩) (World.block_lt_of_cell? V _ hcV)).trans hcV;have hf9 : w9.frozen? ⟨g,7,none⟩ = false:=by simp [World.frozen?,hg9]
      have hfinal:=heap_setCell_same hg9 7 (.slice A9 (sortC cmpId (G ++ T)).length cap9);have hks:=Keep.setCell w9 ⟨g,7,none⟩ (.slice A9 (sortC cmpId (G ++ T)).length cap9);have hgl : g < w.heap.size:=(Array.getElem?_eq_some_iff.1 hg).1;have hVs:=hb3.size;have hWs : w.heap.size ≤ W.heap.size:=HW.out;have hI10:=hI9.kept hks (fun x hx hm=>by have:=hb9 x hx;simp at hm;omega);have hR10:=((Hown6.out).below hbel9).kept hks (fun x hx hm=>by have:=(Hown6.out.at_base hx).1;simp at hm;omega);have hkf : Keep [g] w (w9.setCell ⟨g,7,none⟩ (.slice A9 (sortC cmpId (G ++ T)).length cap9)):=Keep.trans (Keep.trans hb3 (Keep.of_below hbel9) (by simp)) hks (fun x hx=>.inl hx);have hb9' : ∀ x ∈ blk A9,w.heap.size ≤ x:=fun x hx=>(by have:=hb9 x hx;omega);clear hI9 hb9 cb hVO hVB;(go_wp2_with fail);go_ret;exact ⟨A3,cap3,A9,cap9,rfl,hfinal,hR10.mono hWs,hI10,hb9',hkf⟩
    ·
      refine wpTx_one ?_ rfl ?_ ?_;(focus (exact hS));(focus (simp only [chainOp];done));intro K hK;go_simp;refine step_keep (kp_alloc hS _) (fun hSn=>?_);refine hK _ _ ?_;clear hK K;replace hS:=hSn;clear hSn;have hs1 : SlR ((W.drew.alloc (.cells #[] 210)).alloc (.cells (mRowC xr) 210)) AX nX 34 (X.map mRowC):=h1.kept hS (by simp);have hown0:=(Own.empty W.drew W.heap.size 210 34 (Nat.le_refl _)).below ((Below.refl _ _).alloc (Nat.le_refl _) (.cells (mRowC xr) 210));refine Tx_rows einfoRM rfl rfl hown0 rfl hs1 f1 (onesMR X) (by omega) (by omega) (by simp;omega) ?_;intro A2 cap2 w2 hown2 hk2 hsub2;simp only [Nat.zero_add,List.nil_append] at hown2 ⊢;refine step_keep (Keep.trans hS hk2 (by simp [blk])) (fun hSn=>?_);replace hS:=hSn;clear hSn;have hown3:=hown2;have hrow3 : rowAt w2 (W.heap.size + 1) 0 34 = some (mRowC xr):=(hk2.row (by simp) (by simp [blk]) 0 34).trans (by simp [go_sem]);have hsz:=hS.size;refine Tx_append einfoRM rfl rfl hown3 rfl hrow3 (mRowC_one _) (by omega) (by omega) hsz ?_;intro A3 cap3 w3 hown4 hk3 hsub3;refine step_keep (Keep.trans hS hk3 (fun x hx=>.inr ((hown2.at_base hx).1))) (fun hSn=>?_);replace hS:=hSn;clear hSn;repeat (refine wpTx_loose rfl ?_ ?_;(focus (simp only [chainOp];done));intro K hK;go_simp;refine hK _ ?_;clear hK K)
      have hg3 : w3.heap[g]? = some (.cells cs 69 (0,0)):=(hS.block g hgW (by simp)).trans hgx;have hc3 : w3.cell? ⟨g,6,none⟩ = some (.slice AX nX cX):=by rw [cell_of_row w3 g 6 _ _ _ hg3];exact hcs
      have hf3 : w3.frozen? ⟨g,6,none⟩ = false:=by simp [World.frozen?,hg3]
      refine wpTx_end rfl ?_ (by kernel_rfl) ?_;(focus (simp only [chainOp];done));intro K hK;go_simp;refine hK _ _ ?_;clear hK K;have hown5:=hown4.kept (Keep.setCell w3 ⟨g,6,none⟩ (.slice A3 (nX + 1) cap3)) (fun x hx=>by have:=(hown4.at_base hx).1;simp;omega);have hfin : (w3.setCell ⟨g,6,none⟩ (.slice A3 (nX + 1) cap3)).heap[g]? = some (.cells (cs.setIfInBounds 6 (.slice A3 (nX + 1) cap3)) 69 (0,0)):=heap_setCell_same hg3 6 _;have hrowsF : (X.map mRowC) ++ [mRowC xr] = (X ++ [xr]).map mRowC:=by simp
      have hown6 : Own (w3.setCell ⟨g,6,none⟩ (.slice A3 (nX + 1) cap3)) W.heap.size 210 34 A3 (nX + 1) cap3 ((X ++ [xr]).map mRowC):=by rw [← hrowsF];exact hown5
      have hkfin : Keep [g] W (w3.setCell ⟨g,6,none⟩ (.slice A3 (nX + 1) cap3)):=Keep.trans (hS.mono (S':=[g]) (by simp)) (Keep.setCell w3 ⟨g,6,none⟩ _) (by simp);clear hown5 hown4 hown2 hown3 hS hg3 hc3 hf3 hk3 hk2 hsub3 hsub2 hrowsF;have hb3 : Keep [g] w (w3.setCell ⟨g,6,none⟩ (.slice A3 (nX + 1) cap3)):=Keep.trans ((Keep.of_below hbW).mono (S':=[g]) (by simp)) hkfin (fun x hx=>.inl hx);obtain ⟨V,hV⟩ : ∃ V,w3.setCell ⟨g,6,none⟩ (.slice A3 (nX + 1) cap3) = V:=⟨_,rfl⟩
      rw [hV] at hfin hown6 hkfin hb3 ⊢;have hVO : TagsIn V OA no G:=hO.kept (hkfin) (fun x hx hm=>hgO (by simp at hm;subst hm;exact hx));have hVB : TagsIn V B m T:=hB.kept (hkfin) (fun x hx hm=>hgB (by simp at hm;subst hm;exact hx));have hcV : V.cell? ⟨g,7,none⟩ = some (.slice OA no oc):=by rw [cell_of_row V g 7 _ _ _ hfin];simp [hcs7]
      have Hown6:=Lib.hid hown6;clear hV hcs hO hB hgx hkfin hown6 hc0 hrb b1 b2 hbW hgW h1;have cb:=rboth V OA B no m oc mc G T hVO hVB (by omega) (by omega);(go_wp2_with fail);refine cb.mono ?_;rintro e w9 ⟨A9,cap9,rfl,hI9,hb9,hbel9⟩;have hg9 : w9.heap[g]? = some (.cells (cs.setIfInBounds 6 (.slice A3 (nX + 1) cap3)) 69 (0,0)):=(hbel9.block g (Array.getElem?_eq_some_iff.1 hfin).1).trans hfin;have hc9 : w9.cell? ⟨g,7,none⟩ = some (.slice OA no oc):=(hbel9.cell (p:=⟨g,7,none⟩) (World.block_lt_of_cell? V _ hcV)).trans hcV;have hf9 : w9.frozen? ⟨g,7,none⟩ = false:=by simp [World.frozen?,hg9]
      have hfinal:=heap_setCell_same hg9 7 (.slice A9 (sortC cmpId (G ++ T)).length cap9);have hks:=Keep.setCell w9 ⟨g,7,none⟩ (.slice A9 (sortC cmpId (G ++ T)).length cap9);have hgl : g < w.heap.size:=(Array.getElem?_eq_some_iff.1 hg).1;have hVs:=hb3.size;have hWs : w.heap.size ≤ W.heap.size:=HW.out;have hI10:=hI9.kept hks (fun x hx hm=>by have:=hb9 x hx;simp at hm;omega);have hR10:=((Hown6.out).below hbel9).kept hks (fun x hx hm=>by have:=(Hown6.out.at_base hx).1;simp at hm;omega);have hkf : Keep [g] w (w9.setCell ⟨g,7,none⟩ (.slice A9 (sortC cmpId (G ++ T)).length cap9)):=Keep.trans (Keep.trans hb3 (Keep.of_below hbel9) (by simp)) hks (fun x hx=>.inl hx);have hb9' : ∀ x ∈ blk A9,w.heap.size ≤ x:=fun x hx=>(by have:=hb9 x hx;omega);clear hI9 hb9 cb hVO hVB;(go_wp2_with fail);go_ret;exact ⟨A3,cap3,A9,cap9,rfl,hfinal,hR10.mono hWs,hI10,hb9',hkf⟩
  ·
    refine wpTx_one ?_ rfl ?_ ?_;(focus (exact hS));(focus (simp only [chainOp];done));intro K hK;go_simp;refine step_keep (kp_alloc hS _) (fun hSn=>?_);refine hK _ _ ?_;clear hK K;replace hS:=hSn;clear hSn;refine wpTx_one ?_ rfl ?_ ?_;(focus (exact hS));(focus (simp only [chainOp];done));intro K hK;go_simp;refine step_keep (kp_alloc hS _) (fun hSn=>?_);refine hK _ _ ?_;clear hK K;replace hS:=hSn;clear hSn;have hs1 : SlR ((W.drew.alloc (.cells (mRowC xr) 210)).alloc (.cells #[] 210)) AX nX 34 (X.map mRowC):=h1.kept hS (by simp);have hown0 : Own ((W.drew.alloc (.cells (mRowC xr) 210)).alloc (.cells #[] 210)) W.heap.size 210 34 (some ⟨W.heap.size + 1,0,none⟩) 0 0 []:=by
      have:=Own.empty (W.drew.alloc (.cells (mRowC xr) 210)) W.heap.size 210 34 (by simp);simpa using this
    refine Tx_rows einfoRM rfl rfl hown0 rfl hs1 f1 (onesMR X) (by omega) (by omega) (by simp;omega) ?_;intro A2 cap2 w2 hown2 hk2 hsub2;simp only [Nat.zero_add,List.nil_append] at hown2 ⊢;refine step_keep (Keep.trans hS hk2 (by simp [blk])) (fun hSn=>?_);replace hS:=hSn;clear hSn;have hown3:=hown2;have hrow3 : rowAt w2 W.heap.size 0 34 = some (mRowC xr):=(hk2.row (by simp;omega) (by simp [blk]) 0 34).trans (by simp [go_sem]);have hsz:=hS.size;refine Tx_append einfoRM rfl rfl hown3 rfl hrow3 (mRowC_one _) (by omega) (by omega) hsz ?_;intro A3 cap3 w3 hown4 hk3 hsub3;refine step_keep (Keep.trans hS hk3 (fun x hx=>.inr ((hown2.at_base hx).1))) (fun hSn=>?_);replace hS:=hSn;clear hSn;repeat (refine wpTx_loose rfl ?_ ?_;(focus (simp only [chainOp];done));intro K hK;go_simp;refine hK _ ?_;clear hK K)
    have hg3 : w3.heap[g]? = some (.cells cs 69 (0,0)):=(hS.block g hgW (by simp)).trans hgx;have hc3 : w3.cell? ⟨g,6,none⟩ = some (.slice AX nX cX):=by rw [cell_of_row w3 g 6 _ _ _ hg3];exact hcs
    have hf3 : w3.frozen? ⟨g,6,none⟩ = false:=by simp [World.frozen?,hg3]
    refine wpTx_end rfl ?_ (by kernel_rfl) ?_;(focus (simp only [chainOp];done));intro K hK;go_simp;refine hK _ _ ?_;clear hK K;have hown5:=hown4.kept (Keep.setCell w3 ⟨g,6,none⟩ (.slice A3 (nX + 1) cap3)) (fun x hx=>by have:=(hown4.at_base hx).1;simp;omega);have hfin : (w3.setCell ⟨g,6,none⟩ (.slice A3 (nX + 1) cap3)).heap[g]? = some (.cells (cs.setIfInBounds 6 (.slice A3 (nX + 1) cap3)) 69 (0,0)):=heap_setCell_same hg3 6 _;have hrowsF : (X.map mRowC) ++ [mRowC xr] = (X ++ [xr]).map mRowC:=by simp
    have hown6 : Own (w3.setCell ⟨g,6,none⟩ (.slice A3 (nX + 1) cap3)) W.heap.size 210 34 A3 (nX + 1) cap3 ((X ++ [xr]).map mRowC):=by rw [← hrowsF];exact hown5
    have hkfin : Keep [g] W (w3.setCell ⟨g,6,none⟩ (.slice A3 (nX + 1) cap3)):=Keep.trans (hS.mono (S':=[g]) (by simp)) (Keep.setCell w3 ⟨g,6,none⟩ _) (by simp);clear hown5 hown4 hown2 hown3 hS hg3 hc3 hf3 hk3 hk2 hsub3 hsub2 hrowsF;have hb3 : Keep [g] w (w3.setCell ⟨g,6,none⟩ (.slice A3 (nX + 1) cap3)):=Keep.trans ((Keep.of_below hbW).mono (S':=[g]) (by simp)) hkfin (fun x hx=>.inl hx);obtain ⟨V,hV⟩ : ∃ V,w3.setCell ⟨g,6,none⟩ (.slice A3 (nX + 1) cap3) = V:=⟨_,rfl⟩
    rw [hV] at hfin hown6 hkfin hb3 ⊢;have hVO : TagsIn V OA no G:=hO.kept (hkfin) (fun x hx hm=>hgO (by simp at hm;subst hm;exact hx));have hVB : TagsIn V B m T:=hB.kept (hkfin) (fun x hx hm=>hgB (by simp at hm;subst hm;exact hx));have hcV : V.cell? ⟨g,7,none⟩ = some (.slice OA no oc):=by rw [cell_of_row V g 7 _ _ _ hfin];simp [hcs7]
    have Hown6:=Lib.hid hown6;clear hV hcs hO hB hgx hkfin hown6 hc0 hrb b1 b2 hbW hgW h1;have cb:=rboth V OA B no m oc mc G T hVO hVB (by omega) (by omega);(go_wp2_with fail);refine cb.mono ?_;rintro e w9 ⟨A9,cap9,rfl,hI9,hb9,hbel9⟩;have hg9 : w9.heap[g]? = some (.cells (cs.setIfInBounds 6 (.slice A3 (nX + 1) cap3)) 69 (0,0)):=(hbel9.block g (Array.getElem?_eq_some_iff.1 hfin).1).trans hfin;have hc9 : w9.cell? ⟨g,7,none⟩ = some (.slice OA no oc):=(hbel9.cell (p:=⟨g,7,none⟩) (World.block_lt_of_cell? V _ hcV)).trans hcV;have hf9 : w9.frozen? ⟨g,7,none⟩ = false:=by simp [World.frozen?,hg9]
    have hfinal:=heap_setCell_same hg9 7 (.slice A9 (sortC cmpId (G ++ T)).length cap9);have hks:=Keep.setCell w9 ⟨g,7,none⟩ (.slice A9 (sortC cmpId (G ++ T)).length cap9);have hgl : g < w.heap.size:=(Array.getElem?_eq_some_iff.1 hg).1;have hVs:=hb3.size;have hWs : w.heap.size ≤ W.heap.size:=HW.out;have hI10:=hI9.kept hks (fun x hx hm=>by have:=hb9 x hx;simp at hm;omega);have hR10:=((Hown6.out).below hbel9).kept hks (fun x hx hm=>by have:=(Hown6.out.at_base hx).1;simp at hm;omega);have hkf : Keep [g] w (w9.setCell ⟨g,7,none⟩ (.slice A9 (sortC cmpId (G ++ T)).length cap9)):=Keep.trans (Keep.trans hb3 (Keep.of_below hbel9) (by simp)) hks (fun x hx=>.inl hx);have hb9' : ∀ x ∈ blk A9,w.heap.size ≤ x:=fun x hx=>(by have:=hb9 x hx;omega);clear hI9 hb9 cb hVO hVB;(go_wp2_with fail);go_ret;exact ⟨A3,cap3,A9,cap9,rfl,hfinal,hR10.mono hWs,hI10,hb9',hkf⟩
end
section
open Go.RowKit
set_option maxRecDepth 100000 in
set_option maxHeartbeats 2000000 in
theorem radd3 (d : Id32) (v : ByteArray) (w : World) (g : Nat) (cs : Array Value) (A : Option Addr) (n cap : Nat) (X : List BRow) (hg : w.heap[g]? = some (.cells cs 69 (0,0))) (hcs : cs[3]? = some (.slice A n cap)) (h1w : RowsIn w A n X) (f1 : A = none → cap = 0) (d1w : g ∉ blk A) (hv : v.size ≤ 16) (hX : X.length ≤ 100000) :
    Calls Tryz.prog 145 #[.pointer (some ⟨g,3,none⟩),.agg (idC d),.string v] w fun e w'=>∃ A' cap',e = .returned (.int .i64 0) ∧ w'.heap[g]? = some (.cells (cs.setIfInBounds 3 (.slice A' (n + 1) cap')) 69 (0,0)) ∧ Own w' w.heap.size 218 33 A' (n + 1) cap' ((X ++ [(⟨d,v⟩ : BRow)]).map bRowC) ∧ Keep [g] w w':=by
  have hb0 : Below w.heap.size w (w.alloc (.cells (idC d) 39)):=(Below.refl _ _).alloc (Nat.le_refl _) _;have hgl : g < w.heap.size:=(Array.getElem?_eq_some_iff.1 hg).1;have hgx:=(hb0.block g hgl).trans hg;have h1 : RowsIn _ A n X:=SlR.below h1w hb0;have hd0 : rowAt (w.alloc (.cells (idC d) 39)) w.heap.size 0 32 = some (idC d):=by simp [go_sem]
  go_enter Tryz.func145,Tryz.ntmps145
  go_upto_region 3 with fail
  obtain ⟨W,hW⟩ : ∃ W,W = w.alloc (.cells (idC d) 39):=⟨_,rfl⟩
  rw [← hW] at hgx h1 hd0 hb0 ⊢;clear hW;have hn:=h1.len;have Hn:=Lib.hid hn;have hnb : n ≤ 100000:=by omega
  clear hn;have hc0 : W.cell? ⟨g,3,none⟩ = some (.slice A n cap):=by rw [cell_of_row W g 3 _ _ _ hgx];exact hcs
  have hgW : g < W.heap.size:=by have:=hb0.size;omega
  refine wp_region_treef (.loose 0 (.loose 2 (.loose 3 (.loose 4 (.loose 5 (.loose 7 (.loose 8 (.loose 9 (.two 1 (.two 6 (.one 10 (.one 11 (.loose 12 (.loose 13 (.one 14 .done))))) 10 (.one 6 (.one 11 (.loose 12 (.loose 13 (.one 14 .done)))))) 10 (.one 1 (.one 6 (.one 11 (.loose 12 (.loose 13 (.one 14 .done))))))))))))))) (Kp [] W) false (by kernel_rfl) (by kernel_rfl) (by kernel_rfl) (by kernel_rfl) (by kernel_rfl) (kp_drew [] W) ?_;have hne:=kp_some [] W;have hS:=kp_drew [] W;have b1:=ksub_cell hc0 (S:=[]) (by simp);have b2:=ksub_row hd0 (S:=[]) (by simp);repeat (refine wpTx_loose rfl ?_ ?_;(focus (simp only [chainOp];done));intro K hK;go_simp;refine hK _ ?_;clear hK K)
  refine wpTx_two ?_ ?_
  ·
    refine wpTx_one ?_ rfl ?_ ?_;(focus (exact hS));(focus (simp only [chainOp];done));intro K hK;go_simp;refine step_keep (kp_alloc hS _) (fun hSn=>?_);refine hK _ _ ?_;clear hK K;replace hS:=hSn;clear hSn;refine wpTx_two ?_ ?_
    · have hs1 : RowsIn (W.drew.alloc (.cells #[] 218)) A n X:=h1.kept hS (by simp);refine Tx_rows einfoRRow rfl rfl (Own.empty W.drew W.heap.size 218 33 (Nat.le_refl _)) rfl hs1 f1 (onesR X) (by omega) (by omega) (by simp) ?_;intro A2 cap2 w2 hown2 hk2 hsub2;simp only [Nat.zero_add,List.nil_append] at hown2 ⊢;refine step_keep (Keep.trans hS hk2 (by simp [blk])) (fun hSn=>?_);replace hS:=hSn;clear hSn;refine wpTx_one ?_ rfl ?_ ?_;(focus (exact hS));(focus (simp only [chainOp];done));intro K hK;go_simp;refine step_keep (kp_alloc hS _) (fun hSn=>?_);refine hK _ _ ?_;clear hK K;replace hS:=hSn;clear hSn;have hba : Below w2.heap.size w2 (w2.alloc (.cells (bRowC ⟨d,v⟩) 218)):=(Below.refl _ _).alloc (Nat.le_refl _) _;have hown3:=hown2.below hba;have hrow3 : rowAt (w2.alloc (.cells (bRowC ⟨d,v⟩) 218)) w2.heap.size 0 33 = some (bRowC ⟨d,v⟩):=by simp [go_sem]
      have hsz:=hS.size;refine Tx_append einfoRRow rfl rfl hown3 rfl hrow3 (bRowC_one _) (by omega) (by omega) hsz ?_;intro A3 cap3 w3 hown4 hk3 hsub3;refine step_keep (Keep.trans hS hk3 (fun x hx=>.inr ((hown2.at_base hx).1))) (fun hSn=>?_);replace hS:=hSn;clear hSn;repeat (refine wpTx_loose rfl ?_ ?_;(focus (simp only [chainOp];done));intro K hK;go_simp;refine hK _ ?_;clear hK K)
      have hg3 : w3.heap[g]? = some (.cells cs 69 (0,0)):=(hS.block g hgW (by simp)).trans hgx;have hc3 : w3.cell? ⟨g,3,none⟩ = some (.slice A n cap):=by rw [cell_of_row w3 g 3 _ _ _ hg3];exact hcs
      have hf3 : w3.frozen? ⟨g,3,none⟩ = false:=by simp [World.frozen?,hg3]
      refine wpTx_end rfl ?_ (by kernel_rfl) ?_;(focus (simp only [chainOp];done));intro K hK;go_simp;refine hK _ _ ?_;clear hK K;have hown5:=hown4.kept (Keep.setCell w3 ⟨g,3,none⟩ (.slice A3 (n + 1) cap3)) (fun x hx=>by have:=(hown4.at_base hx).1;simp;omega);have hfin : (w3.setCell ⟨g,3,none⟩ (.slice A3 (n + 1) cap3)).heap[g]? = some (.cells (cs.setIfInBounds 3 (.slice A3 (n + 1) cap3)) 69 (0,0)):=heap_setCell_same hg3 3 _;have hown6:=hown5.mono (show w.heap.size ≤ W.heap.size from hb0.size);have hkfin : Keep [g] w (w3.setCell ⟨g,3,none⟩ (.slice A3 (n + 1) cap3)):=Keep.trans ((Keep.trans (Keep.of_below hb0) hS (by simp)).mono (S':=[g]) (by simp)) (Keep.setCell w3 ⟨g,3,none⟩ _) (by simp);clear hown5 hown4 hown2 hown3 hS hg3 hc3 hf3 hk3 hk2 hsub3 hsub2;(go_wp2_with fail);go_ret;exact ⟨A3,cap3,rfl,hfin,by simpa using hown6,hkfin⟩
    ·
      refine wpTx_one ?_ rfl ?_ ?_;(focus (exact hS));(focus (simp only [chainOp];done));intro K hK;go_simp;refine step_keep (kp_alloc hS _) (fun hSn=>?_);refine hK _ _ ?_;clear hK K;replace hS:=hSn;clear hSn;have hs1 : RowsIn ((W.drew.alloc (.cells #[] 218)).alloc (.cells (bRowC ⟨d,v⟩) 218)) A n X:=h1.kept hS (by simp);have hown0:=(Own.empty W.drew W.heap.size 218 33 (Nat.le_refl _)).below ((Below.refl _ _).alloc (Nat.le_refl _) (.cells (bRowC ⟨d,v⟩) 218));refine Tx_rows einfoRRow rfl rfl hown0 rfl hs1 f1 (onesR X) (by omega) (by omega) (by simp;omega) ?_;intro A2 cap2 w2 hown2 hk2 hsub2;simp only [Nat.zero_add,List.nil_append] at hown2 ⊢;refine step_keep (Keep.trans hS hk2 (by simp [blk])) (fun hSn=>?_);replace hS:=hSn;clear hSn;have hown3:=hown2;have hrow3 : rowAt w2 (W.heap.size + 1) 0 33 = some (bRowC ⟨d,v⟩):=(hk2.row (by simp) (by simp [blk]) 0 33).trans (by simp [go_sem]);have hsz:=hS.size;refine Tx_append einfoRRow rfl rfl hown3 rfl hrow3 (bRowC_one _) (by omega) (by omega) hsz ?_;intro A3 cap3 w3 hown4 hk3 hsub3;refine step_keep (Keep.trans hS hk3 (fun x hx=>.inr ((hown2.at_base hx).1))) (fun hSn=>?_);replace hS:=hSn;clear hSn;repeat (refine wpTx_loose rfl ?_ ?_;(focus (simp only [chainOp];done));intro K hK;go_simp;refine hK _ ?_;clear hK K)
      have hg3 : w3.heap[g]? = some (.cells cs 69 (0,0)):=(hS.block g hgW (by simp)).trans hgx;have hc3 : w3.cell? ⟨g,3,none⟩ = some (.slice A n cap):=by rw [cell_of_row w3 g 3 _ _ _ hg3];exact hcs
      have hf3 : w3.frozen? ⟨g,3,none⟩ = false:=by simp [World.frozen?,hg3]
      refine wpTx_end rfl ?_ (by kernel_rfl) ?_;(focus (simp only [chainOp];done));intro K hK;go_simp;refine hK _ _ ?_;clear hK K;have hown5:=hown4.kept (Keep.setCell w3 ⟨g,3,none⟩ (.slice A3 (n + 1) cap3)) (fun x hx=>by have:=(hown4.at_base hx).1;simp;omega);have hfin : (w3.setCell ⟨g,3,none⟩ (.slice A3 (n + 1) cap3)).heap[g]? = some (.cells (cs.setIfInBounds 3 (.slice A3 (n + 1) cap3)) 69 (0,0)):=heap_setCell_same hg3 3 _;have hown6:=hown5.mono (show w.heap.size ≤ W.heap.size from hb0.size);have hkfin : Keep [g] w (w3.setCell ⟨g,3,none⟩ (.slice A3 (n + 1) cap3)):=Keep.trans ((Keep.trans (Keep.of_below hb0) hS (by simp)).mono (S':=[g]) (by simp)) (Keep.setCell w3 ⟨g,3,none⟩ _) (by simp);clear hown5 hown4 hown2 hown3 hS hg3 hc3 hf3 hk3 hk2 hsub3 hsub2;(go_wp2_with fail);go_ret;exact ⟨A3,cap3,rfl,hfin,by simpa using hown6,hkfin⟩
  ·
    refine wpTx_one ?_ rfl ?_ ?_;(focus (exact hS));(focus (simp only [chainOp];done));intro K hK;go_simp;refine step_keep (kp_alloc hS _) (fun hSn=>?_);refine hK _ _ ?_;clear hK K;replace hS:=hSn;clear hSn;refine wpTx_one ?_ rfl ?_ ?_;(focus (exact hS));(focus (simp only [chainOp];done));intro K hK;go_simp;refine step_keep (kp_alloc hS _) (fun hSn=>?_);refine hK _ _ ?_;clear hK K;replace hS:=hSn;clear hSn;have hs1 : RowsIn ((W.drew.alloc (.cells (bRowC ⟨d,v⟩) 218)).alloc (.cells #[] 218)) A n X:=h1.kept hS (by simp);have hown0 : Own ((W.drew.alloc (.cells (bRowC ⟨d,v⟩) 218)).alloc (.cells #[] 218)) W.heap.size 218 33 (some ⟨W.heap.size + 1,0,none⟩) 0 0 []:=by
      have:=Own.empty (W.drew.alloc (.cells (bRowC ⟨d,v⟩) 218)) W.heap.size 218 33 (by simp);simpa using this
    refine Tx_rows einfoRRow rfl rfl hown0 rfl hs1 f1 (onesR X) (by omega) (by omega) (by simp;omega) ?_;intro A2 cap2 w2 hown2 hk2 hsub2;simp only [Nat.zero_add,List.nil_append] at hown2 ⊢;refine step_keep (Keep.trans hS hk2 (by simp [blk])) (fun hSn=>?_);replace hS:=hSn;clear hSn;have hown3:=hown2;have hrow3 : rowAt w2 W.heap.size 0 33 = some (bRowC ⟨d,v⟩):=(hk2.row (by simp;omega) (by simp [blk]) 0 33).trans (by simp [go_sem]);have hsz:=hS.size;refine Tx_append einfoRRow rfl rfl hown3 rfl hrow3 (bRowC_one _) (by omega) (by omega) hsz ?_;intro A3 cap3 w3 hown4 hk3 hsub3;refine step_keep (Keep.trans hS hk3 (fun x hx=>.inr ((hown2.at_base hx).1))) (fun hSn=>?_);replace hS:=hSn;clear hSn;repeat (refine wpTx_loose rfl ?_ ?_;(focus (simp only [chainOp];done));intro K hK;go_simp;refine hK _ ?_;clear hK K)
    have hg3 : w3.heap[g]? = some (.cells cs 69 (0,0)):=(hS.block g hgW (by simp)).trans hgx;have hc3 : w3.cell? ⟨g,3,none⟩ = some (.slice A n cap):=by rw [cell_of_row w3 g 3 _ _ _ hg3];exact hcs
    have hf3 : w3.frozen? ⟨g,3,none⟩ = false:=by simp [World.frozen?,hg3]
    refine wpTx_end rfl ?_ (by kernel_rfl) ?_;(focus (simp only [chainOp];done));intro K hK;go_simp;refine hK _ _ ?_;clear hK K;have hown5:=hown4.kept (Keep.setCell w3 ⟨g,3,none⟩ (.slice A3 (n + 1) cap3)) (fun x hx=>by have:=(hown4.at_base hx).1;simp;omega);have hfin : (w3.setCell ⟨g,3,none⟩ (.slice A3 (n + 1) cap3)).heap[g]? = some (.cells (cs.setIfInBounds 3 (.slice A3 (n + 1) cap3)) 69 (0,0)):=heap_setCell_same hg3 3 _;have hown6:=hown5.mono (show w.heap.size ≤ W.heap.size from hb0.size);have hkfin : Keep [g] w (w3.setCell ⟨g,3,none⟩ (.slice A3 (n + 1) cap3)):=Keep.trans ((Keep.trans (Keep.of_below hb0) hS (by simp)).mono (S':=[g]) (by simp)) (Keep.setCell w3 ⟨g,3,none⟩ _) (by simp);clear hown5 hown4 hown2 hown3 hS hg3 hc3 hf3 hk3 hk2 hsub3 hsub2;(go_wp2_with fail);go_ret;exact ⟨A3,cap3,rfl,hfin,by simpa using hown6,hkfin⟩
set_option maxRecDepth 100000 in
set_option maxHeartbeats 2000000 in
theorem rrem3 (v : ByteArray) (B : Option Addr) (m c : Nat) (T : List Id32) (w : World) (g : Nat) (cs : Array Value) (A' : Option Addr) (n' cap' : Nat) (G : List BRow) (hg : w.heap[g]? = some (.cells cs 69 (0,0))) (hcs : cs[4]? = some (.slice A' n' cap')) (h2 : RowsIn w A' n' G) (f2 : A' = none → cap' = 0) (hT : TagsIn w B m T) (hv : v.size ≤ 16) (hG : G.length ≤ 100000) (hm : m ≤ 100000) :
    Calls Tryz.prog 146 #[.pointer (some ⟨g,3,none⟩),.string v,.slice B m c] w fun e w'=>∃ A3 cap3,e = .returned (.int .i64 0) ∧ w'.heap[g]? = some (.cells (cs.setIfInBounds 4 (.slice A3 (n' + m) cap3)) 69 (0,0)) ∧ Own w' w.heap.size 218 33 A3 (n' + m) cap3 ((G ++ T.map fun t=>(⟨t,v⟩ : BRow)).map bRowC) ∧ Keep [g] w w':=by
  have hgl : g < w.heap.size:=(Array.getElem?_eq_some_iff.1 hg).1;have hn:=h2.len;have Hn:=Lib.hid hn;have hnb : n' ≤ 100000:=by omega
  have hTl:=hT.len;have HT:=Lib.hid hTl;clear hn hTl;have hc1 : w.cell? ⟨g,4,none⟩ = some (.slice A' n' cap'):=by rw [cell_of_row w g 4 _ _ _ hg];exact hcs
  have hb0 : Below w.heap.size w (w.alloc (.cells #[] 218)):=(Below.refl _ _).alloc (Nat.le_refl _) _;have hown0:=Own.empty w w.heap.size 218 33 (Nat.le_refl _);have hs1 : RowsIn (w.alloc (.cells #[] 218)) A' n' G:=SlR.below h2 hb0;go_enter Tryz.func146,Tryz.ntmps146
  go_upto_region 4 with (at_builtin;refine L_appends einfoRRow rfl hown0 rfl hs1 f2 (onesR G) (by omega) (by omega) (by simp) ?_;intro A2 cap2 w2 hown2 hk2 hsub2)
  simp only [Nat.zero_add,List.nil_append] at hown2;have hb2 : Below w.heap.size w w2:=hb0.trans (hk2.below (by simp) (by simp [blk]));clear hown0 hs1 hk2 hsub2 hc1;(go_wp2_with fail);go_loopw [7,8] (fun l i wr=>∃ (k : Nat) (A3 : Option Addr) (cap3 : Nat),k ≤ m ∧ i = .int .i64 k ∧ l = .slice A3 (n' + k) cap3 ∧ Own wr w.heap.size 218 33 A3 (n' + k) cap3 ((G ++ (T.take k).map fun t=>(⟨t,v⟩ : BRow)).map bRowC) ∧ Below w.heap.size w wr) (fun _ i _=>m - (intOf i).toNat)
  case atStart=>exact ⟨0,A2,cap2,Nat.zero_le _,rfl,rfl,by simpa using hown2,hb2⟩
  case round =>
    obtain ⟨k,A3,cap3,hk,rfl,rfl,hown,hb⟩:=hrel;by_cases hlt : k < m
    · obtain ⟨q,o,rfl,hr⟩:=TagsIn.get (SlR.below hT hb) hlt (by rw [HT.out];exact hlt);have htk : T.take (k + 1) = T.take k ++ [T[k]'(by rw [HT.out];exact hlt)]:=by rw [List.take_add_one,List.getElem?_eq_getElem (by rw [HT.out];exact hlt)];rfl
      obtain ⟨d,hd⟩ : ∃ d,T[k]'(by rw [HT.out];exact hlt) = d:=⟨_,rfl⟩
      rw [hd] at hr htk;have hrows : (G ++ (T.take (k + 1)).map fun t=>(⟨t,v⟩ : BRow)).map bRowC = (G ++ (T.take k).map fun t=>(⟨t,v⟩ : BRow)).map bRowC ++ [bRowC ⟨d,v⟩]:=by rw [htk];simp
      have Hrows:=Lib.hid hrows;clear hd htk hrows;have hsz:=hb.size;have hbx : Below wr.heap.size wr (wr.alloc (.cells (bRowC ⟨d,v⟩) 218)):=(Below.refl _ _).alloc (Nat.le_refl _) _;have hown3:=hown.below hbx;have hrow3 : rowAt (wr.alloc (.cells (bRowC ⟨d,v⟩) 218)) wr.heap.size 0 33 = some (bRowC ⟨d,v⟩):=by simp [go_sem]
      go_wp2_with (at_builtin;refine L_append einfoRRow rfl hown3 rfl hrow3 (bRowC_one _) (by omega) (by omega) (by simp;omega) ?_;intro A4 cap4 w4 hownA hkA hsubA)
      have hbA : Below w.heap.size w w4:=hb.trans ((hbx.mono hsz).trans (hkA.below (B:=w.heap.size) (by simp;omega) fun y hy=>(hown.at_base hy).1));(go_wp2_with fail);go_roundw
      case rel=>exact ⟨k + 1,A4,cap4,by omega,by go_num,by rw [Nat.add_assoc],by rw [Hrows.out,← Nat.add_assoc];exact hownA,hbA⟩
      case measure=>simp [intOf];omega
    · have hkm : k = m:=by omega
      subst hkm;have hkt : T.take k = T:=List.take_of_length_le (by rw [HT.out];omega);rw [hkt] at hown;have hg3 : wr.heap[g]? = some (.cells cs 69 (0,0)):=(hb.block g hgl).trans hg;have hc3 : wr.cell? ⟨g,4,none⟩ = some (.slice A' n' cap'):=by rw [cell_of_row wr g 4 _ _ _ hg3];exact hcs
      have hf3 : wr.frozen? ⟨g,4,none⟩ = false:=by simp [World.frozen?,hg3]
      have hown5:=hown.kept (Keep.setCell wr ⟨g,4,none⟩ (.slice A3 (n' + k) cap3)) (fun x hx=>by have:=(hown.at_base hx).1;simp;omega);have hkb : Keep [] w wr:=Keep.of_below hb;have hfin : (wr.setCell ⟨g,4,none⟩ (.slice A3 (n' + k) cap3)).heap[g]? = some (.cells (cs.setIfInBounds 4 (.slice A3 (n' + k) cap3)) 69 (0,0)):=heap_setCell_same hg3 4 _;have hkfin : Keep [g] w (wr.setCell ⟨g,4,none⟩ (.slice A3 (n' + k) cap3)):=Keep.trans (hkb.mono (S':=[g]) (by simp)) (Keep.setCell wr ⟨g,4,none⟩ _) (by simp);clear hown hkt hown2;(go_wp2_with fail);go_ret;exact ⟨A3,cap3,rfl,hfin,hown5,hkfin⟩
end
section
open Go.RowKit
abbrev OwnW (w : World) (B : Nat) (A : Option Addr) (cap : Nat) (R : List ByteArray) : Prop:=Own w B 98 2 A R.length cap (R.map pairW)
theorem OwnW.get {w : World} {A : Option Addr} {n : Nat} {R : List ByteArray} (h : SlR w A n 2 (R.map pairW)) {i : Nat} (hi : i < n) (hR : i < R.length) :
    ∃ g o,A = some ⟨g,o,none⟩ ∧ w.cell? ⟨g,o + i * 2,none⟩ = some (.string R[i]):=by
  obtain ⟨g,o,e,hr⟩:=SlR.at_ h hi;rw [List.getElem_map] at hr;refine ⟨g,o,e,?_⟩;have:=rowAt_cell hr (j:=0) (by omega);unfold pairW at this
  rwa [pairC_g0] at this
end
section
open Go.RowKit
def RefI3 (w : World) (g : Nat) (X G : List BRow) : Prop :=
  ∃ A n cap A' n' cap',w.cell? ⟨g,3,none⟩ = some (.slice A n cap) ∧ w.cell? ⟨g,4,none⟩ = some (.slice A' n' cap') ∧ RowsIn w A n X ∧ RowsIn w A' n' G
set_option maxRecDepth 100000 in
set_option maxHeartbeats 2000000 in
theorem rlive3 (w : World) (g : Nat) (X G : List BRow) (h : RefI3 w g X G) (hX : X.length ≤ 100000) (hG : G.length ≤ 100000) :
    Calls Tryz.prog 150 #[.pointer (some ⟨g,3,none⟩)] w fun e w'=>∃ A cap,e = .returned (.slice A (liveR X G).length cap) ∧ OwnR w' w.heap.size A cap (liveR X G) ∧ Below w.heap.size w w':=by
  obtain ⟨A,n,cap,A',n',cap',hc0,hc9,h1,h2⟩:=h;have hn:=h1.len;have hn':=h2.len;have hsl : (sortC cmpRow X).length ≤ 100000:=Nat.le_trans (sortC_length X) hX;have c1:=rsorted w A n cap X h1 (by omega);have hlv : liveR X G = (sortC cmpRow X).filter fun x=>decide (x ∉ G):=rfl;obtain ⟨Z,hZ⟩ : ∃ Z,sortC cmpRow X = Z:=⟨_,rfl⟩
  rw [hZ] at c1 hsl hlv;have Hlv:=Lib.hid hlv;have Hn':=Lib.hid hn';have hnb : n' ≤ 100000:=by omega
  clear hlv hZ hn hn';go_enter Tryz.func150,Tryz.ntmps150
  (go_wp2_with fail);refine c1.mono ?_;rintro e w1 ⟨ZA,zc,rfl,hownZ,hb1⟩;have hslZ : RowsIn w1 ZA Z.length Z:=hownZ.slr;have hc8 : w1.cell? ⟨g,4,none⟩ = some (.slice A' n' cap'):=(hb1.cell (p:=⟨g,4,none⟩) (World.block_lt_of_cell? w _ hc9)).trans hc9;have hG1 : RowsIn w1 A' n' G:=SlR.below h2 hb1;clear hownZ c1 hc0 hc9;(go_wp2_with fail);go_loopw [3,5] (fun out i wr=>∃ (k : Nat) (A1 : Option Addr) (cap1 : Nat),k ≤ Z.length ∧ i = .int .i64 k ∧ out = .slice A1 ((Z.take k).filter fun x=>decide (x ∉ G)).length cap1 ∧ OwnR wr w1.heap.size A1 cap1 ((Z.take k).filter fun x=>decide (x ∉ G)) ∧ Below w1.heap.size w1 wr) (fun _ i _=>Z.length - (intOf i).toNat)
  case atStart=>exact ⟨0,none,0,Nat.zero_le _,rfl,rfl,Own.nil _ _ _ _,Below.refl _ _⟩
  case round =>
    obtain ⟨k,A1,cap1,hk,rfl,rfl,hown,hb⟩:=hrel;by_cases hlt : k < Z.length
    · obtain ⟨q,o,rfl,hr,_,_⟩:=RowsIn.get (SlR.below hslZ hb) hlt hlt;have hc1 : wr.cell? ⟨g,4,none⟩ = some (.slice A' n' cap'):=(hb.cell (p:=⟨g,4,none⟩) (World.block_lt_of_cell? w1 _ hc8)).trans hc8;have hGr : RowsIn wr A' n' G:=SlR.below hG1 hb;have htk:=filter_take (fun x=>decide (x ∉ G)) Z k hlt;have hfl : ((Z.take k).filter fun x=>decide (x ∉ G)).length ≤ 100000:=by
        have:=List.length_filter_le (fun x=>decide (x ∉ G)) (Z.take k);rw [List.length_take] at this;omega
      obtain ⟨x,hx⟩ : ∃ x,Z[k]'hlt = x:=⟨_,rfl⟩
      rw [hx] at hr htk;obtain ⟨F,hF⟩ : ∃ F,(Z.take k).filter (fun x=>decide (x ∉ G)) = F:=⟨_,rfl⟩
      rw [hF] at hown hfl htk ⊢;have HF:=Lib.hid hF;clear hx hF;have hsz:=hb.size;have c2:=rin wr.drew A' n' cap' G x hGr (by omega);by_cases hin : x ∈ G
      · rw [decide_eq_true hin] at c2;rw [if_neg (by simp [hin])] at htk;have Htk:=Lib.hid htk;clear htk hin;go_upto_region 6 with fail
        refine wp_region_lex (Bel wr) false (by kernel_rfl) (by kernel_rfl) (by kernel_rfl) (bel_drew wr) ?_;have hne:=bel_some wr;have hS:=bel_drew wr;have b1:=sub_row hr;have b2:=sub_cell hc1;repeat (refine wpLx_loose ?_ ?_;(focus (simp only [chainOp];done));intro K hK;go_simp;refine hK _ ?_;clear hK K)
        refine wpLx_chain ?_ ?_ ?_;(focus (exact hS));(focus (simp only [chainOp];done));intro K hK;go_simp;refine (c2).mono ?_;rintro e w' ⟨rfl,hb⟩;replace hS:=bel_next hS hb;refine ⟨_,rfl,hS,hK _ _ ?_⟩;clear hK K hb;repeat (refine wpLx_loose ?_ ?_;(focus (simp only [chainOp];done));intro K hK;go_simp;refine hK _ ?_;clear hK K)
        refine wpLx_nil ?_;intro hS;have hS' : Below wr.heap.size wr w':=hS;have hbz:=bel2 hb hS';have hown1:=hown.below hS';clear b1 b2 hne hS c2 hr hc1 hown;(go_wp2_with fail);go_roundw
        case rel=>exact ⟨k + 1,A1,cap1,by omega,by go_num,by rw [Htk.out],by rw [Htk.out];exact hown1,hbz⟩
        case measure=>simp [intOf];omega
      · rw [decide_eq_false hin] at c2;rw [if_pos (by simp [hin])] at htk;have Htk:=Lib.hid htk;clear htk hin;go_upto_region 6 with fail
        refine wp_region_lex (Bel wr) false (by kernel_rfl) (by kernel_rfl) (by kernel_rfl) (bel_drew wr) ?_;have hne:=bel_some wr;have hS:=bel_drew wr;have b1:=sub_row hr;have b2:=sub_cell hc1;repeat (refine wpLx_loose ?_ ?_;(focus (simp only [chainOp];done));intro K hK;go_simp;refine hK _ ?_;clear hK K)
        refine wpLx_chain ?_ ?_ ?_;(focus (exact hS));(focus (simp only [chainOp];done));intro K hK;go_simp;refine (c2).mono ?_;rintro e w' ⟨rfl,hb⟩;replace hS:=bel_next hS hb;refine ⟨_,rfl,hS,hK _ _ ?_⟩;clear hK K hb;repeat (refine wpLx_loose ?_ ?_;(focus (simp only [chainOp];done));intro K hK;go_simp;refine hK _ ?_;clear hK K)
        refine wpLx_nil ?_;intro hS;have hS' : Below wr.heap.size wr w':=hS;have hbz:=bel2 hb hS';have hown1:=hown.below hS';have hr' : rowAt w' q (o + k * 33) 33 = some (bRowC x):=(rowAt_of_block (hS'.block q (rowAt_lt hr)) _ _).trans hr;have hsz':=hS'.size;clear b1 b2 hne hS c2 hr hc1 hown;have hbx : Below w'.heap.size w' (w'.alloc (.cells (bRowC x) 218)):=(Below.refl _ _).alloc (Nat.le_refl _) _;have hown2:=hown1.below hbx;have hrow2 : rowAt (w'.alloc (.cells (bRowC x) 218)) w'.heap.size 0 33 = some (bRowC x):=by simp [go_sem]
        go_wp2_with (at_builtin;refine L_append einfoRRow rfl hown2 rfl hrow2 (bRowC_one _) (by omega) (by omega) (by simp;omega) ?_;intro A2 cap2 w2 hownA hkA hsubA)
        have hbA : Below w1.heap.size w1 w2:=hbz.trans ((hbx.mono (by omega)).trans (hkA.below (B:=w1.heap.size) (by simp;omega) fun y hy=>(hown1.at_base hy).1));(go_wp2_with fail);go_roundw
        case rel=>exact ⟨k + 1,A2,cap2,by omega,by go_num,by rw [Htk.out];simp,by rw [Htk.out];show Own _ _ _ _ _ _ _ _;rw [List.map_append,List.length_append];exact hownA,hbA⟩
        case measure=>simp [intOf];omega
    · have hke : Z.take k = Z:=List.take_of_length_le (by omega);rw [hke,← Hlv.out] at hown ⊢;clear hke;obtain ⟨F,hF⟩ : ∃ F,liveR X G = F:=⟨_,rfl⟩
      rw [hF] at hown ⊢;have HF:=Lib.hid hF;clear hF;(go_wp2_with fail);go_ret;exact ⟨A1,cap1,by rw [HF.out];rfl,by rw [HF.out];exact hown.mono hb1.size,bel2 hb1 hb⟩
set_option maxRecDepth 100000 in
set_option maxHeartbeats 4000000 in
theorem rlist3 (w : World) (g : Nat) (X G : List BRow) (h : RefI3 w g X G) (hX : X.length ≤ 100000) (hG : G.length ≤ 100000) :
    Calls Tryz.prog 74 #[.pointer (some ⟨g,3,none⟩)] w fun e w'=>∃ A cap,e = .returned (.slice A (listB (liveR X G)).length cap) ∧ OwnW w' w.heap.size A cap (listB (liveR X G)) ∧ Below w.heap.size w w':=by
  have c1:=rlive3 w g X G h hX hG;have hll:=liveR_len X G;obtain ⟨Z,hZ⟩ : ∃ Z,liveR X G = Z:=⟨_,rfl⟩
  rw [hZ] at c1 hll ⊢;clear hZ h;go_enter Tryz.func74,Tryz.ntmps74
  (go_wp2_with fail);refine c1.mono ?_;rintro e w1 ⟨RA,rc,rfl,hrow,hb1⟩;have hslZ : RowsIn w1 RA Z.length Z:=hrow.slr;clear hrow c1;(go_wp2_with fail);go_loopw [3,5] (fun out i wr=>∃ (k : Nat) (A1 : Option Addr) (cap1 : Nat),k ≤ Z.length ∧ i = .int .i64 k ∧ out = .slice A1 (listB (Z.take k)).length cap1 ∧ OwnW wr w1.heap.size A1 cap1 (listB (Z.take k)) ∧ Below w1.heap.size w1 wr) (fun _ i _=>Z.length - (intOf i).toNat)
  case atStart=>exact ⟨0,none,0,Nat.zero_le _,rfl,rfl,Own.nil _ _ _ _,Below.refl _ _⟩
  case round =>
    obtain ⟨k,A1,cap1,hk,rfl,rfl,hown,hb⟩:=hrel;by_cases hlt : k < Z.length
    · obtain ⟨q,o,rfl,_,_,hrv⟩:=RowsIn.get (SlR.below hslZ hb) hlt hlt;have htk:=listB_take Z k hlt;have hol : (listB (Z.take k)).length ≤ 1000000:=by have:=listB_len (Z.take k);simp at this;omega
      have hris : Ris cmpS (listB (Z.take k)):=ris_sortC totS _;obtain ⟨O,hO⟩ : ∃ O,listB (Z.take k) = O:=⟨_,rfl⟩
      obtain ⟨x,hx⟩ : ∃ x,(Z[k]'hlt).val = x:=⟨_,rfl⟩
      rw [hx] at hrv htk;rw [hO] at htk hol hown hris ⊢;have Htk:=Lib.hid htk;clear hx hO htk;obtain ⟨WR,rfl⟩ : ∃ WR,WR = wr:=⟨wr,rfl⟩
      have hsl : SlR WR A1 O.length 2 (O.map pairW):=hown.slr;(go_wp2_with fail);go_loopw [6] (fun j wj=>∃ m : Nat,m ≤ O.length ∧ j = .int .i64 m ∧ Hid (∀ i (hi : i < O.length),i < m → cmpS O[i] x < 0) ∧ Below WR.heap.size WR wj) (fun j _=>O.length - (intOf j).toNat)
      case atStart=>exact ⟨0,Nat.zero_le _,rfl,(show ∀ i (hi : i < O.length),i < 0 → _ from fun i _ h=>absurd h (by omega)),Below.refl _ _⟩
      case round =>
        obtain ⟨m,hmO,rfl,hlow,hbj⟩:=hrel;have hrj : wr.cell? ⟨q,o + k * 33 + 32,none⟩ = some (.string x):=(hbj.cell (p:=⟨q,o + k * 33 + 32,none⟩) (World.block_lt_of_cell? WR _ hrv)).trans hrv;by_cases hmlt : m < O.length
        · obtain ⟨g2,og,rfl,hrO⟩:=OwnW.get (SlR.below hsl hbj) hmlt hmlt;obtain rfl : og = 0:=by
            rcases hown.addr with e | ⟨g',e⟩
            · cases e
            · injection e with e;injection e
          rw [Nat.zero_add] at hrO;have hmem : O[m] ∈ O:=List.getElem_mem _;obtain ⟨y,hy⟩ : ∃ y,O[m]'hmlt = y:=⟨_,rfl⟩
          rw [hy] at hrO hmem;have Hy:=Lib.hid hy;have Hmem:=Lib.hid hmem;clear hy hmem;cases hbl : bltS y x with
          | true =>
            have hbl' : Op.bytesLess y.toList x.toList = true:=hbl;have hyx : cmpS y x < 0:=by have:=bltS_cmp y x;rw [hbl] at this;simpa using this.symm
            have Hyx:=Lib.hid hyx;clear hyx hbl;go_upto_region 7 with fail
            refine wp_region_lex (Bel wr) false (by kernel_rfl) (by kernel_rfl) (by kernel_rfl) (bel_drew wr) ?_;have hne:=bel_some wr;have hS:=bel_drew wr;have b1:=sub_cell hrj;have b2:=sub_cell hrO;repeat (refine wpLx_loose ?_ ?_;(focus (simp only [chainOp];done));intro K hK;go_simp;refine hK _ ?_;clear hK K)
            refine wpLx_nil ?_;intro hS;clear b1 b2 hne hS hbl';(go_wp2_with fail);go_roundw
            case rel =>
              refine ⟨m + 1,by omega,by go_num,(show ∀ i (hi : i < O.length),i < m + 1 → cmpS O[i] x < 0 from fun i hi hlt=>?_),hbj.drew⟩;by_cases e : i = m
              · subst e;rw [Hy.out];exact Hyx.out
              · exact hlow.out i hi (by omega)
            case measure=>simp [intOf];omega
          | false =>
            have hbl' : Op.bytesLess y.toList x.toList = false:=hbl;have hyx : ¬ cmpS y x < 0:=by have:=bltS_cmp y x;rw [hbl] at this;simpa using this.symm
            by_cases he : y = x
            · have hat:=insC_old totS hris (x:=x) (by rw [← he];exact Hmem.out);have Hat:=Lib.hid hat;have h1 : (y.toList == x.toList) = true:=by rw [he];simp
              clear hat hyx he hbl;go_upto_region 7 with fail
              refine wp_region_lex (Bel wr) false (by kernel_rfl) (by kernel_rfl) (by kernel_rfl) (bel_drew wr) ?_;have hne:=bel_some wr;have hS:=bel_drew wr;have b1:=sub_cell hrj;have b2:=sub_cell hrO;repeat (refine wpLx_loose ?_ ?_;(focus (simp only [chainOp];done));intro K hK;go_simp;refine hK _ ?_;clear hK K)
              refine wpLx_nil ?_;intro hS;clear b1 b2 hne hS hbl';go_upto_region 9 with fail
              refine wp_region_lex (Bel wr.drew) false (by kernel_rfl) (by kernel_rfl) (by kernel_rfl) (bel_drew wr.drew) ?_;have hne:=bel_some wr.drew;have hS:=bel_drew wr.drew;have b1:=sub_cell (W:=wr.drew) hrj;have b2:=sub_cell (W:=wr.drew) hrO;repeat (refine wpLx_loose ?_ ?_;(focus (simp only [chainOp];done));intro K hK;go_simp;refine hK _ ?_;clear hK K)
              refine wpLx_nil ?_;intro hS;clear b1 b2 hne hS h1;have hbz:=hbj.drew.drew;have hown1:=hown.below hbz;have hbb:=hb.trans (hbz.mono hb.size);(go_wp2_with fail);go_roundw
              case rel=>exact ⟨k + 1,_,cap1,by omega,by go_num,by rw [Htk.out,Hat.out],by rw [Htk.out,Hat.out];exact hown1,hbb⟩
              case measure=>simp [intOf];omega
            · have hat:=insC_at (c:=cmpS) O x m hmO hlow.out (fun hk'=>by
                rw [Hy.out];have h1 : cmpS y x ≠ 0:=fun e=>he ((totS.zero _ _).1 e);omega)
              have Hat:=Lib.hid hat;have h1 : (y.toList == x.toList) = false:=by rw [beq_eq_false_iff_ne];exact fun e=>he (toList_inj.1 e)
              clear hat hyx he hbl;go_upto_region 7 with fail
              refine wp_region_lex (Bel wr) false (by kernel_rfl) (by kernel_rfl) (by kernel_rfl) (bel_drew wr) ?_;have hne:=bel_some wr;have hS:=bel_drew wr;have b1:=sub_cell hrj;have b2:=sub_cell hrO;repeat (refine wpLx_loose ?_ ?_;(focus (simp only [chainOp];done));intro K hK;go_simp;refine hK _ ?_;clear hK K)
              refine wpLx_nil ?_;intro hS;clear b1 b2 hne hS hbl';go_upto_region 9 with fail
              refine wp_region_lex (Bel wr.drew) false (by kernel_rfl) (by kernel_rfl) (by kernel_rfl) (bel_drew wr.drew) ?_;have hne:=bel_some wr.drew;have hS:=bel_drew wr.drew;have b1:=sub_cell (W:=wr.drew) hrj;have b2:=sub_cell (W:=wr.drew) hrO;repeat (refine wpLx_loose ?_ ?_;(focus (simp only [chainOp];done));intro K hK;go_simp;refine hK _ ?_;clear hK K)
              refine wpLx_nil ?_;intro hS;clear b1 b2 hne hS h1;have hbz:=hbj.drew.drew;have hownw:=hown.below hbz;have hBw:=hb.trans (hbz.mono hb.size);have hrw : wr.drew.drew.cell? ⟨q,o + k * 33 + 32,none⟩ = some (.string x):=hrj;clear hrO hrj hbj hbz hsl hown;obtain ⟨W,hW⟩ : ∃ W,wr.drew.drew = W:=⟨_,rfl⟩
              rw [hW] at hownw hBw hrw ⊢;clear hW;obtain ⟨A1,hA1⟩ : ∃ A1,(some ⟨g2,0,none⟩ : Option Addr) = A1:=⟨_,rfl⟩
              rw [hA1] at hownw ⊢;clear hA1;have hown0:=Own.empty W W.heap.size 98 2 (Nat.le_refl _);have hBW : Below W.heap.size W (W.alloc (.cells #[] 98)):=(Below.refl _ _).alloc (Nat.le_refl _) _;have hcapO:=hownw.cap_le;have hlo : ∀ w0 : World,(slS 23 (.slice A1 O.length cap1) none (some (.int .i64 m)) none).run Tryz.prog w0 = .ok (.slice A1 m cap1) w0:=fun w0=>run_slS_lo einfoPair w0 A1 O.length cap1 m (by omega);obtain ⟨Ah,ch,hhi,hhs,hhf⟩:=hownw.hi (P:=Tryz.prog) einfoPair (m:=m) hmO;have hslo : SlR (W.alloc (.cells #[] 98)) A1 m 2 ((O.map pairW).take m):=(hownw.below hBW).slr.take_ hmO;have hf1 : A1 = none → cap1 = 0:=fun e=>(hcapO.2 e).2;have hrone : ∀ r ∈ (O.map pairW).take m,∀ u ∈ r.toList,u.oneCell' = true:=fun r hr=>(by obtain ⟨y',_,rfl⟩:=List.mem_map.1 (List.mem_of_mem_take hr);exact pairW_one _);have hrone2 : ∀ r ∈ (O.map pairW).drop m,∀ u ∈ r.toList,u.oneCell' = true:=fun r hr=>(by obtain ⟨y',_,rfl⟩:=List.mem_map.1 (List.mem_of_mem_drop hr);exact pairW_one _);go_upto_region 11 with (at_builtin;refine L_appends einfoPair rfl hown0 rfl hslo hf1 hrone (by omega) (by omega) (by simp) ?_;intro A2 cap2 w2 hown2 hk2 hsub2)
              simp only [Nat.zero_add,List.nil_append] at hown2;have hwW : Below W.heap.size W w2:=hBW.trans (hk2.below (by simp) (by simp [blk]));have hrw2 : w2.cell? ⟨q,o + k * 33 + 32,none⟩ = some (.string x):=(hwW.cell (p:=⟨q,o + k * 33 + 32,none⟩) (World.block_lt_of_cell? W _ hrw)).trans hrw;have hB3 : Below w2.heap.size w2 (w2.alloc (.cells (pairC ⟨x,⟨#[]⟩⟩) 98)):=(Below.refl _ _).alloc (Nat.le_refl _) _;have hown3:=hown2.below hB3;have hrow3 : rowAt (w2.alloc (.cells (pairC ⟨x,⟨#[]⟩⟩) 98)) w2.heap.size 0 2 = some (pairC ⟨x,⟨#[]⟩⟩):=by simp [go_sem]
              have hsz2:=hwW.size;go_upto_region 12 with (at_builtin;refine L_append einfoPair rfl hown3 rfl hrow3 (pairC_one _) (by omega) (by omega) (by simp;omega) ?_;intro A4 cap4 w4 hown4 hk4 hsub4)
              have hwW4 : Below W.heap.size W w4:=(hwW.trans (hB3.mono hsz2)).trans (hk4.below (by simp;omega) (fun x hx=>(hown2.at_base hx).1));have hs4:=hhs w4 ((hownw.below hwW4).slr);have hsz4:=hwW4.size;clear hown3 hrow3 hB3 hown0 hBW hslo hrw2 hlo hcapO;go_upto_region 13 with (at_builtin;refine L_appends einfoPair rfl hown4 rfl hs4 hhf hrone2 (by omega) (by omega) (by omega) ?_;intro A5 cap5 w5 hown5 hk5 hsub5)
              have hwW5 : Below W.heap.size W w5:=hwW4.trans (hk5.below (by omega) (fun x hx=>(hown4.at_base hx).1));have hBW5:=hBw.trans (hwW5.mono hBw.size);have hO5 : (O.map pairW).take m ++ [pairC ⟨x,⟨#[]⟩⟩] ++ (O.map pairW).drop m = (listB (Z.take (k + 1))).map pairW:=by rw [Htk.out,Hat.out];simp [List.map_take,List.map_drop,pairW,pairV]
              have hL5 : (listB (Z.take (k + 1))).length = m + 1 + (O.length - m):=by rw [Htk.out,Hat.out];simp;omega
              rw [hO5] at hown5;have hown6:=hown5.mono hBw.size;have HL:=Lib.hid hL5;clear hown5 hown4 hown2 hO5 hL5 hs4 hhi;(go_wp2_with fail);go_roundw
              case rel=>exact ⟨k + 1,A5,cap5,by omega,by go_num,(by rw [HL.out]),(show Own _ _ _ _ _ _ _ _ by rw [HL.out];exact hown6),hBW5⟩
              case measure=>simp [intOf];omega
        · have hd : decide (m < O.length) = false:=by simpa using hmlt
          have hat:=insC_at (c:=cmpS) O x m hmO hlow.out (fun hk'=>absurd hk' hmlt);have Hat:=Lib.hid hat;clear hat;go_upto_region 7 with fail
          refine wp_region_lex (Bel wr) false (by kernel_rfl) (by kernel_rfl) (by kernel_rfl) (bel_drew wr) ?_;have hne:=bel_some wr;have hS:=bel_drew wr;repeat (refine wpLx_loose ?_ ?_;(focus (simp only [chainOp];done));intro K hK;go_simp;refine hK _ ?_;clear hK K)
          refine wpLx_nil ?_;intro hS;clear hne hS;go_upto_region 9 with fail
          refine wp_region_lex (Bel wr.drew) false (by kernel_rfl) (by kernel_rfl) (by kernel_rfl) (bel_drew wr.drew) ?_;have hne:=bel_some wr.drew;have hS:=bel_drew wr.drew;repeat (refine wpLx_loose ?_ ?_;(focus (simp only [chainOp];done));intro K hK;go_simp;refine hK _ ?_;clear hK K)
          refine wpLx_nil ?_;intro hS;clear hne hS hd;have hbz:=hbj.drew.drew;have hownw:=hown.below hbz;have hBw:=hb.trans (hbz.mono hb.size);have hrw : wr.drew.drew.cell? ⟨q,o + k * 33 + 32,none⟩ = some (.string x):=hrj;clear hrj hbj hbz hsl hown hmlt;obtain ⟨W,hW⟩ : ∃ W,wr.drew.drew = W:=⟨_,rfl⟩
          rw [hW] at hownw hBw hrw ⊢;clear hW;have hown0:=Own.empty W W.heap.size 98 2 (Nat.le_refl _);have hBW : Below W.heap.size W (W.alloc (.cells #[] 98)):=(Below.refl _ _).alloc (Nat.le_refl _) _;have hcapO:=hownw.cap_le;have hlo : ∀ w0 : World,(slS 23 (.slice A1 O.length cap1) none (some (.int .i64 m)) none).run Tryz.prog w0 = .ok (.slice A1 m cap1) w0:=fun w0=>run_slS_lo einfoPair w0 A1 O.length cap1 m (by omega);obtain ⟨Ah,ch,hhi,hhs,hhf⟩:=hownw.hi (P:=Tryz.prog) einfoPair (m:=m) hmO;have hslo : SlR (W.alloc (.cells #[] 98)) A1 m 2 ((O.map pairW).take m):=(hownw.below hBW).slr.take_ hmO;have hf1 : A1 = none → cap1 = 0:=fun e=>(hcapO.2 e).2;have hrone : ∀ r ∈ (O.map pairW).take m,∀ u ∈ r.toList,u.oneCell' = true:=fun r hr=>(by obtain ⟨y',_,rfl⟩:=List.mem_map.1 (List.mem_of_mem_take hr);exact pairW_one _);have hrone2 : ∀ r ∈ (O.map pairW).drop m,∀ u ∈ r.toList,u.oneCell' = true:=fun r hr=>(by obtain ⟨y',_,rfl⟩:=List.mem_map.1 (List.mem_of_mem_drop hr);exact pairW_one _);go_upto_region 11 with (at_builtin;refine L_appends einfoPair rfl hown0 rfl hslo hf1 hrone (by omega) (by omega) (by simp) ?_;intro A2 cap2 w2 hown2 hk2 hsub2)
          simp only [Nat.zero_add,List.nil_append] at hown2;have hwW : Below W.heap.size W w2:=hBW.trans (hk2.below (by simp) (by simp [blk]));have hrw2 : w2.cell? ⟨q,o + k * 33 + 32,none⟩ = some (.string x):=(hwW.cell (p:=⟨q,o + k * 33 + 32,none⟩) (World.block_lt_of_cell? W _ hrw)).trans hrw;have hB3 : Below w2.heap.size w2 (w2.alloc (.cells (pairC ⟨x,⟨#[]⟩⟩) 98)):=(Below.refl _ _).alloc (Nat.le_refl _) _;have hown3:=hown2.below hB3;have hrow3 : rowAt (w2.alloc (.cells (pairC ⟨x,⟨#[]⟩⟩) 98)) w2.heap.size 0 2 = some (pairC ⟨x,⟨#[]⟩⟩):=by simp [go_sem]
          have hsz2:=hwW.size;go_upto_region 12 with (at_builtin;refine L_append einfoPair rfl hown3 rfl hrow3 (pairC_one _) (by omega) (by omega) (by simp;omega) ?_;intro A4 cap4 w4 hown4 hk4 hsub4)
          have hwW4 : Below W.heap.size W w4:=(hwW.trans (hB3.mono hsz2)).trans (hk4.below (by simp;omega) (fun x hx=>(hown2.at_base hx).1));have hs4:=hhs w4 ((hownw.below hwW4).slr);have hsz4:=hwW4.size;clear hown3 hrow3 hB3 hown0 hBW hslo hrw2 hlo hcapO;go_upto_region 13 with (at_builtin;refine L_appends einfoPair rfl hown4 rfl hs4 hhf hrone2 (by omega) (by omega) (by omega) ?_;intro A5 cap5 w5 hown5 hk5 hsub5)
          have hwW5 : Below W.heap.size W w5:=hwW4.trans (hk5.below (by omega) (fun x hx=>(hown4.at_base hx).1));have hBW5:=hBw.trans (hwW5.mono hBw.size);have hO5 : (O.map pairW).take m ++ [pairC ⟨x,⟨#[]⟩⟩] ++ (O.map pairW).drop m = (listB (Z.take (k + 1))).map pairW:=by rw [Htk.out,Hat.out];simp [List.map_take,List.map_drop,pairW,pairV]
          have hL5 : (listB (Z.take (k + 1))).length = m + 1 + (O.length - m):=by rw [Htk.out,Hat.out];simp;omega
          rw [hO5] at hown5;have hown6:=hown5.mono hBw.size;have HL:=Lib.hid hL5;clear hown5 hown4 hown2 hO5 hL5 hs4 hhi;(go_wp2_with fail);go_roundw
          case rel=>exact ⟨k + 1,A5,cap5,by omega,by go_num,(by rw [HL.out]),(show Own _ _ _ _ _ _ _ _ by rw [HL.out];exact hown6),hBW5⟩
          case measure=>simp [intOf];omega
    · have hke : Z.take k = Z:=List.take_of_length_le (by omega);rw [hke] at hown ⊢;clear hke;obtain ⟨F,hF⟩ : ∃ F,listB Z = F:=⟨_,rfl⟩
      rw [hF] at hown ⊢;have HF:=Lib.hid hF;clear hF;(go_wp2_with fail);go_ret;exact ⟨A1,cap1,by rw [HF.out];rfl,by rw [HF.out];exact hown.mono hb1.size,bel2 hb1 hb⟩
end
section
open Go.RowKit
def rdoO (m : MarkV) (o : OpV) (x : RV) : RV :=
  if o.k = 1 then { x with tal:=wrap64 (x.tal + o.n) }
  else if o.k = 2 then { x with adds:=x.adds ++ [⟨m.id,o.val⟩] }
  else if o.k = 3 then { x with gone:=x.gone ++ o.refs.map fun t=>⟨t,o.val⟩ }
  else if o.k = 4 then { x with last:=x.last ++ [⟨o.key,o.val,o.n,m.id⟩] }
  else if o.k = 5 then { x with mL:=x.mL ++ [⟨m.id,o.key,o.val⟩],mO:=sortC cmpId (x.mO ++ o.refs) }
  else if o.k = 6 then { x with sL:=insN x.sL ⟨m.id,m.h,o.ref,o.val⟩ }
  else { x with sG:=insC cmpId x.sG o.ref }
theorem rdoO_eq (m : MarkV) (x : RV) : rdoS m x = rdoO m (oOf m) x:=rfl
def RV.len (x : RV) : Nat:=x.adds.length + x.gone.length + x.last.length + x.mL.length + x.mO.length + x.sL.length + x.sG.length
theorem insN_len (N : List NodeV) (n : NodeV) : (insN N n).length ≤ N.length + 1:=by
  unfold insN;have:=insC_length (c:=cmpM) N n
  repeat' split
  all_goals omega
theorem rdoO_len (m : MarkV) (o : OpV) (x : RV) (h : o.refs.length ≤ 8) : (rdoO m o x).len ≤ x.len + 9:=by
  unfold rdoO;split
  · exact Nat.le_add_right _ _
  split
  · unfold RV.len;simp;omega
  split
  · unfold RV.len;simp;omega
  split
  · unfold RV.len;simp;omega
  split
  · have:=sortC_length (c:=cmpId) (x.mO ++ o.refs);unfold RV.len;simp at this ⊢;omega
  split
  · have:=insN_len x.sL ⟨m.id,m.h,o.ref,o.val⟩;unfold RV.len;simp only;omega
  · have:=insC_length (c:=cmpId) x.sG o.ref;unfold RV.len;simp only;omega
structure RVOk (x : RV) : Prop where
  adds : ∀ r ∈ x.adds,small r
  gone : ∀ r ∈ x.gone,small r
  last : ∀ r ∈ x.last,checkE r.key (rowS r) = 0
  mL : ∀ r ∈ x.mL,r.key.size ≤ 16 ∧ r.val.size ≤ 16
  mO : Ris cmpId x.mO
  sL : NodesOk x.sL
  sG : Ris cmpId x.sG
theorem rvOk0 : RVOk rv0:=⟨by simp [rv0],by simp [rv0],by simp [rv0],by simp [rv0],Ris.nil,NodesOk.nil,Ris.nil⟩
theorem rdoS_ok {m : MarkV} {x : RV} (h : RVOk x) (he : opE m.body.data.toList = 0) : RVOk (rdoS m x):=by
  have ho : plainO (oOf m) ∧ 1 ≤ (oOf m).k ∧ (oOf m).k ≤ 7 ∧ (oOf m).key.size ≤ 16 ∧ (oOf m).val.size ≤ 16 ∧ (oOf m).refs.length ≤ 8 ∧ risI (oOf m).refs = true ∧ (oOf m).n < 2147483648:=opO_ok _ he;have hv:=ho.2.2.2.2.1;unfold rdoS;split
  · exact ⟨h.adds,h.gone,h.last,h.mL,h.mO,h.sL,h.sG⟩
  split
  · exact ⟨fun r hr=>by
      rcases List.mem_append.1 hr with hr | hr
      · exact h.adds r hr
      · have e : r = ⟨m.id,(oOf m).val⟩:=by simpa using hr
        rw [e];exact hv,h.gone,h.last,h.mL,h.mO,h.sL,h.sG⟩
  split
  · exact ⟨h.adds,fun r hr=>by
      rcases List.mem_append.1 hr with hr | hr
      · exact h.gone r hr
      · obtain ⟨t,_,rfl⟩:=List.mem_map.1 hr;exact hv,h.last,h.mL,h.mO,h.sL,h.sG⟩
  split
  · rename_i h4
    exact ⟨h.adds,h.gone,fun r hr=>by
      rcases List.mem_append.1 hr with hr | hr
      · exact h.last r hr
      · have e : r = rowOfR m:=by simpa using hr
        rw [e];exact fit_check he h4,h.mL,h.mO,h.sL,h.sG⟩
  split
  · exact ⟨h.adds,h.gone,h.last,fun r hr=>by
      rcases List.mem_append.1 hr with hr | hr
      · exact h.mL r hr
      · have e : r = rowOfM m:=by simpa using hr
        rw [e];exact ⟨ho.2.2.2.1,hv⟩,ris_sortC totId _,h.sL,h.sG⟩
  split
  · exact ⟨h.adds,h.gone,h.last,h.mL,h.mO,h.sL.ins _,h.sG⟩
  · exact ⟨h.adds,h.gone,h.last,h.mL,h.mO,h.sL,ris_insC totId h.sG⟩
theorem rfoldS_ok {t : ByteArray} {m : MarkV} {x : RV} (h : RVOk x) : RVOk (rfoldS t m x):=by
  unfold rfoldS;split
  · rename_i hf;exact rdoS_ok h hf.1
  · exact h
theorem rfoldS_len (t : ByteArray) (m : MarkV) (x : RV) : (rfoldS t m x).len ≤ x.len + 9:=by
  unfold rfoldS;split
  · rename_i hf;rw [rdoO_eq];exact rdoO_len _ _ _ (opO_ok _ hf.1).2.2.2.2.2.1
  · omega
def SlX (w : World) (g : Nat) (s : Sl) (k : Nat) (R : List (Array Value)) : Prop:=SlW w s.A s.n s.c k R ∧ g ∉ blk s.A
theorem SlX.below {w w' : World} {g : Nat} {s : Sl} {k : Nat} {R : List (Array Value)} (h : SlX w g s k R) (hb : Below w.heap.size w w') : SlX w' g s k R:=⟨h.1.below hb,h.2⟩
theorem SlX.keep {w w' : World} {g : Nat} {s : Sl} {k : Nat} {R : List (Array Value)} (h : SlX w g s k R) (hk : Keep [g] w w') : SlX w' g s k R:=⟨h.1.kept hk (fun x hx hm=>h.2 (by simp at hm;rw [← hm];exact hx)),h.2⟩
def rvC (t : ByteArray) (si : Sl) (tal : Int) (sa sg sl sm so ss sd : Sl) : Array Value:=#[.string t,slV si,.int .i64 tal,slV sa,slV sg,slV sl,slV sm,slV so,slV ss,slV sd]
structure RVIn (w : World) (g : Nat) (t : ByteArray) (I : List Id32) (x : RV) (si sa sg sl sm so ss sd : Sl) : Prop where
  hp : w.heap[g]? = some (.cells (rvC t si x.tal sa sg sl sm so ss sd) 69 (0,0))
  ids : SlX w g si 32 (I.map idC)
  adds : SlX w g sa 33 (x.adds.map bRowC)
  gone : SlX w g sg 33 (x.gone.map bRowC)
  last : SlX w g sl 35 (x.last.map rowC)
  mL : SlX w g sm 34 (x.mL.map mRowC)
  mO : SlX w g so 32 (x.mO.map idC)
  sL : SlX w g ss 66 (x.sL.map nodeC)
  sG : SlX w g sd 32 (x.sG.map idC)
def RVAt (w : World) (g : Nat) (t : ByteArray) (I : List Id32) (x : RV) : Prop:=∃ si sa sg sl sm so ss sd,RVIn w g t I x si sa sg sl sm so ss sd
section
variable {w w' : World} {g : Nat} {t : ByteArray} {I : List Id32} {x : RV} {si sa sg sl sm so ss sd : Sl}
theorem RVIn.lt (h : RVIn w g t I x si sa sg sl sm so ss sd) : g < w.heap.size:=(Array.getElem?_eq_some_iff.1 h.hp).1
theorem RVIn.below (h : RVIn w g t I x si sa sg sl sm so ss sd) (k : Below w.heap.size w w') : RVIn w' g t I x si sa sg sl sm so ss sd :=
  ⟨(k.block g h.lt).trans h.hp,h.ids.below k,h.adds.below k,h.gone.below k,h.last.below k,h.mL.below k,h.mO.below k,h.sL.below k,h.sG.below k⟩
theorem RVIn.cell (h : RVIn w g t I x si sa sg sl sm so ss sd) (j : Nat) {v : Value} (hv : (rvC t si x.tal sa sg sl sm so ss sd)[j]? = some v) : w.cell? ⟨g,j,none⟩ = some v:=by
  rw [cell_of_row w g j _ _ _ h.hp];exact hv
theorem RVAt.below (h : RVAt w g t I x) (k : Below w.heap.size w w') : RVAt w' g t I x:=by
  obtain ⟨si,sa,sg,sl,sm,so,ss,sd,h⟩:=h;exact ⟨si,sa,sg,sl,sm,so,ss,sd,h.below k⟩
theorem RVIn.lens (h : RVIn w g t I x si sa sg sl sm so ss sd) : x.adds.length = sa.n ∧ x.gone.length = sg.n ∧ x.last.length = sl.n ∧ x.mL.length = sm.n ∧ x.mO.length = so.n ∧ x.sL.length = ss.n ∧ x.sG.length = sd.n:=by
  refine ⟨?_,?_,?_,?_,?_,?_,?_⟩
  · simpa using h.adds.1.len
  · simpa using h.gone.1.len
  · simpa using h.last.1.len
  · simpa using h.mL.1.len
  · simpa using h.mO.1.len
  · simpa using h.sL.1.len
  · simpa using h.sG.1.len
theorem RVIn.set {x' : RV} {si' sa' sg' sl' sm' so' ss' sd' : Sl} (h : RVIn w g t I x si sa sg sl sm so ss sd) (hk : Keep [g] w w')
    (hp : w'.heap[g]? = some (.cells (rvC t si' x'.tal sa' sg' sl' sm' so' ss' sd') 69 (0,0))) (hi : SlX w g si 32 (I.map idC) → SlX w' g si' 32 (I.map idC))
    (h1 : (SlX w g sa 33 (x.adds.map bRowC) → SlX w' g sa' 33 (x'.adds.map bRowC))) (h2 : (SlX w g sg 33 (x.gone.map bRowC) → SlX w' g sg' 33 (x'.gone.map bRowC)))
    (h3 : (SlX w g sl 35 (x.last.map rowC) → SlX w' g sl' 35 (x'.last.map rowC))) (h4 : (SlX w g sm 34 (x.mL.map mRowC) → SlX w' g sm' 34 (x'.mL.map mRowC)))
    (h5 : (SlX w g so 32 (x.mO.map idC) → SlX w' g so' 32 (x'.mO.map idC))) (h6 : (SlX w g ss 66 (x.sL.map nodeC) → SlX w' g ss' 66 (x'.sL.map nodeC)))
    (h7 : (SlX w g sd 32 (x.sG.map idC) → SlX w' g sd' 32 (x'.sG.map idC))) : RVAt w' g t I x' :=
  ⟨si',sa',sg',sl',sm',so',ss',sd',hp,hi h.ids,h1 h.adds,h2 h.gone,h3 h.last,h4 h.mL,h5 h.mO,h6 h.sL,h7 h.sG⟩
end
end
end Go.Proofs.YtgfpjjppeldhbaaGreatDoor
