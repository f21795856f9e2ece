/- Part 9 of the texts that lead to this claim: the walks of the functions and the plain law, in order. -/
import Derived.Test.YtgfpjjppeldhbaaGreatDoorMp8
import Derived.Laws.StructEq
namespace Go.Proofs.YtgfpjjppeldhbaaGreatDoor
section
open Go.RowKit
theorem eW {cs : Array Value} {j : Nat} {v : Value} (h : cs[j]? = some v) : cs.setIfInBounds j v = cs:=by
  obtain ⟨hj,e⟩:=Array.getElem?_eq_some_iff.1 h;apply Array.ext
  · simp
  · intro i h1 h2;rw [Array.getElem_setIfInBounds];split
    · rename_i e';subst e';exact e.symm
    · rfl
set_option maxRecDepth 100000 in
set_option maxHeartbeats 4000000 in
theorem rsins8 (x : zW) (w : World) (g : Nat) (cs : Array Value) (A : Option Addr) (n cap : Nat) (L : List zW) (hg : w.heap[g]? = some (.cells cs 69 (0,0))) (hcs : cs[8]? = some (.slice A n cap)) (hswW : SlW w A n cap 66 (L.map yO)) (hgA : g ∉ blk A) (hok : jS L) (hv : x.val.size ≤ 9223372036854775807) (hn : n ≤ 100000) :
    Calls Tryz.prog 148 #[.pointer (some ⟨g,8,none⟩),.agg (yO x)] w fun e w'=>∃ A' n' cap',e = .returned (.int .i64 (kW x)) ∧ w'.heap[g]? = some (.cells (cs.setIfInBounds 8 (.slice A' n' cap')) 69 (0,0)) ∧ SlW w' A' n' cap' 66 ((uA L x).map yO) ∧ g ∉ blk A' ∧ zC [g] w w':=by
  have hgl : g < w.heap.size:=(Array.getElem?_eq_some_iff.1 hg).1;have hb0 : Below w.heap.size w (w.alloc (.cells (yK (k8 x)) 213)):=(Below.refl _ _).alloc (Nat.le_refl _) _;have hr0 : zF (w.alloc (.cells (yK (k8 x)) 213)) w.heap.size 0 66 = some (yO x):=by simp [go_sem]
  have hLn : L.length = n:=by simpa using hswW.len
  have Hlen:=Lib.hid hLn;have Hok:=Lib.hid hok;have hlt0 : w.heap.size < (w.alloc (.cells (yK (k8 x)) 213)).heap.size:=zL hr0;clear hLn hok;go_enter Tryz.func148,Tryz.ntmps148
  go_upto_region 1 with fail
  obtain ⟨gx,hgx⟩ : ∃ gx,w.heap.size = gx:=⟨_,rfl⟩
  obtain ⟨W0,hW0⟩ : ∃ W0,w.alloc (.cells (yK (k8 x)) 213) = W0:=⟨_,rfl⟩
  rw [hW0] at hb0 hr0 hlt0;rw [hW0];rw [hgx] at hr0 hlt0 ⊢;have Hgx:=Lib.hid hgx;have c0:=rscheck x W0 hv;obtain ⟨E,hE⟩ : ∃ E,kW x = E:=⟨_,rfl⟩
  rw [hE] at c0;have HE:=Lib.hid hE;clear hW0 hgx hE;(go_wp2_with fail);refine c0.mono ?_;rintro e w1 ⟨rfl,hb1⟩;have hb01:=yN hb0 hb1;have hg1 : w1.heap[g]? = some (.cells cs 69 (0,0)):=(hb01.block g hgl).trans hg;have hr1 : zF w1 gx 0 66 = some (yO x):=(zI (hb1.block gx hlt0) _ _).trans hr0;have hsw1:=hswW.below hb01;have hc1 : w1.cell? ⟨g,8,none⟩ = some (.slice A n cap):=by rw [cell_of_row w1 g 8 _ _ _ hg1];exact hcs
  clear c0 hb0 hr0 hb1 hlt0 hg;by_cases hE0 : E = 0
  · subst hE0;obtain ⟨f1,_,_,_⟩:=vO hr1;(go_wp2_with fail);go_loopw [6] (fun j wj=>∃ m : Nat,m ≤ n ∧ j = .int .i64 m ∧ Hid (∀ i (hi : i < L.length),i < m → zO (L[i]).id x.id < 0) ∧ Below w1.heap.size w1 wj) (fun j _=>n - (intOf j).toNat)
    case atStart=>exact ⟨0,Nat.zero_le _,rfl,(show ∀ i (hi : i < L.length),i < 0 → _ from fun i _ h=>absurd h (by omega)),Below.refl _ _⟩
    case round =>
      obtain ⟨m,hmO,rfl,hlow,hbj⟩:=hrel;have hrj : zF wr gx 0 66 = some (yO x):=(zI (hbj.block gx (zL hr1)) _ _).trans hr1;have j1 : zF wr gx 0 32 = some (idC x.id):=(zI (hbj.block gx (zL hr1)) _ _).trans f1;have hcj:=(hbj.cell (p:=⟨g,8,none⟩) (World.block_lt_of_cell? w1 _ hc1)).trans hc1;have hswj:=hsw1.below hbj;by_cases hmlt : m < n
      · obtain ⟨q2,o2,rfl,hrO⟩:=vX.get hswj.rd hmlt (by rw [Hlen.out];exact hmlt);obtain ⟨y1,_,_,_⟩:=vO hrO;obtain ⟨y,hy⟩ : ∃ y,L[m]'(by rw [Hlen.out];exact hmlt) = y:=⟨_,rfl⟩
        rw [hy] at y1;have Hy:=Lib.hid hy;have c2:=d5 y.id x.id wr.drew;obtain ⟨c,hc⟩ : ∃ c,zO y.id x.id = c:=⟨_,rfl⟩
        rw [hc] at c2;have Hc:=Lib.hid hc;clear hy hc hrO;go_upto_region 5 with fail
        refine zE (Bel wr) false (by kernel_rfl) (by kernel_rfl) (by kernel_rfl) (zG wr) ?_;have hne:=zX wr;have hS:=zG wr;have b1:=yD j1;have b2:=yD y1;have b3:=zT hcj;repeat (refine zB ?_ ?_;(focus (simp only [zA];done));intro K hK;go_simp;refine hK _ ?_;clear hK K)
        refine zH ?_ ?_ ?_;(focus (exact hS));(focus (simp only [zA];done));intro K hK;go_simp;refine (c2).mono ?_;rintro e w' ⟨rfl,hb⟩;replace hS:=yJ hS hb;refine ⟨_,rfl,hS,hK _ _ ?_⟩;clear hK K hb;repeat (refine zB ?_ ?_;(focus (simp only [zA];done));intro K hK;go_simp;refine hK _ ?_;clear hK K)
        refine zN ?_;intro hS;have hS' : Below wr.heap.size wr w':=hS;have hbz:=yN hbj hS';have hcz:=(hS'.cell (World.block_lt_of_cell? wr _ hcj)).trans hcj;have j1z : zF w' gx 0 32 = some (idC x.id):=(zI (hS'.block gx (zL j1)) _ _).trans j1;have y1z : zF w' q2 (o2 + m * 66) 32 = some (idC y.id):=(zI (hS'.block q2 (zL y1)) _ _).trans y1;clear b1 b2 b3 hne hS c2 hS' hbj j1 y1 hcj hswj hrj;by_cases hyx : c < 0
        · clear hcz j1z y1z;(go_wp2_with fail);go_roundw
          case rel =>
            refine ⟨m + 1,by omega,by go_num,(show ∀ i (hi : i < L.length),i < m + 1 → zO (L[i]).id x.id < 0 from fun i hi hlt=>?_),hbz⟩;by_cases e : i = m
            · subst e;rw [Hy.out,Hc.out];exact hyx
            · exact hlow.out i hi (by omega)
          case measure=>simp [intOf];omega
        · have Hyx:=Lib.hid hyx;obtain ⟨V,rfl⟩ : ∃ V,V = w':=⟨w',rfl⟩
          by_cases hid : y.id = x.id
          · have hin : x.id ∈ L.map zW.id:=List.mem_map.2 ⟨y,by rw [← Hy.out];exact List.getElem_mem _,hid⟩;have Hin : Hid (uA L x = L):=(show _ = _ by unfold uA;rw [if_pos HE.out,if_pos hin])
            have he : (y.id == x.id) = true:=by simpa using hid
            clear hin hid;go_upto_region 7 with fail
            refine zE (Bel V) false (by kernel_rfl) (by kernel_rfl) (by kernel_rfl) (zG V) ?_;have hne:=zX V;have hS:=zG V;have b1:=yD j1z;have b2:=yD y1z;have b3:=zT hcz;repeat (refine zB ?_ ?_;(focus (simp only [zA];done));intro K hK;go_simp;refine hK _ ?_;clear hK K)
            refine zN ?_;intro hS;have hsz:=hsw1.below (hbz.drew);have hgz:=(hbz.drew.block g (Array.getElem?_eq_some_iff.1 hg1).1).trans hg1;have hkz : zC [g] w V.drew:=(zC.of_below (yN hb01 hbz.drew)).mono (S':=[g]) (by simp);have Hsz:=Lib.hid hsz;clear b1 b2 b3 hne hS j1z y1z hcz hbz hsz he;(go_wp2_with fail);go_ret;exact ⟨yE HE.out.symm,_,n,cap,by rw [eW hcs];exact hgz,by rw [Hin.out];exact Hsz.out,hgA,hkz⟩
          · have hnin : x.id ∉ L.map zW.id:=fun hx=>by
              obtain ⟨z,hz,e⟩:=List.mem_map.1 hx;obtain ⟨i,hi,e2⟩:=List.mem_iff_getElem.1 hz;have hri:=rQ Hok.out;rcases Nat.lt_trichotomy i m with h1 | h1 | h1
              · have:=hlow.out i hi h1;rw [e2,e] at this;exact xP.irr _ this
              · subst h1;rw [Hy.out] at e2;rw [← e2] at e;exact hid e
              · have h2:=cJ hri (i:=m) (j:=i) h1 (by simpa using hi);rw [List.getElem_map,List.getElem_map,Hy.out,e2,e] at h2;rw [Hc.out] at h2;exact Hyx.out h2
            have hat:=jQ (c:=tX) L x m (by rw [Hlen.out];exact hmO) (fun i hi hlt=>by
                have h1:=hlow.out i hi hlt;unfold tX orC;rw [if_neg (by omega)];exact h1) (fun hk'=>by
                rw [Hy.out];have h1 : zO y.id x.id ≠ 0:=fun e'=>hid ((dR _ _).1 e');have h2:=Hyx.out;rw [← Hc.out] at h2;unfold tX orC;rw [if_neg h1];omega)
            have Hat:=Lib.hid hat;have Hin : Hid (uA L x = xJ tX L x):=(show _ = _ by unfold uA;rw [if_pos HE.out,if_neg hnin])
            have he : (y.id == x.id) = false:=by simpa using hid
            clear hnin hat hid;go_upto_region 7 with fail
            refine zE (Bel V) false (by kernel_rfl) (by kernel_rfl) (by kernel_rfl) (zG V) ?_;have hne:=zX V;have hS:=zG V;have b1:=yD j1z;have b2:=yD y1z;have b3:=zT hcz;repeat (refine zB ?_ ?_;(focus (simp only [zA];done));intro K hK;go_simp;refine hK _ ?_;clear hK K)
            refine zN ?_;intro hS;have hsw:=hsw1.below (hbz.drew);have hrx : zF V.drew gx 0 66 = some (yO x):=(zI (hbz.drew.block gx (zL hr1)) _ _).trans hr1;have hgV:=(hbz.drew.block g (Array.getElem?_eq_some_iff.1 hg1).1).trans hg1;have hcW:=(hbz.drew.cell (p:=⟨g,8,none⟩) (World.block_lt_of_cell? w1 _ hc1)).trans hc1;have hBw:=yN hb01 hbz.drew;clear b1 b2 b3 hne hS j1z y1z hcz hbz he hsw1 hr1 hg1 hc1 f1 hb01;obtain ⟨W,hW⟩ : ∃ W,V.drew = W:=⟨_,rfl⟩
            rw [hW] at hsw hrx hgV hcW hBw;rw [hW];clear hW;have hgW : g < W.heap.size:=(Array.getElem?_eq_some_iff.1 hgV).1;obtain ⟨A,hA1⟩ : ∃ A,(some ⟨q2,o2,none⟩ : Option Addr) = A:=⟨_,rfl⟩
            rw [hA1] at hsw hcW;rw [hA1] at hgA;clear hA1 hcs hswW;have hBx : Below W.heap.size W (W.alloc (.cells #[] 213)):=(Below.refl _ _).alloc (Nat.le_refl _) _;have hcx:=(hBx.cell (p:=⟨g,8,none⟩) (World.block_lt_of_cell? W _ hcW)).trans hcW;have hown0:=Own.empty W W.heap.size 213 66 (Nat.le_refl _);have hlo : ∀ w0 : World,(slS 65 (.slice A n cap) none (some (.int .i64 m)) none).run Tryz.prog w0 = .ok (.slice A m cap) w0:=fun w0=>SlW.lo qI hsw hmO w0;obtain ⟨Ah,ch,hhi,hhs,hhf⟩:=hsw.hi (P:=Tryz.prog) qI (m:=m) hmO;have hslo : SlR (W.alloc (.cells #[] 213)) A m 66 ((L.map yO).take m):=(hsw.rd.below hBx).take_ hmO;have hf1:=hsw.nil;have hrone : ∀ r ∈ (L.map yO).take m,∀ u ∈ r.toList,u.oneCell' = true:=fun r hr=>(by obtain ⟨y',_,rfl⟩:=List.mem_map.1 (List.mem_of_mem_take hr);exact qX _);have hrone2 : ∀ r ∈ (L.map yO).drop m,∀ u ∈ r.toList,u.oneCell' = true:=fun r hr=>(by obtain ⟨y',_,rfl⟩:=List.mem_map.1 (List.mem_of_mem_drop hr);exact qX _);go_upto_region 10 with (at_builtin;refine yF qI rfl hown0 rfl hslo hf1 hrone (by omega) (by omega) (by simp) ?_;intro A2 cap2 w2 hown2 hk2 hsub2)
            simp only [Nat.zero_add,List.nil_append] at hown2;have hwW : Below W.heap.size W w2:=hBx.trans (hk2.below (by simp) (by simp [blk]));have hrw2 : zF w2 gx 0 66 = some (yO x):=(zI (hwW.block gx (zL hrx)) _ _).trans hrx;have hB3 : Below w2.heap.size w2 (w2.alloc (.cells (yK (k8 x)) 213)):=(Below.refl _ _).alloc (Nat.le_refl _) _;have hown3:=hown2.below hB3;have hrow3 : zF (w2.alloc (.cells (yK (k8 x)) 213)) w2.heap.size 0 66 = some (yO x):=by simp [go_sem]
            have hsz2:=hwW.size;go_upto_region 11 with (at_builtin;refine x8 qI rfl hown3 rfl hrow3 (qX _) (by omega) (by omega) (by simp;omega) ?_;intro A4 cap4 w4 hown4 hk4 hsub4)
            have hwW4 : Below W.heap.size W w4:=(hwW.trans (hB3.mono hsz2)).trans (hk4.below (by simp;omega) (fun x hx=>(hown2.at_base hx).1));have hs4:=hhs w4 (hsw.rd.below hwW4);have hsz4:=hwW4.size;have hc4:=(hwW4.cell (p:=⟨g,8,none⟩) (World.block_lt_of_cell? W _ hcW)).trans hcW;clear hown3 hrow3 hB3 hown0 hBx hslo hrw2 hlo hcx;go_upto_region 12 with (at_builtin;refine yF qI rfl hown4 rfl hs4 hhf hrone2 (by omega) (by omega) (by omega) ?_;intro A5 cap5 w5 hown5 hk5 hsub5)
            have hwW5 : Below W.heap.size W w5:=hwW4.trans (hk5.below (by omega) (fun x hx=>(hown4.at_base hx).1));have hO5 : (L.map yO).take m ++ [yO x] ++ (L.map yO).drop m = (L.take m ++ x :: L.drop m).map yO:=by simp [List.map_take,List.map_drop]
            rw [hO5,← Hat.out] at hown5;clear hown4 hown2 hO5 hs4 hhi hhs hrone hrone2 hf1 hc4;have hg5 : w5.heap[g]? = some (.cells cs 69 (0,0)):=(hwW5.block g hgW).trans hgV;have hc5 : w5.cell? ⟨g,8,none⟩ = some (.slice A n cap):=(hwW5.cell (p:=⟨g,8,none⟩) (World.block_lt_of_cell? W _ hcW)).trans hcW;have hf5 : w5.frozen? ⟨g,8,none⟩ = false:=by simp [World.frozen?,hg5]
            have hfin:=zM hg5 8 (.slice A5 (m + 1 + (n - m)) cap5);have hks:=zC.setCell w5 ⟨g,8,none⟩ (.slice A5 (m + 1 + (n - m)) cap5);have hbb : Below w.heap.size w w5:=hBw.trans (hwW5.mono hBw.size);have hWw:=hBw.size;have hown6:=hown5.kept hks (fun y hy hm=>by have:=(hown5.at_base hy).1;simp at hm;omega);have hsl6:=hown6.slw;have hgA5 : g ∉ blk A5:=fun hx=>(by have:=(hown5.at_base hx).1;omega);have hkf : zC [g] w (w5.setCell ⟨g,8,none⟩ (.slice A5 (m + 1 + (n - m)) cap5)):=zC.trans ((zC.of_below hbb).mono (S':=[g]) (by simp)) hks (fun x hx=>.inl hx);have Hsl6:=Lib.hid hsl6;clear hown5 hown6 hsl6 hbb hks;(go_wp2_with fail);go_ret;first | exact ⟨yE HE.out.symm,A5,m + 1 + (n - m),cap5,hfin,by rw [Hin.out];exact Hsl6.out,hgA5,hkf⟩ | exact ⟨A5,m + 1 + (n - m),cap5,yE HE.out.symm,hfin,by rw [Hin.out];exact Hsl6.out,hgA5,hkf⟩
      · have hd : decide (m < n) = false:=by simpa using hmlt
        have hnin : x.id ∉ L.map zW.id:=fun hx=>by
          obtain ⟨z,hz,e⟩:=List.mem_map.1 hx;obtain ⟨i,hi,e2⟩:=List.mem_iff_getElem.1 hz;have:=hlow.out i hi (by have:=Hlen.out;omega);rw [e2,e] at this;exact xP.irr _ this
        have hat:=jQ (c:=tX) L x m (by rw [Hlen.out];exact hmO) (fun i hi hlt=>by
            have h1:=hlow.out i hi hlt;unfold tX orC;rw [if_neg (by omega)];exact h1) (fun hk'=>absurd (by rw [← Hlen.out];exact hk') hmlt)
        have Hat:=Lib.hid hat;have Hin : Hid (uA L x = xJ tX L x):=(show _ = _ by unfold uA;rw [if_pos HE.out,if_neg hnin])
        clear hnin hat j1;go_upto_region 5 with fail
        refine zE (Bel wr) false (by kernel_rfl) (by kernel_rfl) (by kernel_rfl) (zG wr) ?_;have hne:=zX wr;have hS:=zG wr;have b3:=zT hcj;repeat (refine zB ?_ ?_;(focus (simp only [zA];done));intro K hK;go_simp;refine hK _ ?_;clear hK K)
        refine zH ?_ ?_ ?_;(focus (exact hS));(focus (simp only [zA];done));intro K hK;go_simp;refine hK _ _ ?_;clear hK K;repeat (refine zB ?_ ?_;(focus (simp only [zA];done));intro K hK;go_simp;refine hK _ ?_;clear hK K)
        refine zN ?_;intro hS;clear b3 hne hS;have hcz : wr.drew.cell? ⟨g,8,none⟩ = some (.slice A n cap):=hcj;go_upto_region 7 with fail
        refine zE (Bel wr.drew) false (by kernel_rfl) (by kernel_rfl) (by kernel_rfl) (zG wr.drew) ?_;have hne:=zX wr.drew;have hS:=zG wr.drew;have b3:=zT hcz;repeat (refine zB ?_ ?_;(focus (simp only [zA];done));intro K hK;go_simp;refine hK _ ?_;clear hK K)
        refine zN ?_;intro hS;have hbz : Below w1.heap.size w1 wr.drew.drew:=hbj.drew.drew;have hsw:=hsw1.below hbz;have hrx : zF wr.drew.drew gx 0 66 = some (yO x):=hrj;have hgV:=(hbz.block g (Array.getElem?_eq_some_iff.1 hg1).1).trans hg1;have hcW : wr.drew.drew.cell? ⟨g,8,none⟩ = some (.slice A n cap):=hcj;have hBw:=yN hb01 hbz;clear b3 hne hS hcz hbz hsw1 hr1 hg1 hc1 f1 hb01 hcj hrj hbj hswj hd hmlt;obtain ⟨W,hW⟩ : ∃ W,wr.drew.drew = W:=⟨_,rfl⟩
        rw [hW] at hsw hrx hgV hcW hBw;rw [hW];clear hW;have hgW : g < W.heap.size:=(Array.getElem?_eq_some_iff.1 hgV).1;clear hcs hswW;have hBx : Below W.heap.size W (W.alloc (.cells #[] 213)):=(Below.refl _ _).alloc (Nat.le_refl _) _;have hcx:=(hBx.cell (p:=⟨g,8,none⟩) (World.block_lt_of_cell? W _ hcW)).trans hcW;have hown0:=Own.empty W W.heap.size 213 66 (Nat.le_refl _);have hlo : ∀ w0 : World,(slS 65 (.slice A n cap) none (some (.int .i64 m)) none).run Tryz.prog w0 = .ok (.slice A m cap) w0:=fun w0=>SlW.lo qI hsw hmO w0;obtain ⟨Ah,ch,hhi,hhs,hhf⟩:=hsw.hi (P:=Tryz.prog) qI (m:=m) hmO;have hslo : SlR (W.alloc (.cells #[] 213)) A m 66 ((L.map yO).take m):=(hsw.rd.below hBx).take_ hmO;have hf1:=hsw.nil;have hrone : ∀ r ∈ (L.map yO).take m,∀ u ∈ r.toList,u.oneCell' = true:=fun r hr=>(by obtain ⟨y',_,rfl⟩:=List.mem_map.1 (List.mem_of_mem_take hr);exact qX _);have hrone2 : ∀ r ∈ (L.map yO).drop m,∀ u ∈ r.toList,u.oneCell' = true:=fun r hr=>(by obtain ⟨y',_,rfl⟩:=List.mem_map.1 (List.mem_of_mem_drop hr);exact qX _);go_upto_region 10 with (at_builtin;refine yF qI rfl hown0 rfl hslo hf1 hrone (by omega) (by omega) (by simp) ?_;intro A2 cap2 w2 hown2 hk2 hsub2)
        simp only [Nat.zero_add,List.nil_append] at hown2;have hwW : Below W.heap.size W w2:=hBx.trans (hk2.below (by simp) (by simp [blk]));have hrw2 : zF w2 gx 0 66 = some (yO x):=(zI (hwW.block gx (zL hrx)) _ _).trans hrx;have hB3 : Below w2.heap.size w2 (w2.alloc (.cells (yK (k8 x)) 213)):=(Below.refl _ _).alloc (Nat.le_refl _) _;have hown3:=hown2.below hB3;have hrow3 : zF (w2.alloc (.cells (yK (k8 x)) 213)) w2.heap.size 0 66 = some (yO x):=by simp [go_sem]
        have hsz2:=hwW.size;go_upto_region 11 with (at_builtin;refine x8 qI rfl hown3 rfl hrow3 (qX _) (by omega) (by omega) (by simp;omega) ?_;intro A4 cap4 w4 hown4 hk4 hsub4)
        have hwW4 : Below W.heap.size W w4:=(hwW.trans (hB3.mono hsz2)).trans (hk4.below (by simp;omega) (fun x hx=>(hown2.at_base hx).1));have hs4:=hhs w4 (hsw.rd.below hwW4);have hsz4:=hwW4.size;have hc4:=(hwW4.cell (p:=⟨g,8,none⟩) (World.block_lt_of_cell? W _ hcW)).trans hcW;clear hown3 hrow3 hB3 hown0 hBx hslo hrw2 hlo hcx;go_upto_region 12 with (at_builtin;refine yF qI rfl hown4 rfl hs4 hhf hrone2 (by omega) (by omega) (by omega) ?_;intro A5 cap5 w5 hown5 hk5 hsub5)
        have hwW5 : Below W.heap.size W w5:=hwW4.trans (hk5.below (by omega) (fun x hx=>(hown4.at_base hx).1));have hO5 : (L.map yO).take m ++ [yO x] ++ (L.map yO).drop m = (L.take m ++ x :: L.drop m).map yO:=by simp [List.map_take,List.map_drop]
        rw [hO5,← Hat.out] at hown5;clear hown4 hown2 hO5 hs4 hhi hhs hrone hrone2 hf1 hc4;have hg5 : w5.heap[g]? = some (.cells cs 69 (0,0)):=(hwW5.block g hgW).trans hgV;have hc5 : w5.cell? ⟨g,8,none⟩ = some (.slice A n cap):=(hwW5.cell (p:=⟨g,8,none⟩) (World.block_lt_of_cell? W _ hcW)).trans hcW;have hf5 : w5.frozen? ⟨g,8,none⟩ = false:=by simp [World.frozen?,hg5]
        have hfin:=zM hg5 8 (.slice A5 (m + 1 + (n - m)) cap5);have hks:=zC.setCell w5 ⟨g,8,none⟩ (.slice A5 (m + 1 + (n - m)) cap5);have hbb : Below w.heap.size w w5:=hBw.trans (hwW5.mono hBw.size);have hWw:=hBw.size;have hown6:=hown5.kept hks (fun y hy hm=>by have:=(hown5.at_base hy).1;simp at hm;omega);have hsl6:=hown6.slw;have hgA5 : g ∉ blk A5:=fun hx=>(by have:=(hown5.at_base hx).1;omega);have hkf : zC [g] w (w5.setCell ⟨g,8,none⟩ (.slice A5 (m + 1 + (n - m)) cap5)):=zC.trans ((zC.of_below hbb).mono (S':=[g]) (by simp)) hks (fun x hx=>.inl hx);have Hsl6:=Lib.hid hsl6;clear hown5 hown6 hsl6 hbb hks;(go_wp2_with fail);go_ret;first | exact ⟨yE HE.out.symm,A5,m + 1 + (n - m),cap5,hfin,by rw [Hin.out];exact Hsl6.out,hgA5,hkf⟩ | exact ⟨A5,m + 1 + (n - m),cap5,yE HE.out.symm,hfin,by rw [Hin.out];exact Hsl6.out,hgA5,hkf⟩
  · have hE1 : (E != 0) = true:=by simpa using hE0
    have Hin : Hid (uA L x = L):=(show _ = _ by unfold uA;rw [if_neg (by rw [HE.out];exact hE0)])
    have hkz : zC [g] w w1:=(zC.of_below hb01).mono (S':=[g]) (by simp);have Hsz:=Lib.hid hsw1;clear hE0 hsw1 hr1 hc1 hb01;(go_wp2_with fail);go_ret;exact ⟨A,n,cap,yE HE.out.symm,by rw [eW hcs];exact hg1,by rw [Hin.out];exact Hsz.out,hgA,hkz⟩
set_option maxRecDepth 100000 in
set_option maxHeartbeats 2000000 in
theorem rsdel8 (d : zK) (w : World) (g : Nat) (cs : Array Value) (A : Option Addr) (n cap : Nat) (G : List zK) (hg : w.heap[g]? = some (.cells cs 69 (0,0))) (hcs : cs[9]? = some (.slice A n cap)) (hI : pI w A n cap G) (hgA : g ∉ blk A) (hr : Ris zO G) (hn : n ≤ 100000) :
    Calls Tryz.prog 149 #[.pointer (some ⟨g,8,none⟩),.agg (idC d)] w fun e w'=>∃ A' cap',e = .returned (.tuple #[]) ∧ w'.heap[g]? = some (.cells (cs.setIfInBounds 9 (.slice A' (xJ zO G d).length cap')) 69 (0,0)) ∧ pI w' A' (xJ zO G d).length cap' (xJ zO G d) ∧ g ∉ blk A' ∧ zC [g] w w':=by
  have hgl : g < w.heap.size:=(Array.getElem?_eq_some_iff.1 hg).1;have hb0 : Below w.heap.size w (w.alloc (.cells (idC d) 39)):=(Below.refl _ _).alloc (Nat.le_refl _) _;have hr0 : zF (w.alloc (.cells (idC d) 39)) w.heap.size 0 32 = some (idC d):=by simp [go_sem]
  go_enter Tryz.func149,Tryz.ntmps149
  go_upto_region 1 with fail
  obtain ⟨gx,hgx⟩ : ∃ gx,w.heap.size = gx:=⟨_,rfl⟩
  obtain ⟨W,hW⟩ : ∃ W,w.alloc (.cells (idC d) 39) = W:=⟨_,rfl⟩
  rw [hW] at hb0 hr0;rw [hW];rw [hgx] at hr0 ⊢;have Hgx:=Lib.hid hgx;have hgW:=(hb0.block g hgl).trans hg;have hcW : W.cell? ⟨g,9,none⟩ = some (.slice A n cap):=by rw [cell_of_row W g 9 _ _ _ hgW];exact hcs
  have hIW:=hI.below hb0;have c1:=YI W.drew A n cap G d (hIW.below (zG W)) (by omega) hr;clear hW hgx;refine qQ (Kp [] W) false (by kernel_rfl) (by kernel_rfl) (by kernel_rfl) (by kernel_rfl) (yB [] W) ?_;have hne:=xD [] W;have hS:=yB [] W;have b1:=yP hr0 (S:=[]) (by simp);have b2:=zZ hcW (S:=[]) (by simp);repeat (refine zB ?_ ?_;(focus (simp only [zA];done));intro K hK;go_simp;refine hK _ ?_;clear hK K)
  refine zH ?_ ?_ ?_;(focus (exact hS));(focus (simp only [zA];done));intro K hK;go_simp;refine c1.mono ?_;rintro e w3 ⟨A',cap',rfl,hI3,hsub3,hb3⟩;have hb30 : Below W.heap.size W w3:=yJ (zG W) hb3;have hb3w:=yN hb0 hb30;refine ⟨_,rfl,(zC.of_below hb30),hK _ _ ?_⟩;clear hK K;have hg3 : w3.heap[g]? = some (.cells cs 69 (0,0)):=(hb3w.block g hgl).trans hg;have hc3 : w3.cell? ⟨g,9,none⟩ = some (.slice A n cap):=by rw [cell_of_row w3 g 9 _ _ _ hg3];exact hcs
  have hf3 : w3.frozen? ⟨g,9,none⟩ = false:=by simp [World.frozen?,hg3]
  repeat (refine zB ?_ ?_;(focus (simp only [zA];done));intro K hK;go_simp;refine hK _ ?_;clear hK K)
  refine kR ?_ ?_;(focus (simp only [zA];done));intro K hK;go_simp;refine hK _ _ ?_;clear hK K;have hfin:=zM hg3 9 (.slice A' (xJ zO G d).length cap');have hks:=zC.setCell w3 ⟨g,9,none⟩ (.slice A' (xJ zO G d).length cap');have hgA3 : g ∉ blk A':=fun hx=>by
    rcases hsub3 g hx with h1 | h1
    · exact hgA h1
    · have h2:=hb0.size;have h3 : W.drew.heap.size = W.heap.size:=rfl;omega
  have hI4:=hI3.kept hks (fun x hx hm=>hgA3 (by simp at hm;rw [← hm];exact hx));have hkf : zC [g] w (w3.setCell ⟨g,9,none⟩ (.slice A' (xJ zO G d).length cap')):=zC.trans ((zC.of_below hb3w).mono (S':=[g]) (by simp)) hks (fun x hx=>.inl hx);clear hI3 hks hg3 hc3 hf3 b1 b2 hne hS c1;(go_wp2_with fail);go_end0;exact ⟨A',cap',rfl,hfin,hI4,hgA3,hkf⟩
end
section
open Go.RowKit
theorem sA : (Tryz.prog.info? 210).map (·.size) = some 34:=by kernel_rfl
@[go_sem ↓] theorem pM (w : World) : (zeroValue 210).run Tryz.prog w = .ok (.agg (zQ g3)) w:=by
  have h : (Tryz.prog.info? 210).bind (·.zero) = some (.agg (zQ g3)):=by kernel_rfl
  cases hi : Tryz.prog.info? 210 with
  | none=>rw [hi] at h;cases h
  | some i =>
    rw [hi] at h;have hz : i.zero = some (.agg (zQ g3)):=h;simp [zeroValue,typeInfo,hi,hz]
@[go_sem ↓] theorem loadRMRow_rw (a : Addr) : loadVar 210 a = ldS 210 a:=rfl
@[go_sem ↓] theorem storeRMRow_rw (a : Addr) (v : Value) : storeVar 210 a v = stS 210 a v:=rfl
@[go_sem] theorem loadRMRow_run (w : World) (g o : Nat) : (ldS 210 ⟨g,o,none⟩).run Tryz.prog w = match zF w g o 34 with | some cs=>.ok (.agg cs) w | none=>(loadVar 210 ⟨g,o,none⟩).run Tryz.prog w :=
  vU Tryz.underlying210 rfl sA w g o
@[go_sem] theorem JX (w : World) (g : Nat) (hg : g = w.heap.size) (z : Array Value) (hz : z.size = 34) (x : xT) (e : TypeId) : (stS 210 ⟨g,0,none⟩ (.agg (zQ x))).run Tryz.prog (w.alloc (.cells z e)) = .ok () (w.alloc (.cells (zQ x) e)) :=
  hg ▸ jM sA w z (zQ x) hz (vB x) (qY x)
theorem mB : Tryz.prog.underlying 210 = some (.struct (Tryz.prog.fieldsOf 210)):=by kernel_rfl
theorem iF (w : World) : ((Tryz.prog.fieldsOf 210).mapM fun (f : Field)=>do pure (f.offset,← sizeOf f.type)).run Tryz.prog w = .ok #[(0,32),(32,1),(33,1)] w:=by kernel_rfl
@[go_sem ↓] theorem buildRMRow_rw (parts : Array (Nat × Value)) : Instr.build 210 parts = bdS 210 parts:=rfl
@[go_sem] theorem buildRMRow (a0 : zK) (a1 : ByteArray) (a2 : ByteArray) (w : World) : (bdS 210 #[(0,.agg (idC a0)),(1,.string a1),(2,.string a2)]).run Tryz.prog w = .ok (.agg (zQ ⟨a0,a1,a2⟩)) w:=by
  refine jE w mB _ (pM w) _ (iF w) [(0,.agg (idC a0)),(1,.string a1),(2,.string a2)] _ ?_;rw [show zQ g3 = (#[] : Array Value) ++ idC id0 ++ (#[.string ⟨#[]⟩] ++ (#[.string ⟨#[]⟩])) from by first | (simp [zQ,g3,Array.append_assoc];done) | (apply Array.ext';simp [zQ,g3])];rw [yQ (off:=0) (size:=32) rfl (by simp) (by simp) (by simp [Value.cells])];rw [show (#[] : Array Value) ++ (Value.agg (idC a0)).cells ++ (#[.string ⟨#[]⟩] ++ (#[.string ⟨#[]⟩])) = (idC a0) ++ #[.string ⟨#[]⟩] ++ (#[.string ⟨#[]⟩]) from by first | (simp [Value.cells,Array.append_assoc];done) | (apply Array.ext';simp [Value.cells];done) | (apply Array.ext';simp only [Array.toList_append];simp [Value.cells])];rw [yQ (off:=32) (size:=1) rfl (by simp) (by simp) (by simp [Value.cells])];rw [show (idC a0) ++ (Value.string a1).cells ++ (#[.string ⟨#[]⟩]) = (idC a0 ++ (#[.string a1])) ++ #[.string ⟨#[]⟩] ++ (#[] : Array Value) from by first | (simp [Value.cells,Array.append_assoc];done) | (apply Array.ext';simp [Value.cells];done) | (apply Array.ext';simp only [Array.toList_append];simp [Value.cells])];rw [yQ (off:=33) (size:=1) rfl (by simp) (by simp) (by simp [Value.cells])];first | (simp [Instr.fill,zQ,Array.append_assoc,Value.cells];done) | (simp only [Instr.fill,zQ];congr 1;apply Array.ext';simp [Value.cells];done) | (simp only [Instr.fill,zQ];congr 1;done) | (simp only [Instr.fill,zQ];done)
theorem jR : xF Tryz.prog 62 210 34 64 :=
  .of (z:=.agg (zQ g3)) Tryz.underlying62 (by kernel_rfl) (by kernel_rfl) (by kernel_rfl) (vB _) (by omega)
@[go_sem ↓] theorem bsRM_rw (n : Nat) (parts : Array (Nat × Value)) : Instr.buildSlice 62 n parts = bsS 62 n parts:=rfl
@[go_sem] theorem bsRM_run (w : World) (x : xT) : (bsS 62 1 #[(0,.agg (zQ x))]).run Tryz.prog w = .ok (.slice (some ⟨w.heap.size,0,none⟩) 1 1) (w.alloc (.cells (zQ x) 210)) :=
  kS jR (by omega) w (zQ x) (vB x)
@[go_sem] theorem bsRM0_run (w : World) : (bsS 62 0 #[]).run Tryz.prog w = .ok (.slice (some ⟨w.heap.size,0,none⟩) 0 0) (w.alloc (.cells #[] 210)):=fV jR w
@[go_sem ↓] theorem slRM_rw (x : Value) (lo hi mx : Option Value) : Instr.sliceAt 62 x lo hi mx = slS 62 x lo hi mx:=rfl
def Q9 (x y : xT) : Bool:=(x.id == y.id) && ((x.key.toList == y.key.toList) && (x.val.toList == y.val.toList))
theorem mEqB_eq (x y : xT) : Q9 x y = decide (x = y):=by
  unfold Q9;rw [Bool.eq_iff_iff];simp only [Bool.and_eq_true,beq_iff_eq,toList_inj,decide_eq_true_eq];refine ⟨fun h=>?_,fun h=>by subst h;exact ⟨rfl,rfl,rfl⟩⟩;cases x;cases y
  obtain ⟨h1,h2,h3⟩:=h;dsimp only at h1 h2 h3;subst h1;subst h2;subst h3;rfl
theorem eqRM_in (x y : xT) (w : World) : (Op.equalIn 10000 210 (.agg (zQ x)) (.agg (zQ y))).run Tryz.prog w = .ok (Q9 x y) w:=by
  rw [show (10000 : Nat) = 9999 + 1 from rfl,run_equalIn_agg w 9999 210 _ _ mB (by kernel_rfl)];unfold Q9;have e1:=eD 9997 x.id y.id w;have e2:=run_equalIn_string (P:=Tryz.prog) w 9998 9 x.key y.key Tryz.underlying9;have e3:=run_equalIn_string (P:=Tryz.prog) w 9998 9 x.val y.val Tryz.underlying9;simp only [Program.fieldsOf,Tryz.underlying210];simp [Op.eqFields,part,asAgg,isAgg,go_sem,Tryz.underlying9,Tryz.underlying39,e1,e2,e3];cases h1 : (x.id == y.id) <;> cases h2 : (x.key.toList == y.key.toList) <;> cases h3 : (x.val.toList == y.val.toList) <;> simp_all
@[go_sem ↓] theorem eqRM_run (x y : xT) (w : World) : (Op.equalIn 10000 210 (.agg (zQ x)) (.agg (zQ y))).run Tryz.prog w = .ok (Q9 x y) w:=eqRM_in x y w
abbrev vY (w : World) (A : Option Addr) (n : Nat) (R : List xT) : Prop:=SlR w A n 34 (R.map zQ)
theorem vY.len {w : World} {A : Option Addr} {n : Nat} {R : List xT} (h : vY w A n R) : R.length = n:=by simpa using h.1
theorem vY.get {w : World} {A : Option Addr} {n : Nat} {R : List xT} (h : vY w A n R) {i : Nat} (hi : i < n) (hR : i < R.length) :
    ∃ g o,A = some ⟨g,o,none⟩ ∧ zF w g (o + i * 34) 34 = some (zQ R[i]) ∧ zF w g (o + i * 34) 32 = some (idC (R[i]).id) ∧ w.cell? ⟨g,o + i * 34 + 32,none⟩ = some (.string (R[i]).key) ∧ w.cell? ⟨g,o + i * 34 + 33,none⟩ = some (.string (R[i]).val):=by
  obtain ⟨g,o,e,hr⟩:=h.at_ hi;rw [List.getElem_map] at hr;refine ⟨g,o,e,hr,?_,?_,?_⟩
  · have:=y7 hr (j:=0) (m:=32) (by omega)
    rwa [g1] at this
  · have:=zD hr (j:=32) (by omega)
    rwa [fJ] at this
  · have:=zD hr (j:=33) (by omega)
    rwa [fI] at this
theorem cP (a b : Int) : orC a b < 0 ↔ a < 0 ∨ (a = 0 ∧ b < 0):=by
  unfold orC;split <;> omega
theorem KZ (x y : xT) : qN x y < 0 ↔ zO x.id y.id < 0 ∨ (zO x.id y.id = 0 ∧ (xS x.key y.key < 0 ∨ (x.key = y.key ∧ xS x.val y.val < 0))):=by
  unfold qN;rw [orL3,cP,cP,fL]
set_option maxHeartbeats 2000000 in
theorem rmless (x y : xT) (w : World) : Calls Tryz.prog 220 #[.agg (zQ x),.agg (zQ y)] w fun e w'=>e = .returned (.bool (decide (qN x y < 0))) ∧ Below w.heap.size w w':=by
  have hB : Below w.heap.size w ((w.alloc (.cells (zQ x) 210)).alloc (.cells (zQ y) 210)):=((Below.refl _ _).alloc (Nat.le_refl _) _).alloc (by simp) _;have h0 : decide (qN x y < 0) = decide (zO x.id y.id < 0 ∨ (zO x.id y.id = 0 ∧ (xS x.key y.key < 0 ∨ (x.key = y.key ∧ xS x.val y.val < 0)))):=decide_eq_decide.2 (KZ x y);have hs:=kB x.key y.key;have hs2:=kB x.val y.val;have ra : zF ((w.alloc (.cells (zQ x) 210)).alloc (.cells (zQ y) 210)) w.heap.size 0 34 = some (zQ x):=by simp [go_sem]
  have rb : zF ((w.alloc (.cells (zQ x) 210)).alloc (.cells (zQ y) 210)) (w.heap.size + 1) 0 34 = some (zQ y):=by simp [go_sem]
  have H0:=Lib.hid h0;clear h0;go_enter Tryz.func220,Tryz.ntmps220
  go_upto_region 1 with fail
  generalize (w.alloc (.cells (zQ x) 210)).alloc (.cells (zQ y) 210) = W at *;have a1 : zF W w.heap.size 0 32 = some (idC x.id):=by have:=y7 ra (j:=0) (m:=32) (by omega);rwa [g1] at this
  have a2 : W.cell? ⟨w.heap.size,32,none⟩ = some (.string x.key):=by have:=zD ra (j:=32) (by omega);rwa [fJ,Nat.zero_add] at this
  have a5 : W.cell? ⟨w.heap.size,33,none⟩ = some (.string x.val):=by have:=zD ra (j:=33) (by omega);rwa [fI,Nat.zero_add] at this
  have a3 : zF W (w.heap.size + 1) 0 32 = some (idC y.id):=by have:=y7 rb (j:=0) (m:=32) (by omega);rwa [g1] at this
  have a4 : W.cell? ⟨w.heap.size + 1,32,none⟩ = some (.string y.key):=by have:=zD rb (j:=32) (by omega);rwa [fJ,Nat.zero_add] at this
  have a6 : W.cell? ⟨w.heap.size + 1,33,none⟩ = some (.string y.val):=by have:=zD rb (j:=33) (by omega);rwa [fI,Nat.zero_add] at this
  clear ra rb;have c1:=d5 x.id y.id W;obtain ⟨c,hc⟩ : ∃ c,zO x.id y.id = c:=⟨_,rfl⟩
  rw [hc] at c1;obtain ⟨sk,hsk⟩ : ∃ sk,Op.bytesLess x.key.toList y.key.toList = sk:=⟨_,rfl⟩
  obtain ⟨sv,hsv⟩ : ∃ sv,Op.bytesLess x.val.toList y.val.toList = sv:=⟨_,rfl⟩
  obtain ⟨se,hse⟩ : ∃ se,(x.key.toList == y.key.toList) = se:=⟨_,rfl⟩
  have hk' : sk = decide (xS x.key y.key < 0):=hsk.symm.trans hs;have hv' : sv = decide (xS x.val y.val < 0):=hsv.symm.trans hs2;have he' : se = decide (x.key = y.key):=by rw [← hse,Bool.eq_iff_iff,beq_iff_eq,toList_inj,decide_eq_true_eq]
  rw [hc] at H0;have H1 : Hid (decide (qN x y < 0) = decide (c < 0 ∨ (c = 0 ∧ (sk = true ∨ (se = true ∧ sv = true))))):=by
    show _ = _;rw [H0.out,hk',hv',he'];simp only [decide_eq_true_eq]
  clear hc hs hs2 hk' hv' he' H0;(go_wp2_with fail);refine c1.mono ?_;rintro e W2 ⟨rfl,hb⟩;have d2:=(hb.cell (p:=⟨w.heap.size,32,none⟩) (World.block_lt_of_cell? W _ a2)).trans a2;have d3:=(hb.cell (p:=⟨w.heap.size,33,none⟩) (World.block_lt_of_cell? W _ a5)).trans a5;have e2:=(hb.cell (p:=⟨w.heap.size + 1,32,none⟩) (World.block_lt_of_cell? W _ a4)).trans a4;have e3:=(hb.cell (p:=⟨w.heap.size + 1,33,none⟩) (World.block_lt_of_cell? W _ a6)).trans a6;have hB2:=hB.trans (hb.mono hB.size);clear a1 a2 a3 a4 a5 a6 hb hB c1;by_cases h1 : c < 0
  · have Hf : Hid (decide (qN x y < 0) = true):=(show _ = _ by rw [H1.out];simp [h1])
    clear H1;(go_wp2_with fail);go_ret;exact ⟨yG (by rw [Hf.out]),hB2⟩
  · by_cases h2 : c = 0
    · subst h2;cases sk with
      | true =>
        have Hf : Hid (decide (qN x y < 0) = true):=(show _ = _ by rw [H1.out];simp)
        clear H1;(go_wp2_with fail);go_ret;exact ⟨yG (by rw [Hf.out]),hB2⟩
      | false =>
        cases se with
        | true =>
          have Hf : Hid (decide (qN x y < 0) = sv):=(show _ = _ by rw [H1.out];simp)
          clear H1;cases sv with
          | true =>
            (go_wp2_with fail);go_ret;exact ⟨yG (by rw [Hf.out]),hB2⟩
          | false =>
            (go_wp2_with fail);go_ret;exact ⟨yG (by rw [Hf.out]),hB2⟩
        | false =>
          have Hf : Hid (decide (qN x y < 0) = false):=(show _ = _ by rw [H1.out];simp)
          clear H1;(go_wp2_with fail);go_ret;exact ⟨yG (by rw [Hf.out]),hB2⟩
    · have h3 : (c == 0) = false:=by rw [beq_eq_false_iff_ne];exact h2
      have Hf : Hid (decide (qN x y < 0) = false):=(show _ = _ by rw [H1.out,decide_eq_false_iff_not];rintro (h | ⟨h,_⟩);exact h1 h;exact h2 h)
      clear H1 h2;(go_wp2_with fail);go_ret;exact ⟨yG (by rw [Hf.out,decide_eq_false_iff_not];omega),hB2⟩
end
section
open Go.RowKit
def RefM (w : World) (g j : Nat) (X : List xT) (G : List zK) : Prop :=
  ∃ A n cap A' n' cap',w.cell? ⟨g,j,none⟩ = some (.slice A n cap) ∧ w.cell? ⟨g,j + 1,none⟩ = some (.slice A' n' cap') ∧ vY w A n X ∧ y4 w A' n' G
def lvM (X : List xT) (G : List zK) : List xT:=yA qN (X.filter fun x=>decide (x.id ∉ G))
theorem K7 (X : List xT) (G : List zK) (k : Nat) (hk : k < X.length) : lvM (X.take (k + 1)) G = if X[k].id ∈ G then lvM (X.take k) G else xJ qN (lvM (X.take k) G) X[k]:=by
  unfold lvM;rw [List.take_add_one,List.getElem?_eq_getElem hk,Option.toList_some,List.filter_append];by_cases h : X[k].id ∈ G
  · rw [if_pos h];simp [h]
  · rw [if_neg h];simp only [List.filter_cons,h,not_false_eq_true,decide_true,if_true,List.filter_nil];rw [kF]
theorem cU (X : List xT) (G : List zK) : (lvM X G).length ≤ X.length:=Nat.le_trans (yS _) (List.length_filter_le _ _)
theorem ZZ (X : List xT) : ∀ r ∈ X.map zQ,∀ u ∈ r.toList,u.oneCell' = true:=by
  intro r hr;obtain ⟨x,_,rfl⟩:=List.mem_map.1 hr;exact qY x
set_option maxRecDepth 100000 in
set_option maxHeartbeats 4000000 in
theorem VF (w : World) (g : Nat) (X : List xT) (G : List zK) (h : RefM w g 6 X G) (hX : X.length ≤ 100000) (hG : G.length ≤ 100000) :
    Calls Tryz.prog 152 #[.pointer (some ⟨g,6,none⟩)] w fun e w'=>∃ A n cap,e = .returned (.slice A n cap) ∧ Own w' w.heap.size 210 34 A n cap ((lvM X G).map zQ) ∧ Below w.heap.size w w':=by
  obtain ⟨XA,nx,xc,GA,ng,gc,hc0,hc1,hXr,hGr⟩:=h;have hnx : X.length = nx:=hXr.len;have hng : G.length = ng:=by simpa using hGr.len
  have Hnx:=Lib.hid hnx;have hnx1 : nx ≤ 100000:=by omega
  have hng1 : ng ≤ 100000:=by omega
  clear hnx hng;go_enter Tryz.func152,Tryz.ntmps152
  (go_wp2_with fail);go_loopw [3,4] (fun out i wr=>∃ (k : Nat) (A1 : Option Addr) (n1 cap1 : Nat),k ≤ nx ∧ i = .int .i64 k ∧ out = .slice A1 n1 cap1 ∧ Own wr w.heap.size 210 34 A1 n1 cap1 ((lvM (X.take k) G).map zQ) ∧ Below w.heap.size w wr) (fun _ i _=>nx - (intOf i).toNat)
  case atStart=>exact ⟨0,none,0,0,Nat.zero_le _,rfl,rfl,Own.nil _ _ _ _,Below.refl _ _⟩
  case round =>
    obtain ⟨k,A1,n,cap1,hk,rfl,rfl,hown,hb⟩:=hrel;have hcr0:=(hb.cell (p:=⟨g,6,none⟩) (World.block_lt_of_cell? w _ hc0)).trans hc0;have hcr1:=(hb.cell (p:=⟨g,7,none⟩) (World.block_lt_of_cell? w _ hc1)).trans hc1;by_cases hlt : k < nx
    · have hltX : k < X.length:=by rw [Hnx.out];exact hlt
      obtain ⟨q,o,rfl,hrx0,_⟩:=vY.get (SlR.below hXr hb) hlt hltX;have htk:=K7 X G k hltX;have hOl : (lvM (X.take k) G).length = n:=by simpa using hown.len
      have hol : n ≤ 100000:=by have:=cU (X.take k) G;simp at this;omega
      have hris : Ris qN (lvM (X.take k) G):=xB fS _;obtain ⟨O,hO⟩ : ∃ O,lvM (X.take k) G = O:=⟨_,rfl⟩
      obtain ⟨x,hx⟩ : ∃ x,X[k]'hltX = x:=⟨_,rfl⟩
      rw [hx] at hrx0 htk;rw [hO] at htk hown hris hOl;have Htk0:=Lib.hid htk;have Hlen:=Lib.hid hOl;have Hris:=Lib.hid hris;clear hx hO htk hOl hris;have hszr:=hb.size;have hbx : Below wr.heap.size wr (wr.alloc (.cells (zQ x) 210)):=(Below.refl _ _).alloc (Nat.le_refl _) _;have hown1:=hown.below hbx;have hb1 : Below w.heap.size w (wr.alloc (.cells (zQ x) 210)):=hb.trans (hbx.mono hszr);have hrx1 : zF (wr.alloc (.cells (zQ x) 210)) wr.heap.size 0 34 = some (zQ x):=by simp [go_sem]
      have hcx1:=(hbx.cell (p:=⟨g,7,none⟩) (World.block_lt_of_cell? wr _ hcr1)).trans hcr1;have hG1 : y4 (wr.alloc (.cells (zQ x) 210)) GA ng G:=SlR.below hGr hb1;go_upto_region 6 with fail
      obtain ⟨gx,hgx⟩ : ∃ gx,wr.heap.size = gx:=⟨_,rfl⟩
      obtain ⟨WR,hWR⟩ : ∃ WR,wr.alloc (.cells (zQ x) 210) = WR:=⟨_,rfl⟩
      rw [hWR] at hown1 hb1 hrx1 hcx1 hG1 ⊢;rw [hgx] at hrx1 ⊢;have hid1 : zF WR gx 0 32 = some (idC x.id):=by have:=y7 hrx1 (j:=0) (m:=32) (by omega);rwa [g1] at this
      have c1:=rK WR.drew GA ng gc G x.id hG1 (by omega);clear hgx hWR hown hb hbx hcr0 hcr1 hrx0 hszr;by_cases hin : x.id ∈ G
      · rw [decide_eq_true hin] at c1;have Htk : Hid (lvM (X.take (k + 1)) G = O):=(show _ = _ by rw [Htk0.out,if_pos hin])
        clear hin;refine zE (Bel WR) false (by kernel_rfl) (by kernel_rfl) (by kernel_rfl) (zG WR) ?_;have hne:=zX WR;have hS:=zG WR;have b1:=yD hid1;have b2:=zT hcx1;repeat (refine zB ?_ ?_;(focus (simp only [zA];done));intro K hK;go_simp;refine hK _ ?_;clear hK K)
        refine zH ?_ ?_ ?_;(focus (exact hS));(focus (simp only [zA];done));intro K hK;go_simp;refine (c1).mono ?_;rintro e w' ⟨rfl,hb⟩;replace hS:=yJ hS hb;refine ⟨_,rfl,hS,hK _ _ ?_⟩;clear hK K hb;repeat (refine zB ?_ ?_;(focus (simp only [zA];done));intro K hK;go_simp;refine hK _ ?_;clear hK K)
        refine zN ?_;intro hS;have hS' : Below WR.heap.size WR w':=hS;have hbz:=yN hb1 hS';have hown2:=hown1.below hS';clear b1 b2 hne hS c1 hS' hown1 hb1;(go_wp2_with fail);go_roundw
        case rel=>exact ⟨k + 1,A1,n,cap1,by omega,by go_num,rfl,(by rw [Htk.out];exact hown2),hbz⟩
        case measure=>simp [intOf];omega
      · rw [decide_eq_false hin] at c1;have Htk : Hid (lvM (X.take (k + 1)) G = xJ qN O x):=(show _ = _ by rw [Htk0.out,if_neg hin])
        clear hin;refine zE (Bel WR) false (by kernel_rfl) (by kernel_rfl) (by kernel_rfl) (zG WR) ?_;have hne:=zX WR;have hS:=zG WR;have b1:=yD hid1;have b2:=zT hcx1;repeat (refine zB ?_ ?_;(focus (simp only [zA];done));intro K hK;go_simp;refine hK _ ?_;clear hK K)
        refine zH ?_ ?_ ?_;(focus (exact hS));(focus (simp only [zA];done));intro K hK;go_simp;refine (c1).mono ?_;rintro e w' ⟨rfl,hb⟩;replace hS:=yJ hS hb;refine ⟨_,rfl,hS,hK _ _ ?_⟩;clear hK K hb;repeat (refine zB ?_ ?_;(focus (simp only [zA];done));intro K hK;go_simp;refine hK _ ?_;clear hK K)
        refine zN ?_;intro hS;have hS' : Below WR.heap.size WR w':=hS;have hb2:=yN hb1 hS';have hsw2:=(hown1.below hS').slw;have hown2:=hown1.below hS';have hrx2 : zF w' gx 0 34 = some (zQ x):=(zI (hS'.block gx (zL hrx1)) _ _).trans hrx1;clear b1 b2 hne hS c1 hS' hown1 hb1 hid1 hcx1 hG1 hrx1;obtain ⟨V,rfl⟩ : ∃ V,V = w':=⟨w',rfl⟩
        (go_wp2_with fail);go_loopw [6] (fun j wj=>∃ m : Nat,m ≤ n ∧ j = .int .i64 m ∧ Hid (∀ i (hi : i < O.length),i < m → qN O[i] x < 0) ∧ Below V.heap.size V wj) (fun j _=>n - (intOf j).toNat)
        case atStart=>exact ⟨0,Nat.zero_le _,rfl,(show ∀ i (hi : i < O.length),i < 0 → _ from fun i _ h=>absurd h (by omega)),Below.refl _ _⟩
        case round =>
          obtain ⟨m,hmO,rfl,hlow,hbj⟩:=hrel;have hrj : zF wr gx 0 34 = some (zQ x):=(zI (hbj.block gx (zL hrx2)) _ _).trans hrx2;have hswj:=hsw2.below hbj;by_cases hmlt : m < n
          · obtain ⟨q2,o2,rfl,hrO,_⟩:=vY.get hswj.rd hmlt (by rw [Hlen.out];exact hmlt);have hmem : O[m]'(by rw [Hlen.out];exact hmlt) ∈ O:=List.getElem_mem _;obtain ⟨y,hy⟩ : ∃ y,O[m]'(by rw [Hlen.out];exact hmlt) = y:=⟨_,rfl⟩
            rw [hy] at hrO hmem;have Hy:=Lib.hid hy;have Hmem:=Lib.hid hmem;clear hy hmem;have c2:=rmless y x wr.drew;by_cases hyx : qN y x < 0
            · rw [decide_eq_true hyx] at c2;have Hyx:=Lib.hid hyx;clear hyx;go_upto_region 8 with fail
              refine zE (Bel wr) false (by kernel_rfl) (by kernel_rfl) (by kernel_rfl) (zG wr) ?_;have hne:=zX wr;have hS:=zG wr;have b1:=yD hrj;have b2:=yD hrO;repeat (refine zB ?_ ?_;(focus (simp only [zA];done));intro K hK;go_simp;refine hK _ ?_;clear hK K)
              refine zH ?_ ?_ ?_;(focus (exact hS));(focus (simp only [zA];done));intro K hK;go_simp;refine (c2).mono ?_;rintro e w' ⟨rfl,hb⟩;replace hS:=yJ hS hb;refine ⟨_,rfl,hS,hK _ _ ?_⟩;clear hK K hb;repeat (refine zB ?_ ?_;(focus (simp only [zA];done));intro K hK;go_simp;refine hK _ ?_;clear hK K)
              refine zN ?_;intro hS;have hS' : Below wr.heap.size wr w':=hS;have hbz:=yN hbj hS';clear b1 b2 hne hS c2;(go_wp2_with fail);go_roundw
              case rel =>
                refine ⟨m + 1,by omega,by go_num,(show ∀ i (hi : i < O.length),i < m + 1 → qN O[i] x < 0 from fun i hi hlt=>?_),hbz⟩;by_cases e : i = m
                · subst e;rw [Hy.out];exact Hyx.out
                · exact hlow.out i hi (by omega)
              case measure=>simp [intOf];omega
            · rw [decide_eq_false hyx] at c2;have heqb:=mEqB_eq y x;obtain ⟨eb,heb⟩ : ∃ eb,Q9 y x = eb:=⟨_,rfl⟩
              rw [heb] at heqb;have Heqb:=Lib.hid heqb;have Hyx:=Lib.hid hyx;clear heqb hyx;go_upto_region 8 with fail
              refine zE (Bel wr) false (by kernel_rfl) (by kernel_rfl) (by kernel_rfl) (zG wr) ?_;have hne:=zX wr;have hS:=zG wr;have b1:=yD hrj;have b2:=yD hrO;repeat (refine zB ?_ ?_;(focus (simp only [zA];done));intro K hK;go_simp;refine hK _ ?_;clear hK K)
              refine zH ?_ ?_ ?_;(focus (exact hS));(focus (simp only [zA];done));intro K hK;go_simp;refine (c2).mono ?_;rintro e w' ⟨rfl,hb⟩;replace hS:=yJ hS hb;refine ⟨_,rfl,hS,hK _ _ ?_⟩;clear hK K hb;repeat (refine zB ?_ ?_;(focus (simp only [zA];done));intro K hK;go_simp;refine hK _ ?_;clear hK K)
              refine zN ?_;intro hS;have hS' : Below wr.heap.size wr w':=hS;have hbz:=yN hbj hS';have hrk : zF w' gx 0 34 = some (zQ x):=(zI (hS'.block gx (zL hrj)) _ _).trans hrj;have hrP : zF w' q2 (o2 + m * 34) 34 = some (zQ y):=(zI (hS'.block q2 (zL hrO)) _ _).trans hrO;clear b1 b2 hne hS c2 hS' hbj hrj hrO hswj;obtain ⟨WK,rfl⟩ : ∃ WK,WK = w':=⟨w',rfl⟩
              go_upto_region 10 with fail
              refine zE (Bel WK) false (by kernel_rfl) (by kernel_rfl) (by kernel_rfl) (zG WK) ?_;have hne:=zX WK;have hS:=zG WK;have b1:=yD hrk;have b2:=yD hrP;repeat (refine zB ?_ ?_;(focus (simp only [zA];done));intro K hK;go_simp;refine hK _ ?_;clear hK K)
              refine zN ?_;intro hS;have hbz2 : Below V.heap.size V WK.drew:=hbz.drew;have hrx : zF WK.drew gx 0 34 = some (zQ x):=hrk;have hsw:=hsw2.below hbz2;have hownw:=hown2.below hbz2;have hBw:=hb2.trans (hbz2.mono hb2.size);clear b1 b2 hne hS hrk hrP hbz hbz2 hrx2 heb;obtain ⟨W,hW⟩ : ∃ W,WK.drew = W:=⟨_,rfl⟩
              rw [hW] at hrx hsw hownw hBw ⊢;clear hW;cases eb with
              | true =>
                have e : y = x:=by simpa using Heqb.out.symm
                have hat:=dA fS Hris.out (x:=x) (by rw [← e];exact Hmem.out);have Hat : Hid (lvM (X.take (k + 1)) G = O):=(show _ = _ by rw [Htk.out,hat])
                clear e hat;(go_wp2_with fail);go_roundw
                case rel=>exact ⟨k + 1,_,n,cap1,by omega,by go_num,rfl,(by rw [Hat.out];exact hownw),hBw⟩
                case measure=>simp [intOf];omega
              | false =>
                have e : ¬ y = x:=by simpa using Heqb.out.symm
                have hat:=jQ (c:=qN) O x m (by rw [Hlen.out];exact hmO) hlow.out (fun hk'=>by
                  rw [Hy.out];have h1 : qN y x ≠ 0:=fun e'=>e ((fS.zero _ _).1 e');have:=Hyx.out;omega)
                have Hat:=Lib.hid hat;clear e hat;obtain ⟨A,hA1⟩ : ∃ A,(some ⟨q2,o2,none⟩ : Option Addr) = A:=⟨_,rfl⟩
                rw [hA1] at hsw hownw ⊢;clear hA1;obtain ⟨d,hd⟩ : ∃ d,d = x:=⟨_,rfl⟩
                rw [← hd] at hrx Hat Htk ⊢;obtain ⟨cap,hcap⟩ : ∃ cap,cap = cap1:=⟨_,rfl⟩
                rw [← hcap] at hsw hownw ⊢;clear hd hcap;have hBx : Below W.heap.size W (W.alloc (.cells #[] 210)):=(Below.refl _ _).alloc (Nat.le_refl _) _;have hown0:=Own.empty W W.heap.size 210 34 (Nat.le_refl _);have hlo : ∀ w0 : World,(slS 62 (.slice A n cap) none (some (.int .i64 m)) none).run Tryz.prog w0 = .ok (.slice A m cap) w0:=fun w0=>SlW.lo jR hsw hmO w0;obtain ⟨Ah,ch,hhi,hhs,hhf⟩:=hsw.hi (P:=Tryz.prog) jR (m:=m) hmO;have hslo : SlR (W.alloc (.cells #[] 210)) A m 34 ((O.map zQ).take m):=(hsw.rd.below hBx).take_ hmO;have hf1:=hsw.nil;have hrone : ∀ r ∈ (O.map zQ).take m,∀ u ∈ r.toList,u.oneCell' = true:=fun r hr=>(by obtain ⟨y',_,rfl⟩:=List.mem_map.1 (List.mem_of_mem_take hr);exact qY _);have hrone2 : ∀ r ∈ (O.map zQ).drop m,∀ u ∈ r.toList,u.oneCell' = true:=fun r hr=>(by obtain ⟨y',_,rfl⟩:=List.mem_map.1 (List.mem_of_mem_drop hr);exact qY _);go_upto_region 12 with (at_builtin;refine yF jR rfl hown0 rfl hslo hf1 hrone (by omega) (by omega) (by simp) ?_;intro A2 cap2 w2 hown2 hk2 hsub2)
                simp only [Nat.zero_add,List.nil_append] at hown2;have hwW : Below W.heap.size W w2:=hBx.trans (hk2.below (by simp) (by simp [blk]));have hrw2 : zF w2 gx (0) 34 = some (zQ d):=(zI (hwW.block gx (zL hrx)) _ _).trans hrx;have hB3 : Below w2.heap.size w2 (w2.alloc (.cells (zQ d) 210)):=(Below.refl _ _).alloc (Nat.le_refl _) _;have hown3:=hown2.below hB3;have hrow3 : zF (w2.alloc (.cells (zQ d) 210)) w2.heap.size 0 34 = some (zQ d):=by simp [go_sem]
                have hsz2:=hwW.size;go_upto_region 13 with (at_builtin;refine x8 jR rfl hown3 rfl hrow3 (qY _) (by omega) (by omega) (by simp;omega) ?_;intro A4 cap4 w4 hown4 hk4 hsub4)
                have hwW4 : Below W.heap.size W w4:=(hwW.trans (hB3.mono hsz2)).trans (hk4.below (by simp;omega) (fun x hx=>(hown2.at_base hx).1));have hs4:=hhs w4 (hsw.rd.below hwW4);have hsz4:=hwW4.size;clear hown3 hrow3 hB3 hown0 hBx hslo hrw2 hlo;go_upto_region 14 with (at_builtin;refine yF jR rfl hown4 rfl hs4 hhf hrone2 (by omega) (by omega) (by omega) ?_;intro A5 cap5 w5 hown5 hk5 hsub5)
                have hwW5 : Below W.heap.size W w5:=hwW4.trans (hk5.below (by omega) (fun x hx=>(hown4.at_base hx).1));have hO5 : (O.map zQ).take m ++ [zQ d] ++ (O.map zQ).drop m = (O.take m ++ d :: O.drop m).map zQ:=by simp [List.map_take,List.map_drop]
                rw [hO5] at hown5;clear hown4 hown2 hO5 hs4 hhi hhs hrone hrone2 hf1;obtain ⟨x,rfl⟩ : ∃ x,x = d:=⟨d,rfl⟩
                have hBw5:=hBw.trans (hwW5.mono hBw.size);have hL5 : (O.take m ++ x :: O.drop m).length = m + 1 + (n - m):=by simp [Hlen.out];omega
                have hOe : O.take m ++ x :: O.drop m = lvM (X.take (k + 1)) G:=by rw [Htk.out,Hat.out]
                rw [hOe] at hown5 hL5;have hown6:=hown5.mono hBw.size;have HL:=Lib.hid hL5;clear hown5 hOe hL5;(go_wp2_with fail);go_roundw
                case rel=>exact ⟨k + 1,A5,m + 1 + (n - m),cap5,by omega,by go_num,rfl,hown6,hBw5⟩
                case measure=>simp [intOf];omega
          · have hd : decide (m < n) = false:=by simpa using hmlt
            have hat:=jQ (c:=qN) O x m (by rw [Hlen.out];exact hmO) hlow.out (fun hk'=>absurd (by rw [← Hlen.out];exact hk') hmlt);have Hat:=Lib.hid hat;clear hat;go_upto_region 8 with fail
            refine zE (Bel wr) false (by kernel_rfl) (by kernel_rfl) (by kernel_rfl) (zG wr) ?_;have hne:=zX wr;have hS:=zG wr;repeat (refine zB ?_ ?_;(focus (simp only [zA];done));intro K hK;go_simp;refine hK _ ?_;clear hK K)
            refine zH ?_ ?_ ?_;(focus (exact hS));(focus (simp only [zA];done));intro K hK;go_simp;refine hK _ _ ?_;clear hK K;repeat (refine zB ?_ ?_;(focus (simp only [zA];done));intro K hK;go_simp;refine hK _ ?_;clear hK K)
            refine zN ?_;intro hS;clear hne hS;go_upto_region 10 with fail
            refine zE (Bel wr.drew) false (by kernel_rfl) (by kernel_rfl) (by kernel_rfl) (zG wr.drew) ?_;have hne:=zX wr.drew;have hS:=zG wr.drew;repeat (refine zB ?_ ?_;(focus (simp only [zA];done));intro K hK;go_simp;refine hK _ ?_;clear hK K)
            refine zN ?_;intro hS;have hbz2 : Below V.heap.size V wr.drew.drew:=hbj.drew.drew;have hrx : zF wr.drew.drew gx 0 34 = some (zQ x):=hrj;have hsw:=hsw2.below hbz2;have hownw:=hown2.below hbz2;have hBw:=hb2.trans (hbz2.mono hb2.size);clear hne hS hbz2 hrj hbj hmlt hd hswj hrx2;obtain ⟨W,hW⟩ : ∃ W,wr.drew.drew = W:=⟨_,rfl⟩
            rw [hW] at hrx hsw hownw hBw ⊢;clear hW;obtain ⟨A,hA1⟩ : ∃ A,A = A1:=⟨_,rfl⟩
            rw [← hA1] at hsw hownw ⊢;clear hA1;obtain ⟨d,hd⟩ : ∃ d,d = x:=⟨_,rfl⟩
            rw [← hd] at hrx Hat Htk ⊢;obtain ⟨cap,hcap⟩ : ∃ cap,cap = cap1:=⟨_,rfl⟩
            rw [← hcap] at hsw hownw ⊢;clear hd hcap;have hBx : Below W.heap.size W (W.alloc (.cells #[] 210)):=(Below.refl _ _).alloc (Nat.le_refl _) _;have hown0:=Own.empty W W.heap.size 210 34 (Nat.le_refl _);have hlo : ∀ w0 : World,(slS 62 (.slice A n cap) none (some (.int .i64 m)) none).run Tryz.prog w0 = .ok (.slice A m cap) w0:=fun w0=>SlW.lo jR hsw hmO w0;obtain ⟨Ah,ch,hhi,hhs,hhf⟩:=hsw.hi (P:=Tryz.prog) jR (m:=m) hmO;have hslo : SlR (W.alloc (.cells #[] 210)) A m 34 ((O.map zQ).take m):=(hsw.rd.below hBx).take_ hmO;have hf1:=hsw.nil;have hrone : ∀ r ∈ (O.map zQ).take m,∀ u ∈ r.toList,u.oneCell' = true:=fun r hr=>(by obtain ⟨y',_,rfl⟩:=List.mem_map.1 (List.mem_of_mem_take hr);exact qY _);have hrone2 : ∀ r ∈ (O.map zQ).drop m,∀ u ∈ r.toList,u.oneCell' = true:=fun r hr=>(by obtain ⟨y',_,rfl⟩:=List.mem_map.1 (List.mem_of_mem_drop hr);exact qY _);go_upto_region 12 with (at_builtin;refine yF jR rfl hown0 rfl hslo hf1 hrone (by omega) (by omega) (by simp) ?_;intro A2 cap2 w2 hown2 hk2 hsub2)
            simp only [Nat.zero_add,List.nil_append] at hown2;have hwW : Below W.heap.size W w2:=hBx.trans (hk2.below (by simp) (by simp [blk]));have hrw2 : zF w2 gx (0) 34 = some (zQ d):=(zI (hwW.block gx (zL hrx)) _ _).trans hrx;have hB3 : Below w2.heap.size w2 (w2.alloc (.cells (zQ d) 210)):=(Below.refl _ _).alloc (Nat.le_refl _) _;have hown3:=hown2.below hB3;have hrow3 : zF (w2.alloc (.cells (zQ d) 210)) w2.heap.size 0 34 = some (zQ d):=by simp [go_sem]
            have hsz2:=hwW.size;go_upto_region 13 with (at_builtin;refine x8 jR rfl hown3 rfl hrow3 (qY _) (by omega) (by omega) (by simp;omega) ?_;intro A4 cap4 w4 hown4 hk4 hsub4)
            have hwW4 : Below W.heap.size W w4:=(hwW.trans (hB3.mono hsz2)).trans (hk4.below (by simp;omega) (fun x hx=>(hown2.at_base hx).1));have hs4:=hhs w4 (hsw.rd.below hwW4);have hsz4:=hwW4.size;clear hown3 hrow3 hB3 hown0 hBx hslo hrw2 hlo;go_upto_region 14 with (at_builtin;refine yF jR rfl hown4 rfl hs4 hhf hrone2 (by omega) (by omega) (by omega) ?_;intro A5 cap5 w5 hown5 hk5 hsub5)
            have hwW5 : Below W.heap.size W w5:=hwW4.trans (hk5.below (by omega) (fun x hx=>(hown4.at_base hx).1));have hO5 : (O.map zQ).take m ++ [zQ d] ++ (O.map zQ).drop m = (O.take m ++ d :: O.drop m).map zQ:=by simp [List.map_take,List.map_drop]
            rw [hO5] at hown5;clear hown4 hown2 hO5 hs4 hhi hhs hrone hrone2 hf1;obtain ⟨x,rfl⟩ : ∃ x,x = d:=⟨d,rfl⟩
            have hBw5:=hBw.trans (hwW5.mono hBw.size);have hL5 : (O.take m ++ x :: O.drop m).length = m + 1 + (n - m):=by simp [Hlen.out];omega
            have hOe : O.take m ++ x :: O.drop m = lvM (X.take (k + 1)) G:=by rw [Htk.out,Hat.out]
            rw [hOe] at hown5 hL5;have hown6:=hown5.mono hBw.size;have HL:=Lib.hid hL5;clear hown5 hOe hL5;(go_wp2_with fail);go_roundw
            case rel=>exact ⟨k + 1,A5,m + 1 + (n - m),cap5,by omega,by go_num,rfl,hown6,hBw5⟩
            case measure=>simp [intOf];omega
    · have e : X.take k = X:=List.take_of_length_le (by rw [Hnx.out];omega);rw [e] at hown;clear e;(go_wp2_with fail);go_ret;exact ⟨A1,n,cap1,rfl,hown,hb⟩
end
section
open Go.RowKit
set_option maxRecDepth 100000 in
set_option maxHeartbeats 4000000 in
theorem rmset6 (xr : xT) (B : Option Addr) (m mc : Nat) (T : List zK) (w : World) (g : Nat) (cs : Array Value) (AX : Option Addr) (nX cX : Nat) (X : List xT) (OA : Option Addr) (no oc : Nat) (G : List zK)
    (hg : w.heap[g]? = some (.cells cs 69 (0,0))) (hcs : cs[6]? = some (.slice AX nX cX)) (hcs7 : cs[7]? = some (.slice OA no oc)) (h1w : vY w AX nX X) (f1 : AX = none → cX = 0) (hOw : y4 w OA no G) (hgO : g ∉ blk OA) (hBw : y4 w B m T) (hgB : g ∉ blk B)
    (hks : xr.key.size ≤ 16) (hvs : xr.val.size ≤ 16) (hn : nX ≤ 100000) (hno : no ≤ 100000) (hm : m ≤ 100000) :
    Calls Tryz.prog 147 #[.pointer (some ⟨g,6,none⟩),.agg (zQ xr),.slice B m mc] w fun e w'=>∃ A3 cap3 A9 cap9,e = .returned (.int .i64 0) ∧ w'.heap[g]? = some (.cells ((cs.setIfInBounds 6 (.slice A3 (nX + 1) cap3)).setIfInBounds 7 (.slice A9 (yA zO (G ++ T)).length cap9)) 69 (0,0)) ∧ Own w' w.heap.size 210 34 A3 (nX + 1) cap3 ((X ++ [xr]).map zQ) ∧ pI w' A9 (yA zO (G ++ T)).length cap9 (yA zO (G ++ T)) ∧ (∀ x ∈ blk A9,w.heap.size ≤ x) ∧ zC [g] w w':=by
  have hbW : Below w.heap.size w (w.alloc (.cells (zQ xr) 210)):=(Below.refl _ _).alloc (Nat.le_refl _) _;have hgl : g < w.heap.size:=(Array.getElem?_eq_some_iff.1 hg).1;have hgx:=(hbW.block g hgl).trans hg;have h1:=SlR.below h1w hbW;have hO:=SlR.below hOw hbW;have hB:=SlR.below hBw hbW;have hrb : zF (w.alloc (.cells (zQ xr) 210)) w.heap.size 0 34 = some (zQ xr):=by simp [go_sem]
  have hWs : w.heap.size ≤ (w.alloc (.cells (zQ xr) 210)).heap.size:=by simp
  go_enter Tryz.func147,Tryz.ntmps147
  go_upto_region 3 with fail
  obtain ⟨gx,hgxe⟩ : ∃ gx,w.heap.size = gx:=⟨_,rfl⟩
  obtain ⟨W,hW⟩ : ∃ W,w.alloc (.cells (zQ xr) 210) = W:=⟨_,rfl⟩
  rw [hW] at hbW hgx h1 hO hB hrb hWs;rw [hW];have HW:=Lib.hid hWs;rw [hgxe] at hrb ⊢;have hgW : g < W.heap.size:=by omega
  have hc0 : W.cell? ⟨g,6,none⟩ = some (.slice AX nX cX):=by rw [cell_of_row W g 6 _ _ _ hgx];exact hcs
  have b1:=zZ hc0 (S:=[]) (by simp);have b2:=yP hrb (S:=[]) (by simp);clear hW hgxe hWs h1w hOw hBw hgl;refine bT (.loose 0 (.loose 2 (.loose 3 (.loose 4 (.loose 5 (.loose 7 (.two 1 (.two 6 (.one 8 (.one 9 (.loose 10 (.loose 11 (.one 12 .done))))) 8 (.one 6 (.one 9 (.loose 10 (.loose 11 (.one 12 .done)))))) 8 (.one 1 (.one 6 (.one 9 (.loose 10 (.loose 11 (.one 12 .done))))))))))))) (Kp [] W) false (by kernel_rfl) (by kernel_rfl) (by kernel_rfl) (by kernel_rfl) (by kernel_rfl) (yB [] W) ?_;have hne:=xD [] W;have hS:=yB [] W;repeat (refine q3 rfl ?_ ?_;(focus (simp only [zA];done));intro K hK;go_simp;refine hK _ ?_;clear hK K)
  refine fP ?_ ?_
  ·
    refine qD ?_ rfl ?_ ?_;(focus (exact hS));(focus (simp only [zA];done));intro K hK;go_simp;refine zY (qE hS _) (fun hSn=>?_);refine hK _ _ ?_;clear hK K;replace hS:=hSn;clear hSn;refine fP ?_ ?_
    · have hs1 : SlR (W.drew.alloc (.cells #[] 210)) AX nX 34 (X.map zQ):=h1.kept hS (by simp);refine fE jR rfl rfl (Own.empty W.drew W.heap.size 210 34 (Nat.le_refl _)) rfl hs1 f1 (ZZ X) (by omega) (by omega) (by simp) ?_;intro A2 cap2 w2 hown2 hk2 hsub2;simp only [Nat.zero_add,List.nil_append] at hown2 ⊢;refine zY (zC.trans hS hk2 (by simp [blk])) (fun hSn=>?_);replace hS:=hSn;clear hSn;refine qD ?_ rfl ?_ ?_;(focus (exact hS));(focus (simp only [zA];done));intro K hK;go_simp;refine zY (qE hS _) (fun hSn=>?_);refine hK _ _ ?_;clear hK K;replace hS:=hSn;clear hSn;have hba : Below w2.heap.size w2 (w2.alloc (.cells (zQ xr) 210)):=(Below.refl _ _).alloc (Nat.le_refl _) _;have hown3:=hown2.below hba;have hrow3 : zF (w2.alloc (.cells (zQ xr) 210)) w2.heap.size 0 34 = some (zQ xr):=by simp [go_sem]
      have hsz:=hS.size;refine vW jR rfl rfl hown3 rfl hrow3 (qY _) (by omega) (by omega) hsz ?_;intro A3 cap3 w3 hown4 hk3 hsub3;refine zY (zC.trans hS hk3 (fun x hx=>.inr ((hown2.at_base hx).1))) (fun hSn=>?_);replace hS:=hSn;clear hSn;repeat (refine q3 rfl ?_ ?_;(focus (simp only [zA];done));intro K hK;go_simp;refine hK _ ?_;clear hK K)
      have hg3 : w3.heap[g]? = some (.cells cs 69 (0,0)):=(hS.block g hgW (by simp)).trans hgx;have hc3 : w3.cell? ⟨g,6,none⟩ = some (.slice AX nX cX):=by rw [cell_of_row w3 g 6 _ _ _ hg3];exact hcs
      have hf3 : w3.frozen? ⟨g,6,none⟩ = false:=by simp [World.frozen?,hg3]
      refine kQ rfl ?_ (by kernel_rfl) ?_;(focus (simp only [zA];done));intro K hK;go_simp;refine hK _ _ ?_;clear hK K;have hown5:=hown4.kept (zC.setCell w3 ⟨g,6,none⟩ (.slice A3 (nX + 1) cap3)) (fun x hx=>by have:=(hown4.at_base hx).1;simp;omega);have hfin : (w3.setCell ⟨g,6,none⟩ (.slice A3 (nX + 1) cap3)).heap[g]? = some (.cells (cs.setIfInBounds 6 (.slice A3 (nX + 1) cap3)) 69 (0,0)):=zM hg3 6 _;have hrowsF : (X.map zQ) ++ [zQ xr] = (X ++ [xr]).map zQ:=by simp
      have hown6 : Own (w3.setCell ⟨g,6,none⟩ (.slice A3 (nX + 1) cap3)) W.heap.size 210 34 A3 (nX + 1) cap3 ((X ++ [xr]).map zQ):=by rw [← hrowsF];exact hown5
      have hkfin : zC [g] W (w3.setCell ⟨g,6,none⟩ (.slice A3 (nX + 1) cap3)):=zC.trans (hS.mono (S':=[g]) (by simp)) (zC.setCell w3 ⟨g,6,none⟩ _) (by simp);clear hown5 hown4 hown2 hown3 hS hg3 hc3 hf3 hk3 hk2 hsub3 hsub2 hrowsF;have hb3 : zC [g] w (w3.setCell ⟨g,6,none⟩ (.slice A3 (nX + 1) cap3)):=zC.trans ((zC.of_below hbW).mono (S':=[g]) (by simp)) hkfin (fun x hx=>.inl hx);obtain ⟨V,hV⟩ : ∃ V,w3.setCell ⟨g,6,none⟩ (.slice A3 (nX + 1) cap3) = V:=⟨_,rfl⟩
      rw [hV] at hfin hown6 hkfin hb3 ⊢;have hVO : y4 V OA no G:=hO.kept (hkfin) (fun x hx hm=>hgO (by simp at hm;subst hm;exact hx));have hVB : y4 V B m T:=hB.kept (hkfin) (fun x hx hm=>hgB (by simp at hm;subst hm;exact hx));have hcV : V.cell? ⟨g,7,none⟩ = some (.slice OA no oc):=by rw [cell_of_row V g 7 _ _ _ hfin];simp [hcs7]
      have Hown6:=Lib.hid hown6;clear hV hcs hO hB hgx hkfin hown6 hc0 hrb b1 b2 hbW hgW h1;have cb:=VQ V OA B no m oc mc G T hVO hVB (by omega) (by omega);(go_wp2_with fail);refine cb.mono ?_;rintro e w9 ⟨A9,cap9,rfl,hI9,hb9,hbel9⟩;have hg9 : w9.heap[g]? = some (.cells (cs.setIfInBounds 6 (.slice A3 (nX + 1) cap3)) 69 (0,0)):=(hbel9.block g (Array.getElem?_eq_some_iff.1 hfin).1).trans hfin;have hc9 : w9.cell? ⟨g,7,none⟩ = some (.slice OA no oc):=(hbel9.cell (p:=⟨g,7,none⟩) (World.block_lt_of_cell? V _ hcV)).trans hcV;have hf9 : w9.frozen? ⟨g,7,none⟩ = false:=by simp [World.frozen?,hg9]
      have hfinal:=zM hg9 7 (.slice A9 (yA zO (G ++ T)).length cap9);have hks:=zC.setCell w9 ⟨g,7,none⟩ (.slice A9 (yA zO (G ++ T)).length cap9);have hgl : g < w.heap.size:=(Array.getElem?_eq_some_iff.1 hg).1;have hVs:=hb3.size;have hWs : w.heap.size ≤ W.heap.size:=HW.out;have hI10:=hI9.kept hks (fun x hx hm=>by have:=hb9 x hx;simp at hm;omega);have hR10:=((Hown6.out).below hbel9).kept hks (fun x hx hm=>by have:=(Hown6.out.at_base hx).1;simp at hm;omega);have hkf : zC [g] w (w9.setCell ⟨g,7,none⟩ (.slice A9 (yA zO (G ++ T)).length cap9)):=zC.trans (zC.trans hb3 (zC.of_below hbel9) (by simp)) hks (fun x hx=>.inl hx);have hb9' : ∀ x ∈ blk A9,w.heap.size ≤ x:=fun x hx=>(by have:=hb9 x hx;omega);clear hI9 hb9 cb hVO hVB;(go_wp2_with fail);go_ret;exact ⟨A3,cap3,A9,cap9,rfl,hfinal,hR10.mono hWs,hI10,hb9',hkf⟩
    ·
      refine qD ?_ rfl ?_ ?_;(focus (exact hS));(focus (simp only [zA];done));intro K hK;go_simp;refine zY (qE hS _) (fun hSn=>?_);refine hK _ _ ?_;clear hK K;replace hS:=hSn;clear hSn;have hs1 : SlR ((W.drew.alloc (.cells #[] 210)).alloc (.cells (zQ xr) 210)) AX nX 34 (X.map zQ):=h1.kept hS (by simp);have hown0:=(Own.empty W.drew W.heap.size 210 34 (Nat.le_refl _)).below ((Below.refl _ _).alloc (Nat.le_refl _) (.cells (zQ xr) 210));refine fE jR rfl rfl hown0 rfl hs1 f1 (ZZ X) (by omega) (by omega) (by simp;omega) ?_;intro A2 cap2 w2 hown2 hk2 hsub2;simp only [Nat.zero_add,List.nil_append] at hown2 ⊢;refine zY (zC.trans hS hk2 (by simp [blk])) (fun hSn=>?_);replace hS:=hSn;clear hSn;have hown3:=hown2;have hrow3 : zF w2 (W.heap.size + 1) 0 34 = some (zQ xr):=(hk2.row (by simp) (by simp [blk]) 0 34).trans (by simp [go_sem]);have hsz:=hS.size;refine vW jR rfl rfl hown3 rfl hrow3 (qY _) (by omega) (by omega) hsz ?_;intro A3 cap3 w3 hown4 hk3 hsub3;refine zY (zC.trans hS hk3 (fun x hx=>.inr ((hown2.at_base hx).1))) (fun hSn=>?_);replace hS:=hSn;clear hSn;repeat (refine q3 rfl ?_ ?_;(focus (simp only [zA];done));intro K hK;go_simp;refine hK _ ?_;clear hK K)
      have hg3 : w3.heap[g]? = some (.cells cs 69 (0,0)):=(hS.block g hgW (by simp)).trans hgx;have hc3 : w3.cell? ⟨g,6,none⟩ = some (.slice AX nX cX):=by rw [cell_of_row w3 g 6 _ _ _ hg3];exact hcs
      have hf3 : w3.frozen? ⟨g,6,none⟩ = false:=by simp [World.frozen?,hg3]
      refine kQ rfl ?_ (by kernel_rfl) ?_;(focus (simp only [zA];done));intro K hK;go_simp;refine hK _ _ ?_;clear hK K;have hown5:=hown4.kept (zC.setCell w3 ⟨g,6,none⟩ (.slice A3 (nX + 1) cap3)) (fun x hx=>by have:=(hown4.at_base hx).1;simp;omega);have hfin : (w3.setCell ⟨g,6,none⟩ (.slice A3 (nX + 1) cap3)).heap[g]? = some (.cells (cs.setIfInBounds 6 (.slice A3 (nX + 1) cap3)) 69 (0,0)):=zM hg3 6 _;have hrowsF : (X.map zQ) ++ [zQ xr] = (X ++ [xr]).map zQ:=by simp
      have hown6 : Own (w3.setCell ⟨g,6,none⟩ (.slice A3 (nX + 1) cap3)) W.heap.size 210 34 A3 (nX + 1) cap3 ((X ++ [xr]).map zQ):=by rw [← hrowsF];exact hown5
      have hkfin : zC [g] W (w3.setCell ⟨g,6,none⟩ (.slice A3 (nX + 1) cap3)):=zC.trans (hS.mono (S':=[g]) (by simp)) (zC.setCell w3 ⟨g,6,none⟩ _) (by simp);clear hown5 hown4 hown2 hown3 hS hg3 hc3 hf3 hk3 hk2 hsub3 hsub2 hrowsF;have hb3 : zC [g] w (w3.setCell ⟨g,6,none⟩ (.slice A3 (nX + 1) cap3)):=zC.trans ((zC.of_below hbW).mono (S':=[g]) (by simp)) hkfin (fun x hx=>.inl hx);obtain ⟨V,hV⟩ : ∃ V,w3.setCell ⟨g,6,none⟩ (.slice A3 (nX + 1) cap3) = V:=⟨_,rfl⟩
      rw [hV] at hfin hown6 hkfin hb3 ⊢;have hVO : y4 V OA no G:=hO.kept (hkfin) (fun x hx hm=>hgO (by simp at hm;subst hm;exact hx));have hVB : y4 V B m T:=hB.kept (hkfin) (fun x hx hm=>hgB (by simp at hm;subst hm;exact hx));have hcV : V.cell? ⟨g,7,none⟩ = some (.slice OA no oc):=by rw [cell_of_row V g 7 _ _ _ hfin];simp [hcs7]
      have Hown6:=Lib.hid hown6;clear hV hcs hO hB hgx hkfin hown6 hc0 hrb b1 b2 hbW hgW h1;have cb:=VQ V OA B no m oc mc G T hVO hVB (by omega) (by omega);(go_wp2_with fail);refine cb.mono ?_;rintro e w9 ⟨A9,cap9,rfl,hI9,hb9,hbel9⟩;have hg9 : w9.heap[g]? = some (.cells (cs.setIfInBounds 6 (.slice A3 (nX + 1) cap3)) 69 (0,0)):=(hbel9.block g (Array.getElem?_eq_some_iff.1 hfin).1).trans hfin;have hc9 : w9.cell? ⟨g,7,none⟩ = some (.slice OA no oc):=(hbel9.cell (p:=⟨g,7,none⟩) (World.block_lt_of_cell? V _ hcV)).trans hcV;have hf9 : w9.frozen? ⟨g,7,none⟩ = false:=by simp [World.frozen?,hg9]
      have hfinal:=zM hg9 7 (.slice A9 (yA zO (G ++ T)).length cap9);have hks:=zC.setCell w9 ⟨g,7,none⟩ (.slice A9 (yA zO (G ++ T)).length cap9);have hgl : g < w.heap.size:=(Array.getElem?_eq_some_iff.1 hg).1;have hVs:=hb3.size;have hWs : w.heap.size ≤ W.heap.size:=HW.out;have hI10:=hI9.kept hks (fun x hx hm=>by have:=hb9 x hx;simp at hm;omega);have hR10:=((Hown6.out).below hbel9).kept hks (fun x hx hm=>by have:=(Hown6.out.at_base hx).1;simp at hm;omega);have hkf : zC [g] w (w9.setCell ⟨g,7,none⟩ (.slice A9 (yA zO (G ++ T)).length cap9)):=zC.trans (zC.trans hb3 (zC.of_below hbel9) (by simp)) hks (fun x hx=>.inl hx);have hb9' : ∀ x ∈ blk A9,w.heap.size ≤ x:=fun x hx=>(by have:=hb9 x hx;omega);clear hI9 hb9 cb hVO hVB;(go_wp2_with fail);go_ret;exact ⟨A3,cap3,A9,cap9,rfl,hfinal,hR10.mono hWs,hI10,hb9',hkf⟩
  ·
    refine qD ?_ rfl ?_ ?_;(focus (exact hS));(focus (simp only [zA];done));intro K hK;go_simp;refine zY (qE hS _) (fun hSn=>?_);refine hK _ _ ?_;clear hK K;replace hS:=hSn;clear hSn;refine qD ?_ rfl ?_ ?_;(focus (exact hS));(focus (simp only [zA];done));intro K hK;go_simp;refine zY (qE hS _) (fun hSn=>?_);refine hK _ _ ?_;clear hK K;replace hS:=hSn;clear hSn;have hs1 : SlR ((W.drew.alloc (.cells (zQ xr) 210)).alloc (.cells #[] 210)) AX nX 34 (X.map zQ):=h1.kept hS (by simp);have hown0 : Own ((W.drew.alloc (.cells (zQ xr) 210)).alloc (.cells #[] 210)) W.heap.size 210 34 (some ⟨W.heap.size + 1,0,none⟩) 0 0 []:=by
      have:=Own.empty (W.drew.alloc (.cells (zQ xr) 210)) W.heap.size 210 34 (by simp);simpa using this
    refine fE jR rfl rfl hown0 rfl hs1 f1 (ZZ X) (by omega) (by omega) (by simp;omega) ?_;intro A2 cap2 w2 hown2 hk2 hsub2;simp only [Nat.zero_add,List.nil_append] at hown2 ⊢;refine zY (zC.trans hS hk2 (by simp [blk])) (fun hSn=>?_);replace hS:=hSn;clear hSn;have hown3:=hown2;have hrow3 : zF w2 W.heap.size 0 34 = some (zQ xr):=(hk2.row (by simp;omega) (by simp [blk]) 0 34).trans (by simp [go_sem]);have hsz:=hS.size;refine vW jR rfl rfl hown3 rfl hrow3 (qY _) (by omega) (by omega) hsz ?_;intro A3 cap3 w3 hown4 hk3 hsub3;refine zY (zC.trans hS hk3 (fun x hx=>.inr ((hown2.at_base hx).1))) (fun hSn=>?_);replace hS:=hSn;clear hSn;repeat (refine q3 rfl ?_ ?_;(focus (simp only [zA];done));intro K hK;go_simp;refine hK _ ?_;clear hK K)
    have hg3 : w3.heap[g]? = some (.cells cs 69 (0,0)):=(hS.block g hgW (by simp)).trans hgx;have hc3 : w3.cell? ⟨g,6,none⟩ = some (.slice AX nX cX):=by rw [cell_of_row w3 g 6 _ _ _ hg3];exact hcs
    have hf3 : w3.frozen? ⟨g,6,none⟩ = false:=by simp [World.frozen?,hg3]
    refine kQ rfl ?_ (by kernel_rfl) ?_;(focus (simp only [zA];done));intro K hK;go_simp;refine hK _ _ ?_;clear hK K;have hown5:=hown4.kept (zC.setCell w3 ⟨g,6,none⟩ (.slice A3 (nX + 1) cap3)) (fun x hx=>by have:=(hown4.at_base hx).1;simp;omega);have hfin : (w3.setCell ⟨g,6,none⟩ (.slice A3 (nX + 1) cap3)).heap[g]? = some (.cells (cs.setIfInBounds 6 (.slice A3 (nX + 1) cap3)) 69 (0,0)):=zM hg3 6 _;have hrowsF : (X.map zQ) ++ [zQ xr] = (X ++ [xr]).map zQ:=by simp
    have hown6 : Own (w3.setCell ⟨g,6,none⟩ (.slice A3 (nX + 1) cap3)) W.heap.size 210 34 A3 (nX + 1) cap3 ((X ++ [xr]).map zQ):=by rw [← hrowsF];exact hown5
    have hkfin : zC [g] W (w3.setCell ⟨g,6,none⟩ (.slice A3 (nX + 1) cap3)):=zC.trans (hS.mono (S':=[g]) (by simp)) (zC.setCell w3 ⟨g,6,none⟩ _) (by simp);clear hown5 hown4 hown2 hown3 hS hg3 hc3 hf3 hk3 hk2 hsub3 hsub2 hrowsF;have hb3 : zC [g] w (w3.setCell ⟨g,6,none⟩ (.slice A3 (nX + 1) cap3)):=zC.trans ((zC.of_below hbW).mono (S':=[g]) (by simp)) hkfin (fun x hx=>.inl hx);obtain ⟨V,hV⟩ : ∃ V,w3.setCell ⟨g,6,none⟩ (.slice A3 (nX + 1) cap3) = V:=⟨_,rfl⟩
    rw [hV] at hfin hown6 hkfin hb3 ⊢;have hVO : y4 V OA no G:=hO.kept (hkfin) (fun x hx hm=>hgO (by simp at hm;subst hm;exact hx));have hVB : y4 V B m T:=hB.kept (hkfin) (fun x hx hm=>hgB (by simp at hm;subst hm;exact hx));have hcV : V.cell? ⟨g,7,none⟩ = some (.slice OA no oc):=by rw [cell_of_row V g 7 _ _ _ hfin];simp [hcs7]
    have Hown6:=Lib.hid hown6;clear hV hcs hO hB hgx hkfin hown6 hc0 hrb b1 b2 hbW hgW h1;have cb:=VQ V OA B no m oc mc G T hVO hVB (by omega) (by omega);(go_wp2_with fail);refine cb.mono ?_;rintro e w9 ⟨A9,cap9,rfl,hI9,hb9,hbel9⟩;have hg9 : w9.heap[g]? = some (.cells (cs.setIfInBounds 6 (.slice A3 (nX + 1) cap3)) 69 (0,0)):=(hbel9.block g (Array.getElem?_eq_some_iff.1 hfin).1).trans hfin;have hc9 : w9.cell? ⟨g,7,none⟩ = some (.slice OA no oc):=(hbel9.cell (p:=⟨g,7,none⟩) (World.block_lt_of_cell? V _ hcV)).trans hcV;have hf9 : w9.frozen? ⟨g,7,none⟩ = false:=by simp [World.frozen?,hg9]
    have hfinal:=zM hg9 7 (.slice A9 (yA zO (G ++ T)).length cap9);have hks:=zC.setCell w9 ⟨g,7,none⟩ (.slice A9 (yA zO (G ++ T)).length cap9);have hgl : g < w.heap.size:=(Array.getElem?_eq_some_iff.1 hg).1;have hVs:=hb3.size;have hWs : w.heap.size ≤ W.heap.size:=HW.out;have hI10:=hI9.kept hks (fun x hx hm=>by have:=hb9 x hx;simp at hm;omega);have hR10:=((Hown6.out).below hbel9).kept hks (fun x hx hm=>by have:=(Hown6.out.at_base hx).1;simp at hm;omega);have hkf : zC [g] w (w9.setCell ⟨g,7,none⟩ (.slice A9 (yA zO (G ++ T)).length cap9)):=zC.trans (zC.trans hb3 (zC.of_below hbel9) (by simp)) hks (fun x hx=>.inl hx);have hb9' : ∀ x ∈ blk A9,w.heap.size ≤ x:=fun x hx=>(by have:=hb9 x hx;omega);clear hI9 hb9 cb hVO hVB;(go_wp2_with fail);go_ret;exact ⟨A3,cap3,A9,cap9,rfl,hfinal,hR10.mono hWs,hI10,hb9',hkf⟩
end
section
open Go.RowKit
set_option maxRecDepth 100000 in
set_option maxHeartbeats 2000000 in
theorem radd3 (d : zK) (v : ByteArray) (w : World) (g : Nat) (cs : Array Value) (A : Option Addr) (n cap : Nat) (X : List yT) (hg : w.heap[g]? = some (.cells cs 69 (0,0))) (hcs : cs[3]? = some (.slice A n cap)) (h1w : qC w A n X) (f1 : A = none → cap = 0) (d1w : g ∉ blk A) (hv : v.size ≤ 16) (hX : X.length ≤ 100000) :
    Calls Tryz.prog 145 #[.pointer (some ⟨g,3,none⟩),.agg (idC d),.string v] w fun e w'=>∃ A' cap',e = .returned (.int .i64 0) ∧ w'.heap[g]? = some (.cells (cs.setIfInBounds 3 (.slice A' (n + 1) cap')) 69 (0,0)) ∧ Own w' w.heap.size 218 33 A' (n + 1) cap' ((X ++ [(⟨d,v⟩ : yT)]).map zU) ∧ zC [g] w w':=by
  have hb0 : Below w.heap.size w (w.alloc (.cells (idC d) 39)):=(Below.refl _ _).alloc (Nat.le_refl _) _;have hgl : g < w.heap.size:=(Array.getElem?_eq_some_iff.1 hg).1;have hgx:=(hb0.block g hgl).trans hg;have h1 : qC _ A n X:=SlR.below h1w hb0;have hd0 : zF (w.alloc (.cells (idC d) 39)) w.heap.size 0 32 = some (idC d):=by simp [go_sem]
  go_enter Tryz.func145,Tryz.ntmps145
  go_upto_region 3 with fail
  obtain ⟨W,hW⟩ : ∃ W,W = w.alloc (.cells (idC d) 39):=⟨_,rfl⟩
  rw [← hW] at hgx h1 hd0 hb0 ⊢;clear hW;have hn:=h1.len;have Hn:=Lib.hid hn;have hnb : n ≤ 100000:=by omega
  clear hn;have hc0 : W.cell? ⟨g,3,none⟩ = some (.slice A n cap):=by rw [cell_of_row W g 3 _ _ _ hgx];exact hcs
  have hgW : g < W.heap.size:=by have:=hb0.size;omega
  refine bT (.loose 0 (.loose 2 (.loose 3 (.loose 4 (.loose 5 (.loose 7 (.loose 8 (.loose 9 (.two 1 (.two 6 (.one 10 (.one 11 (.loose 12 (.loose 13 (.one 14 .done))))) 10 (.one 6 (.one 11 (.loose 12 (.loose 13 (.one 14 .done)))))) 10 (.one 1 (.one 6 (.one 11 (.loose 12 (.loose 13 (.one 14 .done))))))))))))))) (Kp [] W) false (by kernel_rfl) (by kernel_rfl) (by kernel_rfl) (by kernel_rfl) (by kernel_rfl) (yB [] W) ?_;have hne:=xD [] W;have hS:=yB [] W;have b1:=zZ hc0 (S:=[]) (by simp);have b2:=yP hd0 (S:=[]) (by simp);repeat (refine q3 rfl ?_ ?_;(focus (simp only [zA];done));intro K hK;go_simp;refine hK _ ?_;clear hK K)
  refine fP ?_ ?_
  ·
    refine qD ?_ rfl ?_ ?_;(focus (exact hS));(focus (simp only [zA];done));intro K hK;go_simp;refine zY (qE hS _) (fun hSn=>?_);refine hK _ _ ?_;clear hK K;replace hS:=hSn;clear hSn;refine fP ?_ ?_
    · have hs1 : qC (W.drew.alloc (.cells #[] 218)) A n X:=h1.kept hS (by simp);refine fE xZ rfl rfl (Own.empty W.drew W.heap.size 218 33 (Nat.le_refl _)) rfl hs1 f1 (YW X) (by omega) (by omega) (by simp) ?_;intro A2 cap2 w2 hown2 hk2 hsub2;simp only [Nat.zero_add,List.nil_append] at hown2 ⊢;refine zY (zC.trans hS hk2 (by simp [blk])) (fun hSn=>?_);replace hS:=hSn;clear hSn;refine qD ?_ rfl ?_ ?_;(focus (exact hS));(focus (simp only [zA];done));intro K hK;go_simp;refine zY (qE hS _) (fun hSn=>?_);refine hK _ _ ?_;clear hK K;replace hS:=hSn;clear hSn;have hba : Below w2.heap.size w2 (w2.alloc (.cells (zU ⟨d,v⟩) 218)):=(Below.refl _ _).alloc (Nat.le_refl _) _;have hown3:=hown2.below hba;have hrow3 : zF (w2.alloc (.cells (zU ⟨d,v⟩) 218)) w2.heap.size 0 33 = some (zU ⟨d,v⟩):=by simp [go_sem]
      have hsz:=hS.size;refine vW xZ rfl rfl hown3 rfl hrow3 (qZ _) (by omega) (by omega) hsz ?_;intro A3 cap3 w3 hown4 hk3 hsub3;refine zY (zC.trans hS hk3 (fun x hx=>.inr ((hown2.at_base hx).1))) (fun hSn=>?_);replace hS:=hSn;clear hSn;repeat (refine q3 rfl ?_ ?_;(focus (simp only [zA];done));intro K hK;go_simp;refine hK _ ?_;clear hK K)
      have hg3 : w3.heap[g]? = some (.cells cs 69 (0,0)):=(hS.block g hgW (by simp)).trans hgx;have hc3 : w3.cell? ⟨g,3,none⟩ = some (.slice A n cap):=by rw [cell_of_row w3 g 3 _ _ _ hg3];exact hcs
      have hf3 : w3.frozen? ⟨g,3,none⟩ = false:=by simp [World.frozen?,hg3]
      refine kQ rfl ?_ (by kernel_rfl) ?_;(focus (simp only [zA];done));intro K hK;go_simp;refine hK _ _ ?_;clear hK K;have hown5:=hown4.kept (zC.setCell w3 ⟨g,3,none⟩ (.slice A3 (n + 1) cap3)) (fun x hx=>by have:=(hown4.at_base hx).1;simp;omega);have hfin : (w3.setCell ⟨g,3,none⟩ (.slice A3 (n + 1) cap3)).heap[g]? = some (.cells (cs.setIfInBounds 3 (.slice A3 (n + 1) cap3)) 69 (0,0)):=zM hg3 3 _;have hown6:=hown5.mono (show w.heap.size ≤ W.heap.size from hb0.size);have hkfin : zC [g] w (w3.setCell ⟨g,3,none⟩ (.slice A3 (n + 1) cap3)):=zC.trans ((zC.trans (zC.of_below hb0) hS (by simp)).mono (S':=[g]) (by simp)) (zC.setCell w3 ⟨g,3,none⟩ _) (by simp);clear hown5 hown4 hown2 hown3 hS hg3 hc3 hf3 hk3 hk2 hsub3 hsub2;(go_wp2_with fail);go_ret;exact ⟨A3,cap3,rfl,hfin,by simpa using hown6,hkfin⟩
    ·
      refine qD ?_ rfl ?_ ?_;(focus (exact hS));(focus (simp only [zA];done));intro K hK;go_simp;refine zY (qE hS _) (fun hSn=>?_);refine hK _ _ ?_;clear hK K;replace hS:=hSn;clear hSn;have hs1 : qC ((W.drew.alloc (.cells #[] 218)).alloc (.cells (zU ⟨d,v⟩) 218)) A n X:=h1.kept hS (by simp);have hown0:=(Own.empty W.drew W.heap.size 218 33 (Nat.le_refl _)).below ((Below.refl _ _).alloc (Nat.le_refl _) (.cells (zU ⟨d,v⟩) 218));refine fE xZ rfl rfl hown0 rfl hs1 f1 (YW X) (by omega) (by omega) (by simp;omega) ?_;intro A2 cap2 w2 hown2 hk2 hsub2;simp only [Nat.zero_add,List.nil_append] at hown2 ⊢;refine zY (zC.trans hS hk2 (by simp [blk])) (fun hSn=>?_);replace hS:=hSn;clear hSn;have hown3:=hown2;have hrow3 : zF w2 (W.heap.size + 1) 0 33 = some (zU ⟨d,v⟩):=(hk2.row (by simp) (by simp [blk]) 0 33).trans (by simp [go_sem]);have hsz:=hS.size;refine vW xZ rfl rfl hown3 rfl hrow3 (qZ _) (by omega) (by omega) hsz ?_;intro A3 cap3 w3 hown4 hk3 hsub3;refine zY (zC.trans hS hk3 (fun x hx=>.inr ((hown2.at_base hx).1))) (fun hSn=>?_);replace hS:=hSn;clear hSn;repeat (refine q3 rfl ?_ ?_;(focus (simp only [zA];done));intro K hK;go_simp;refine hK _ ?_;clear hK K)
      have hg3 : w3.heap[g]? = some (.cells cs 69 (0,0)):=(hS.block g hgW (by simp)).trans hgx;have hc3 : w3.cell? ⟨g,3,none⟩ = some (.slice A n cap):=by rw [cell_of_row w3 g 3 _ _ _ hg3];exact hcs
      have hf3 : w3.frozen? ⟨g,3,none⟩ = false:=by simp [World.frozen?,hg3]
      refine kQ rfl ?_ (by kernel_rfl) ?_;(focus (simp only [zA];done));intro K hK;go_simp;refine hK _ _ ?_;clear hK K;have hown5:=hown4.kept (zC.setCell w3 ⟨g,3,none⟩ (.slice A3 (n + 1) cap3)) (fun x hx=>by have:=(hown4.at_base hx).1;simp;omega);have hfin : (w3.setCell ⟨g,3,none⟩ (.slice A3 (n + 1) cap3)).heap[g]? = some (.cells (cs.setIfInBounds 3 (.slice A3 (n + 1) cap3)) 69 (0,0)):=zM hg3 3 _;have hown6:=hown5.mono (show w.heap.size ≤ W.heap.size from hb0.size);have hkfin : zC [g] w (w3.setCell ⟨g,3,none⟩ (.slice A3 (n + 1) cap3)):=zC.trans ((zC.trans (zC.of_below hb0) hS (by simp)).mono (S':=[g]) (by simp)) (zC.setCell w3 ⟨g,3,none⟩ _) (by simp);clear hown5 hown4 hown2 hown3 hS hg3 hc3 hf3 hk3 hk2 hsub3 hsub2;(go_wp2_with fail);go_ret;exact ⟨A3,cap3,rfl,hfin,by simpa using hown6,hkfin⟩
  ·
    refine qD ?_ rfl ?_ ?_;(focus (exact hS));(focus (simp only [zA];done));intro K hK;go_simp;refine zY (qE hS _) (fun hSn=>?_);refine hK _ _ ?_;clear hK K;replace hS:=hSn;clear hSn;refine qD ?_ rfl ?_ ?_;(focus (exact hS));(focus (simp only [zA];done));intro K hK;go_simp;refine zY (qE hS _) (fun hSn=>?_);refine hK _ _ ?_;clear hK K;replace hS:=hSn;clear hSn;have hs1 : qC ((W.drew.alloc (.cells (zU ⟨d,v⟩) 218)).alloc (.cells #[] 218)) A n X:=h1.kept hS (by simp);have hown0 : Own ((W.drew.alloc (.cells (zU ⟨d,v⟩) 218)).alloc (.cells #[] 218)) W.heap.size 218 33 (some ⟨W.heap.size + 1,0,none⟩) 0 0 []:=by
      have:=Own.empty (W.drew.alloc (.cells (zU ⟨d,v⟩) 218)) W.heap.size 218 33 (by simp);simpa using this
    refine fE xZ rfl rfl hown0 rfl hs1 f1 (YW X) (by omega) (by omega) (by simp;omega) ?_;intro A2 cap2 w2 hown2 hk2 hsub2;simp only [Nat.zero_add,List.nil_append] at hown2 ⊢;refine zY (zC.trans hS hk2 (by simp [blk])) (fun hSn=>?_);replace hS:=hSn;clear hSn;have hown3:=hown2;have hrow3 : zF w2 W.heap.size 0 33 = some (zU ⟨d,v⟩):=(hk2.row (by simp;omega) (by simp [blk]) 0 33).trans (by simp [go_sem]);have hsz:=hS.size;refine vW xZ rfl rfl hown3 rfl hrow3 (qZ _) (by omega) (by omega) hsz ?_;intro A3 cap3 w3 hown4 hk3 hsub3;refine zY (zC.trans hS hk3 (fun x hx=>.inr ((hown2.at_base hx).1))) (fun hSn=>?_);replace hS:=hSn;clear hSn;repeat (refine q3 rfl ?_ ?_;(focus (simp only [zA];done));intro K hK;go_simp;refine hK _ ?_;clear hK K)
    have hg3 : w3.heap[g]? = some (.cells cs 69 (0,0)):=(hS.block g hgW (by simp)).trans hgx;have hc3 : w3.cell? ⟨g,3,none⟩ = some (.slice A n cap):=by rw [cell_of_row w3 g 3 _ _ _ hg3];exact hcs
    have hf3 : w3.frozen? ⟨g,3,none⟩ = false:=by simp [World.frozen?,hg3]
    refine kQ rfl ?_ (by kernel_rfl) ?_;(focus (simp only [zA];done));intro K hK;go_simp;refine hK _ _ ?_;clear hK K;have hown5:=hown4.kept (zC.setCell w3 ⟨g,3,none⟩ (.slice A3 (n + 1) cap3)) (fun x hx=>by have:=(hown4.at_base hx).1;simp;omega);have hfin : (w3.setCell ⟨g,3,none⟩ (.slice A3 (n + 1) cap3)).heap[g]? = some (.cells (cs.setIfInBounds 3 (.slice A3 (n + 1) cap3)) 69 (0,0)):=zM hg3 3 _;have hown6:=hown5.mono (show w.heap.size ≤ W.heap.size from hb0.size);have hkfin : zC [g] w (w3.setCell ⟨g,3,none⟩ (.slice A3 (n + 1) cap3)):=zC.trans ((zC.trans (zC.of_below hb0) hS (by simp)).mono (S':=[g]) (by simp)) (zC.setCell w3 ⟨g,3,none⟩ _) (by simp);clear hown5 hown4 hown2 hown3 hS hg3 hc3 hf3 hk3 hk2 hsub3 hsub2;(go_wp2_with fail);go_ret;exact ⟨A3,cap3,rfl,hfin,by simpa using hown6,hkfin⟩
set_option maxRecDepth 100000 in
set_option maxHeartbeats 2000000 in
theorem rrem3 (v : ByteArray) (B : Option Addr) (m c : Nat) (T : List zK) (w : World) (g : Nat) (cs : Array Value) (A' : Option Addr) (n' cap' : Nat) (G : List yT) (hg : w.heap[g]? = some (.cells cs 69 (0,0))) (hcs : cs[4]? = some (.slice A' n' cap')) (h2 : qC w A' n' G) (f2 : A' = none → cap' = 0) (hT : y4 w B m T) (hv : v.size ≤ 16) (hG : G.length ≤ 100000) (hm : m ≤ 100000) :
    Calls Tryz.prog 146 #[.pointer (some ⟨g,3,none⟩),.string v,.slice B m c] w fun e w'=>∃ A3 cap3,e = .returned (.int .i64 0) ∧ w'.heap[g]? = some (.cells (cs.setIfInBounds 4 (.slice A3 (n' + m) cap3)) 69 (0,0)) ∧ Own w' w.heap.size 218 33 A3 (n' + m) cap3 ((G ++ T.map fun t=>(⟨t,v⟩ : yT)).map zU) ∧ zC [g] w w':=by
  have hgl : g < w.heap.size:=(Array.getElem?_eq_some_iff.1 hg).1;have hn:=h2.len;have Hn:=Lib.hid hn;have hnb : n' ≤ 100000:=by omega
  have hTl:=hT.len;have HT:=Lib.hid hTl;clear hn hTl;have hc1 : w.cell? ⟨g,4,none⟩ = some (.slice A' n' cap'):=by rw [cell_of_row w g 4 _ _ _ hg];exact hcs
  have hb0 : Below w.heap.size w (w.alloc (.cells #[] 218)):=(Below.refl _ _).alloc (Nat.le_refl _) _;have hown0:=Own.empty w w.heap.size 218 33 (Nat.le_refl _);have hs1 : qC (w.alloc (.cells #[] 218)) A' n' G:=SlR.below h2 hb0;go_enter Tryz.func146,Tryz.ntmps146
  go_upto_region 4 with (at_builtin;refine yF xZ rfl hown0 rfl hs1 f2 (YW G) (by omega) (by omega) (by simp) ?_;intro A2 cap2 w2 hown2 hk2 hsub2)
  simp only [Nat.zero_add,List.nil_append] at hown2;have hb2 : Below w.heap.size w w2:=hb0.trans (hk2.below (by simp) (by simp [blk]));clear hown0 hs1 hk2 hsub2 hc1;(go_wp2_with fail);go_loopw [7,8] (fun l i wr=>∃ (k : Nat) (A3 : Option Addr) (cap3 : Nat),k ≤ m ∧ i = .int .i64 k ∧ l = .slice A3 (n' + k) cap3 ∧ Own wr w.heap.size 218 33 A3 (n' + k) cap3 ((G ++ (T.take k).map fun t=>(⟨t,v⟩ : yT)).map zU) ∧ Below w.heap.size w wr) (fun _ i _=>m - (intOf i).toNat)
  case atStart=>exact ⟨0,A2,cap2,Nat.zero_le _,rfl,rfl,by simpa using hown2,hb2⟩
  case round =>
    obtain ⟨k,A3,cap3,hk,rfl,rfl,hown,hb⟩:=hrel;by_cases hlt : k < m
    · obtain ⟨q,o,rfl,hr⟩:=y4.get (SlR.below hT hb) hlt (by rw [HT.out];exact hlt);have htk : T.take (k + 1) = T.take k ++ [T[k]'(by rw [HT.out];exact hlt)]:=by rw [List.take_add_one,List.getElem?_eq_getElem (by rw [HT.out];exact hlt)];rfl
      obtain ⟨d,hd⟩ : ∃ d,T[k]'(by rw [HT.out];exact hlt) = d:=⟨_,rfl⟩
      rw [hd] at hr htk;have hrows : (G ++ (T.take (k + 1)).map fun t=>(⟨t,v⟩ : yT)).map zU = (G ++ (T.take k).map fun t=>(⟨t,v⟩ : yT)).map zU ++ [zU ⟨d,v⟩]:=by rw [htk];simp
      have Hrows:=Lib.hid hrows;clear hd htk hrows;have hsz:=hb.size;have hbx : Below wr.heap.size wr (wr.alloc (.cells (zU ⟨d,v⟩) 218)):=(Below.refl _ _).alloc (Nat.le_refl _) _;have hown3:=hown.below hbx;have hrow3 : zF (wr.alloc (.cells (zU ⟨d,v⟩) 218)) wr.heap.size 0 33 = some (zU ⟨d,v⟩):=by simp [go_sem]
      go_wp2_with (at_builtin;refine x8 xZ rfl hown3 rfl hrow3 (qZ _) (by omega) (by omega) (by simp;omega) ?_;intro A4 cap4 w4 hownA hkA hsubA)
      have hbA : Below w.heap.size w w4:=hb.trans ((hbx.mono hsz).trans (hkA.below (B:=w.heap.size) (by simp;omega) fun y hy=>(hown.at_base hy).1));(go_wp2_with fail);go_roundw
      case rel=>exact ⟨k + 1,A4,cap4,by omega,by go_num,by rw [Nat.add_assoc],by rw [Hrows.out,← Nat.add_assoc];exact hownA,hbA⟩
      case measure=>simp [intOf];omega
    · have hkm : k = m:=by omega
      subst hkm;have hkt : T.take k = T:=List.take_of_length_le (by rw [HT.out];omega);rw [hkt] at hown;have hg3 : wr.heap[g]? = some (.cells cs 69 (0,0)):=(hb.block g hgl).trans hg;have hc3 : wr.cell? ⟨g,4,none⟩ = some (.slice A' n' cap'):=by rw [cell_of_row wr g 4 _ _ _ hg3];exact hcs
      have hf3 : wr.frozen? ⟨g,4,none⟩ = false:=by simp [World.frozen?,hg3]
      have hown5:=hown.kept (zC.setCell wr ⟨g,4,none⟩ (.slice A3 (n' + k) cap3)) (fun x hx=>by have:=(hown.at_base hx).1;simp;omega);have hkb : zC [] w wr:=zC.of_below hb;have hfin : (wr.setCell ⟨g,4,none⟩ (.slice A3 (n' + k) cap3)).heap[g]? = some (.cells (cs.setIfInBounds 4 (.slice A3 (n' + k) cap3)) 69 (0,0)):=zM hg3 4 _;have hkfin : zC [g] w (wr.setCell ⟨g,4,none⟩ (.slice A3 (n' + k) cap3)):=zC.trans (hkb.mono (S':=[g]) (by simp)) (zC.setCell wr ⟨g,4,none⟩ _) (by simp);clear hown hkt hown2;(go_wp2_with fail);go_ret;exact ⟨A3,cap3,rfl,hfin,hown5,hkfin⟩
end
section
open Go.RowKit
abbrev OwnW (w : World) (B : Nat) (A : Option Addr) (cap : Nat) (R : List ByteArray) : Prop:=Own w B 98 2 A R.length cap (R.map kU)
theorem OwnW.get {w : World} {A : Option Addr} {n : Nat} {R : List ByteArray} (h : SlR w A n 2 (R.map kU)) {i : Nat} (hi : i < n) (hR : i < R.length) :
    ∃ g o,A = some ⟨g,o,none⟩ ∧ w.cell? ⟨g,o + i * 2,none⟩ = some (.string R[i]):=by
  obtain ⟨g,o,e,hr⟩:=SlR.at_ h hi;rw [List.getElem_map] at hr;refine ⟨g,o,e,?_⟩;have:=zD hr (j:=0) (by omega);unfold kU at this
  rwa [tJ] at this
end
section
open Go.RowKit
def mD (w : World) (g : Nat) (X G : List yT) : Prop :=
  ∃ A n cap A' n' cap',w.cell? ⟨g,3,none⟩ = some (.slice A n cap) ∧ w.cell? ⟨g,4,none⟩ = some (.slice A' n' cap') ∧ qC w A n X ∧ qC w A' n' G
theorem mD.below {w w' : World} {g : Nat} {X G : List yT} (h : mD w g X G) (k : Below w.heap.size w w') : mD w' g X G:=by
  obtain ⟨A,n,cap,A',n',cap',h1,h2,h3,h4⟩:=h;exact ⟨A,n,cap,A',n',cap',(k.cell (World.block_lt_of_cell? w _ h1)).trans h1,(k.cell (World.block_lt_of_cell? w _ h2)).trans h2,SlR.below h3 k,SlR.below h4 k⟩
set_option maxRecDepth 100000 in
set_option maxHeartbeats 2000000 in
theorem VG (w : World) (g : Nat) (X G : List yT) (h : mD w g X G) (hX : X.length ≤ 100000) (hG : G.length ≤ 100000) :
    Calls Tryz.prog 150 #[.pointer (some ⟨g,3,none⟩)] w fun e w'=>∃ A cap,e = .returned (.slice A (kM X G).length cap) ∧ OwnR w' w.heap.size A cap (kM X G) ∧ Below w.heap.size w w':=by
  obtain ⟨A,n,cap,A',n',cap',hc0,hc9,h1,h2⟩:=h;have hn:=h1.len;have hn':=h2.len;have hsl : (yA yI X).length ≤ 100000:=Nat.le_trans (yS X) hX;have c1:=YJ w A n cap X h1 (by omega);have hlv : kM X G = (yA yI X).filter fun x=>decide (x ∉ G):=rfl;obtain ⟨Z,hZ⟩ : ∃ Z,yA yI X = Z:=⟨_,rfl⟩
  rw [hZ] at c1 hsl hlv;have Hlv:=Lib.hid hlv;have Hn':=Lib.hid hn';have hnb : n' ≤ 100000:=by omega
  clear hlv hZ hn hn';go_enter Tryz.func150,Tryz.ntmps150
  (go_wp2_with fail);refine c1.mono ?_;rintro e w1 ⟨ZA,zc,rfl,hownZ,hb1⟩;have hslZ : qC w1 ZA Z.length Z:=hownZ.slr;have hc8 : w1.cell? ⟨g,4,none⟩ = some (.slice A' n' cap'):=(hb1.cell (p:=⟨g,4,none⟩) (World.block_lt_of_cell? w _ hc9)).trans hc9;have hG1 : qC w1 A' n' G:=SlR.below h2 hb1;clear hownZ c1 hc0 hc9;(go_wp2_with fail);go_loopw [3,5] (fun out i wr=>∃ (k : Nat) (A1 : Option Addr) (cap1 : Nat),k ≤ Z.length ∧ i = .int .i64 k ∧ out = .slice A1 ((Z.take k).filter fun x=>decide (x ∉ G)).length cap1 ∧ OwnR wr w1.heap.size A1 cap1 ((Z.take k).filter fun x=>decide (x ∉ G)) ∧ Below w1.heap.size w1 wr) (fun _ i _=>Z.length - (intOf i).toNat)
  case atStart=>exact ⟨0,none,0,Nat.zero_le _,rfl,rfl,Own.nil _ _ _ _,Below.refl _ _⟩
  case round =>
    obtain ⟨k,A1,cap1,hk,rfl,rfl,hown,hb⟩:=hrel;by_cases hlt : k < Z.length
    · obtain ⟨q,o,rfl,hr,_,_⟩:=qC.get (SlR.below hslZ hb) hlt hlt;have hc1 : wr.cell? ⟨g,4,none⟩ = some (.slice A' n' cap'):=(hb.cell (p:=⟨g,4,none⟩) (World.block_lt_of_cell? w1 _ hc8)).trans hc8;have hGr : qC wr A' n' G:=SlR.below hG1 hb;have htk:=aJ (fun x=>decide (x ∉ G)) Z k hlt;have hfl : ((Z.take k).filter fun x=>decide (x ∉ G)).length ≤ 100000:=by
        have:=List.length_filter_le (fun x=>decide (x ∉ G)) (Z.take k);rw [List.length_take] at this;omega
      obtain ⟨x,hx⟩ : ∃ x,Z[k]'hlt = x:=⟨_,rfl⟩
      rw [hx] at hr htk;obtain ⟨F,hF⟩ : ∃ F,(Z.take k).filter (fun x=>decide (x ∉ G)) = F:=⟨_,rfl⟩
      rw [hF] at hown hfl htk ⊢;have HF:=Lib.hid hF;clear hx hF;have hsz:=hb.size;have c2:=rin wr.drew A' n' cap' G x hGr (by omega);by_cases hin : x ∈ G
      · rw [decide_eq_true hin] at c2;rw [if_neg (by simp [hin])] at htk;have Htk:=Lib.hid htk;clear htk hin;go_upto_region 6 with fail
        refine zE (Bel wr) false (by kernel_rfl) (by kernel_rfl) (by kernel_rfl) (zG wr) ?_;have hne:=zX wr;have hS:=zG wr;have b1:=yD hr;have b2:=zT hc1;repeat (refine zB ?_ ?_;(focus (simp only [zA];done));intro K hK;go_simp;refine hK _ ?_;clear hK K)
        refine zH ?_ ?_ ?_;(focus (exact hS));(focus (simp only [zA];done));intro K hK;go_simp;refine (c2).mono ?_;rintro e w' ⟨rfl,hb⟩;replace hS:=yJ hS hb;refine ⟨_,rfl,hS,hK _ _ ?_⟩;clear hK K hb;repeat (refine zB ?_ ?_;(focus (simp only [zA];done));intro K hK;go_simp;refine hK _ ?_;clear hK K)
        refine zN ?_;intro hS;have hS' : Below wr.heap.size wr w':=hS;have hbz:=yN hb hS';have hown1:=hown.below hS';clear b1 b2 hne hS c2 hr hc1 hown;(go_wp2_with fail);go_roundw
        case rel=>exact ⟨k + 1,A1,cap1,by omega,by go_num,by rw [Htk.out],by rw [Htk.out];exact hown1,hbz⟩
        case measure=>simp [intOf];omega
      · rw [decide_eq_false hin] at c2;rw [if_pos (by simp [hin])] at htk;have Htk:=Lib.hid htk;clear htk hin;go_upto_region 6 with fail
        refine zE (Bel wr) false (by kernel_rfl) (by kernel_rfl) (by kernel_rfl) (zG wr) ?_;have hne:=zX wr;have hS:=zG wr;have b1:=yD hr;have b2:=zT hc1;repeat (refine zB ?_ ?_;(focus (simp only [zA];done));intro K hK;go_simp;refine hK _ ?_;clear hK K)
        refine zH ?_ ?_ ?_;(focus (exact hS));(focus (simp only [zA];done));intro K hK;go_simp;refine (c2).mono ?_;rintro e w' ⟨rfl,hb⟩;replace hS:=yJ hS hb;refine ⟨_,rfl,hS,hK _ _ ?_⟩;clear hK K hb;repeat (refine zB ?_ ?_;(focus (simp only [zA];done));intro K hK;go_simp;refine hK _ ?_;clear hK K)
        refine zN ?_;intro hS;have hS' : Below wr.heap.size wr w':=hS;have hbz:=yN hb hS';have hown1:=hown.below hS';have hr' : zF w' q (o + k * 33) 33 = some (zU x):=(zI (hS'.block q (zL hr)) _ _).trans hr;have hsz':=hS'.size;clear b1 b2 hne hS c2 hr hc1 hown;have hbx : Below w'.heap.size w' (w'.alloc (.cells (zU x) 218)):=(Below.refl _ _).alloc (Nat.le_refl _) _;have hown2:=hown1.below hbx;have hrow2 : zF (w'.alloc (.cells (zU x) 218)) w'.heap.size 0 33 = some (zU x):=by simp [go_sem]
        go_wp2_with (at_builtin;refine x8 xZ rfl hown2 rfl hrow2 (qZ _) (by omega) (by omega) (by simp;omega) ?_;intro A2 cap2 w2 hownA hkA hsubA)
        have hbA : Below w1.heap.size w1 w2:=hbz.trans ((hbx.mono (by omega)).trans (hkA.below (B:=w1.heap.size) (by simp;omega) fun y hy=>(hown1.at_base hy).1));(go_wp2_with fail);go_roundw
        case rel=>exact ⟨k + 1,A2,cap2,by omega,by go_num,by rw [Htk.out];simp,by rw [Htk.out];show Own _ _ _ _ _ _ _ _;rw [List.map_append,List.length_append];exact hownA,hbA⟩
        case measure=>simp [intOf];omega
    · have hke : Z.take k = Z:=List.take_of_length_le (by omega);rw [hke,← Hlv.out] at hown ⊢;clear hke;obtain ⟨F,hF⟩ : ∃ F,kM X G = F:=⟨_,rfl⟩
      rw [hF] at hown ⊢;have HF:=Lib.hid hF;clear hF;(go_wp2_with fail);go_ret;exact ⟨A1,cap1,by rw [HF.out];rfl,by rw [HF.out];exact hown.mono hb1.size,yN hb1 hb⟩
set_option maxRecDepth 100000 in
set_option maxHeartbeats 4000000 in
theorem rlist3 (w : World) (g : Nat) (X G : List yT) (h : mD w g X G) (hX : X.length ≤ 100000) (hG : G.length ≤ 100000) :
    Calls Tryz.prog 74 #[.pointer (some ⟨g,3,none⟩)] w fun e w'=>∃ A cap,e = .returned (.slice A (jU (kM X G)).length cap) ∧ OwnW w' w.heap.size A cap (jU (kM X G)) ∧ Below w.heap.size w w':=by
  have c1:=VG w g X G h hX hG;have hll:=rS X G;obtain ⟨Z,hZ⟩ : ∃ Z,kM X G = Z:=⟨_,rfl⟩
  rw [hZ] at c1 hll ⊢;clear hZ h;go_enter Tryz.func74,Tryz.ntmps74
  (go_wp2_with fail);refine c1.mono ?_;rintro e w1 ⟨RA,rc,rfl,hrow,hb1⟩;have hslZ : qC w1 RA Z.length Z:=hrow.slr;clear hrow c1;(go_wp2_with fail);go_loopw [3,5] (fun out i wr=>∃ (k : Nat) (A1 : Option Addr) (cap1 : Nat),k ≤ Z.length ∧ i = .int .i64 k ∧ out = .slice A1 (jU (Z.take k)).length cap1 ∧ OwnW wr w1.heap.size A1 cap1 (jU (Z.take k)) ∧ Below w1.heap.size w1 wr) (fun _ i _=>Z.length - (intOf i).toNat)
  case atStart=>exact ⟨0,none,0,Nat.zero_le _,rfl,rfl,Own.nil _ _ _ _,Below.refl _ _⟩
  case round =>
    obtain ⟨k,A1,cap1,hk,rfl,rfl,hown,hb⟩:=hrel;by_cases hlt : k < Z.length
    · obtain ⟨q,o,rfl,_,_,hrv⟩:=qC.get (SlR.below hslZ hb) hlt hlt;have htk:=Y3 Z k hlt;have hol : (jU (Z.take k)).length ≤ 1000000:=by have:=lK (Z.take k);simp at this;omega
      have hris : Ris xS (jU (Z.take k)):=xB l9 _;obtain ⟨O,hO⟩ : ∃ O,jU (Z.take k) = O:=⟨_,rfl⟩
      obtain ⟨x,hx⟩ : ∃ x,(Z[k]'hlt).val = x:=⟨_,rfl⟩
      rw [hx] at hrv htk;rw [hO] at htk hol hown hris ⊢;have Htk:=Lib.hid htk;clear hx hO htk;obtain ⟨WR,rfl⟩ : ∃ WR,WR = wr:=⟨wr,rfl⟩
      have hsl : SlR WR A1 O.length 2 (O.map kU):=hown.slr;(go_wp2_with fail);go_loopw [6] (fun j wj=>∃ m : Nat,m ≤ O.length ∧ j = .int .i64 m ∧ Hid (∀ i (hi : i < O.length),i < m → xS O[i] x < 0) ∧ Below WR.heap.size WR wj) (fun j _=>O.length - (intOf j).toNat)
      case atStart=>exact ⟨0,Nat.zero_le _,rfl,(show ∀ i (hi : i < O.length),i < 0 → _ from fun i _ h=>absurd h (by omega)),Below.refl _ _⟩
      case round =>
        obtain ⟨m,hmO,rfl,hlow,hbj⟩:=hrel;have hrj : wr.cell? ⟨q,o + k * 33 + 32,none⟩ = some (.string x):=(hbj.cell (p:=⟨q,o + k * 33 + 32,none⟩) (World.block_lt_of_cell? WR _ hrv)).trans hrv;by_cases hmlt : m < O.length
        · obtain ⟨g2,og,rfl,hrO⟩:=OwnW.get (SlR.below hsl hbj) hmlt hmlt;obtain rfl : og = 0:=by
            rcases hown.addr with e | ⟨g',e⟩
            · cases e
            · injection e with e;injection e
          rw [Nat.zero_add] at hrO;have hmem : O[m] ∈ O:=List.getElem_mem _;obtain ⟨y,hy⟩ : ∃ y,O[m]'hmlt = y:=⟨_,rfl⟩
          rw [hy] at hrO hmem;have Hy:=Lib.hid hy;have Hmem:=Lib.hid hmem;clear hy hmem;cases hbl : B5 y x with
          | true =>
            have hbl' : Op.bytesLess y.toList x.toList = true:=hbl;have hyx : xS y x < 0:=by have:=kB y x;rw [hbl] at this;simpa using this.symm
            have Hyx:=Lib.hid hyx;clear hyx hbl;go_upto_region 7 with fail
            refine zE (Bel wr) false (by kernel_rfl) (by kernel_rfl) (by kernel_rfl) (zG wr) ?_;have hne:=zX wr;have hS:=zG wr;have b1:=zT hrj;have b2:=zT hrO;repeat (refine zB ?_ ?_;(focus (simp only [zA];done));intro K hK;go_simp;refine hK _ ?_;clear hK K)
            refine zN ?_;intro hS;clear b1 b2 hne hS hbl';(go_wp2_with fail);go_roundw
            case rel =>
              refine ⟨m + 1,by omega,by go_num,(show ∀ i (hi : i < O.length),i < m + 1 → xS O[i] x < 0 from fun i hi hlt=>?_),hbj.drew⟩;by_cases e : i = m
              · subst e;rw [Hy.out];exact Hyx.out
              · exact hlow.out i hi (by omega)
            case measure=>simp [intOf];omega
          | false =>
            have hbl' : Op.bytesLess y.toList x.toList = false:=hbl;have hyx : ¬ xS y x < 0:=by have:=kB y x;rw [hbl] at this;simpa using this.symm
            by_cases he : y = x
            · have hat:=dA l9 hris (x:=x) (by rw [← he];exact Hmem.out);have Hat:=Lib.hid hat;have h1 : (y.toList == x.toList) = true:=by rw [he];simp
              clear hat hyx he hbl;go_upto_region 7 with fail
              refine zE (Bel wr) false (by kernel_rfl) (by kernel_rfl) (by kernel_rfl) (zG wr) ?_;have hne:=zX wr;have hS:=zG wr;have b1:=zT hrj;have b2:=zT hrO;repeat (refine zB ?_ ?_;(focus (simp only [zA];done));intro K hK;go_simp;refine hK _ ?_;clear hK K)
              refine zN ?_;intro hS;clear b1 b2 hne hS hbl';go_upto_region 9 with fail
              refine zE (Bel wr.drew) false (by kernel_rfl) (by kernel_rfl) (by kernel_rfl) (zG wr.drew) ?_;have hne:=zX wr.drew;have hS:=zG wr.drew;have b1:=zT (W:=wr.drew) hrj;have b2:=zT (W:=wr.drew) hrO;repeat (refine zB ?_ ?_;(focus (simp only [zA];done));intro K hK;go_simp;refine hK _ ?_;clear hK K)
              refine zN ?_;intro hS;clear b1 b2 hne hS h1;have hbz:=hbj.drew.drew;have hown1:=hown.below hbz;have hbb:=hb.trans (hbz.mono hb.size);(go_wp2_with fail);go_roundw
              case rel=>exact ⟨k + 1,_,cap1,by omega,by go_num,by rw [Htk.out,Hat.out],by rw [Htk.out,Hat.out];exact hown1,hbb⟩
              case measure=>simp [intOf];omega
            · have hat:=jQ (c:=xS) O x m hmO hlow.out (fun hk'=>by
                rw [Hy.out];have h1 : xS y x ≠ 0:=fun e=>he ((l9.zero _ _).1 e);omega)
              have Hat:=Lib.hid hat;have h1 : (y.toList == x.toList) = false:=by rw [beq_eq_false_iff_ne];exact fun e=>he (toList_inj.1 e)
              clear hat hyx he hbl;go_upto_region 7 with fail
              refine zE (Bel wr) false (by kernel_rfl) (by kernel_rfl) (by kernel_rfl) (zG wr) ?_;have hne:=zX wr;have hS:=zG wr;have b1:=zT hrj;have b2:=zT hrO;repeat (refine zB ?_ ?_;(focus (simp only [zA];done));intro K hK;go_simp;refine hK _ ?_;clear hK K)
              refine zN ?_;intro hS;clear b1 b2 hne hS hbl';go_upto_region 9 with fail
              refine zE (Bel wr.drew) false (by kernel_rfl) (by kernel_rfl) (by kernel_rfl) (zG wr.drew) ?_;have hne:=zX wr.drew;have hS:=zG wr.drew;have b1:=zT (W:=wr.drew) hrj;have b2:=zT (W:=wr.drew) hrO;repeat (refine zB ?_ ?_;(focus (simp only [zA];done));intro K hK;go_simp;refine hK _ ?_;clear hK K)
              refine zN ?_;intro hS;clear b1 b2 hne hS h1;have hbz:=hbj.drew.drew;have hownw:=hown.below hbz;have hBw:=hb.trans (hbz.mono hb.size);have hrw : wr.drew.drew.cell? ⟨q,o + k * 33 + 32,none⟩ = some (.string x):=hrj;clear hrO hrj hbj hbz hsl hown;obtain ⟨W,hW⟩ : ∃ W,wr.drew.drew = W:=⟨_,rfl⟩
              rw [hW] at hownw hBw hrw ⊢;clear hW;obtain ⟨A1,hA1⟩ : ∃ A1,(some ⟨g2,0,none⟩ : Option Addr) = A1:=⟨_,rfl⟩
              rw [hA1] at hownw ⊢;clear hA1;have hown0:=Own.empty W W.heap.size 98 2 (Nat.le_refl _);have hBW : Below W.heap.size W (W.alloc (.cells #[] 98)):=(Below.refl _ _).alloc (Nat.le_refl _) _;have hcapO:=hownw.cap_le;have hlo : ∀ w0 : World,(slS 23 (.slice A1 O.length cap1) none (some (.int .i64 m)) none).run Tryz.prog w0 = .ok (.slice A1 m cap1) w0:=fun w0=>fU yL w0 A1 O.length cap1 m (by omega);obtain ⟨Ah,ch,hhi,hhs,hhf⟩:=hownw.hi (P:=Tryz.prog) yL (m:=m) hmO;have hslo : SlR (W.alloc (.cells #[] 98)) A1 m 2 ((O.map kU).take m):=(hownw.below hBW).slr.take_ hmO;have hf1 : A1 = none → cap1 = 0:=fun e=>(hcapO.2 e).2;have hrone : ∀ r ∈ (O.map kU).take m,∀ u ∈ r.toList,u.oneCell' = true:=fun r hr=>(by obtain ⟨y',_,rfl⟩:=List.mem_map.1 (List.mem_of_mem_take hr);exact uP _);have hrone2 : ∀ r ∈ (O.map kU).drop m,∀ u ∈ r.toList,u.oneCell' = true:=fun r hr=>(by obtain ⟨y',_,rfl⟩:=List.mem_map.1 (List.mem_of_mem_drop hr);exact uP _);go_upto_region 11 with (at_builtin;refine yF yL rfl hown0 rfl hslo hf1 hrone (by omega) (by omega) (by simp) ?_;intro A2 cap2 w2 hown2 hk2 hsub2)
              simp only [Nat.zero_add,List.nil_append] at hown2;have hwW : Below W.heap.size W w2:=hBW.trans (hk2.below (by simp) (by simp [blk]));have hrw2 : w2.cell? ⟨q,o + k * 33 + 32,none⟩ = some (.string x):=(hwW.cell (p:=⟨q,o + k * 33 + 32,none⟩) (World.block_lt_of_cell? W _ hrw)).trans hrw;have hB3 : Below w2.heap.size w2 (w2.alloc (.cells (zV ⟨x,⟨#[]⟩⟩) 98)):=(Below.refl _ _).alloc (Nat.le_refl _) _;have hown3:=hown2.below hB3;have hrow3 : zF (w2.alloc (.cells (zV ⟨x,⟨#[]⟩⟩) 98)) w2.heap.size 0 2 = some (zV ⟨x,⟨#[]⟩⟩):=by simp [go_sem]
              have hsz2:=hwW.size;go_upto_region 12 with (at_builtin;refine x8 yL rfl hown3 rfl hrow3 (xU _) (by omega) (by omega) (by simp;omega) ?_;intro A4 cap4 w4 hown4 hk4 hsub4)
              have hwW4 : Below W.heap.size W w4:=(hwW.trans (hB3.mono hsz2)).trans (hk4.below (by simp;omega) (fun x hx=>(hown2.at_base hx).1));have hs4:=hhs w4 ((hownw.below hwW4).slr);have hsz4:=hwW4.size;clear hown3 hrow3 hB3 hown0 hBW hslo hrw2 hlo hcapO;go_upto_region 13 with (at_builtin;refine yF yL rfl hown4 rfl hs4 hhf hrone2 (by omega) (by omega) (by omega) ?_;intro A5 cap5 w5 hown5 hk5 hsub5)
              have hwW5 : Below W.heap.size W w5:=hwW4.trans (hk5.below (by omega) (fun x hx=>(hown4.at_base hx).1));have hBW5:=hBw.trans (hwW5.mono hBw.size);have hO5 : (O.map kU).take m ++ [zV ⟨x,⟨#[]⟩⟩] ++ (O.map kU).drop m = (jU (Z.take (k + 1))).map kU:=by rw [Htk.out,Hat.out];simp [List.map_take,List.map_drop,kU,wG]
              have hL5 : (jU (Z.take (k + 1))).length = m + 1 + (O.length - m):=by rw [Htk.out,Hat.out];simp;omega
              rw [hO5] at hown5;have hown6:=hown5.mono hBw.size;have HL:=Lib.hid hL5;clear hown5 hown4 hown2 hO5 hL5 hs4 hhi;(go_wp2_with fail);go_roundw
              case rel=>exact ⟨k + 1,A5,cap5,by omega,by go_num,(by rw [HL.out]),(show Own _ _ _ _ _ _ _ _ by rw [HL.out];exact hown6),hBW5⟩
              case measure=>simp [intOf];omega
        · have hd : decide (m < O.length) = false:=by simpa using hmlt
          have hat:=jQ (c:=xS) O x m hmO hlow.out (fun hk'=>absurd hk' hmlt);have Hat:=Lib.hid hat;clear hat;go_upto_region 7 with fail
          refine zE (Bel wr) false (by kernel_rfl) (by kernel_rfl) (by kernel_rfl) (zG wr) ?_;have hne:=zX wr;have hS:=zG wr;repeat (refine zB ?_ ?_;(focus (simp only [zA];done));intro K hK;go_simp;refine hK _ ?_;clear hK K)
          refine zN ?_;intro hS;clear hne hS;go_upto_region 9 with fail
          refine zE (Bel wr.drew) false (by kernel_rfl) (by kernel_rfl) (by kernel_rfl) (zG wr.drew) ?_;have hne:=zX wr.drew;have hS:=zG wr.drew;repeat (refine zB ?_ ?_;(focus (simp only [zA];done));intro K hK;go_simp;refine hK _ ?_;clear hK K)
          refine zN ?_;intro hS;clear hne hS hd;have hbz:=hbj.drew.drew;have hownw:=hown.below hbz;have hBw:=hb.trans (hbz.mono hb.size);have hrw : wr.drew.drew.cell? ⟨q,o + k * 33 + 32,none⟩ = some (.string x):=hrj;clear hrj hbj hbz hsl hown hmlt;obtain ⟨W,hW⟩ : ∃ W,wr.drew.drew = W:=⟨_,rfl⟩
          rw [hW] at hownw hBw hrw ⊢;clear hW;have hown0:=Own.empty W W.heap.size 98 2 (Nat.le_refl _);have hBW : Below W.heap.size W (W.alloc (.cells #[] 98)):=(Below.refl _ _).alloc (Nat.le_refl _) _;have hcapO:=hownw.cap_le;have hlo : ∀ w0 : World,(slS 23 (.slice A1 O.length cap1) none (some (.int .i64 m)) none).run Tryz.prog w0 = .ok (.slice A1 m cap1) w0:=fun w0=>fU yL w0 A1 O.length cap1 m (by omega);obtain ⟨Ah,ch,hhi,hhs,hhf⟩:=hownw.hi (P:=Tryz.prog) yL (m:=m) hmO;have hslo : SlR (W.alloc (.cells #[] 98)) A1 m 2 ((O.map kU).take m):=(hownw.below hBW).slr.take_ hmO;have hf1 : A1 = none → cap1 = 0:=fun e=>(hcapO.2 e).2;have hrone : ∀ r ∈ (O.map kU).take m,∀ u ∈ r.toList,u.oneCell' = true:=fun r hr=>(by obtain ⟨y',_,rfl⟩:=List.mem_map.1 (List.mem_of_mem_take hr);exact uP _);have hrone2 : ∀ r ∈ (O.map kU).drop m,∀ u ∈ r.toList,u.oneCell' = true:=fun r hr=>(by obtain ⟨y',_,rfl⟩:=List.mem_map.1 (List.mem_of_mem_drop hr);exact uP _);go_upto_region 11 with (at_builtin;refine yF yL rfl hown0 rfl hslo hf1 hrone (by omega) (by omega) (by simp) ?_;intro A2 cap2 w2 hown2 hk2 hsub2)
          simp only [Nat.zero_add,List.nil_append] at hown2;have hwW : Below W.heap.size W w2:=hBW.trans (hk2.below (by simp) (by simp [blk]));have hrw2 : w2.cell? ⟨q,o + k * 33 + 32,none⟩ = some (.string x):=(hwW.cell (p:=⟨q,o + k * 33 + 32,none⟩) (World.block_lt_of_cell? W _ hrw)).trans hrw;have hB3 : Below w2.heap.size w2 (w2.alloc (.cells (zV ⟨x,⟨#[]⟩⟩) 98)):=(Below.refl _ _).alloc (Nat.le_refl _) _;have hown3:=hown2.below hB3;have hrow3 : zF (w2.alloc (.cells (zV ⟨x,⟨#[]⟩⟩) 98)) w2.heap.size 0 2 = some (zV ⟨x,⟨#[]⟩⟩):=by simp [go_sem]
          have hsz2:=hwW.size;go_upto_region 12 with (at_builtin;refine x8 yL rfl hown3 rfl hrow3 (xU _) (by omega) (by omega) (by simp;omega) ?_;intro A4 cap4 w4 hown4 hk4 hsub4)
          have hwW4 : Below W.heap.size W w4:=(hwW.trans (hB3.mono hsz2)).trans (hk4.below (by simp;omega) (fun x hx=>(hown2.at_base hx).1));have hs4:=hhs w4 ((hownw.below hwW4).slr);have hsz4:=hwW4.size;clear hown3 hrow3 hB3 hown0 hBW hslo hrw2 hlo hcapO;go_upto_region 13 with (at_builtin;refine yF yL rfl hown4 rfl hs4 hhf hrone2 (by omega) (by omega) (by omega) ?_;intro A5 cap5 w5 hown5 hk5 hsub5)
          have hwW5 : Below W.heap.size W w5:=hwW4.trans (hk5.below (by omega) (fun x hx=>(hown4.at_base hx).1));have hBW5:=hBw.trans (hwW5.mono hBw.size);have hO5 : (O.map kU).take m ++ [zV ⟨x,⟨#[]⟩⟩] ++ (O.map kU).drop m = (jU (Z.take (k + 1))).map kU:=by rw [Htk.out,Hat.out];simp [List.map_take,List.map_drop,kU,wG]
          have hL5 : (jU (Z.take (k + 1))).length = m + 1 + (O.length - m):=by rw [Htk.out,Hat.out];simp;omega
          rw [hO5] at hown5;have hown6:=hown5.mono hBw.size;have HL:=Lib.hid hL5;clear hown5 hown4 hown2 hO5 hL5 hs4 hhi;(go_wp2_with fail);go_roundw
          case rel=>exact ⟨k + 1,A5,cap5,by omega,by go_num,(by rw [HL.out]),(show Own _ _ _ _ _ _ _ _ by rw [HL.out];exact hown6),hBW5⟩
          case measure=>simp [intOf];omega
    · have hke : Z.take k = Z:=List.take_of_length_le (by omega);rw [hke] at hown ⊢;clear hke;obtain ⟨F,hF⟩ : ∃ F,jU Z = F:=⟨_,rfl⟩
      rw [hF] at hown ⊢;have HF:=Lib.hid hF;clear hF;(go_wp2_with fail);go_ret;exact ⟨A1,cap1,by rw [HF.out];rfl,by rw [HF.out];exact hown.mono hb1.size,yN hb1 hb⟩
end
section
open Go.RowKit
def gC (m : yR) (o : OpV) (x : RV) : RV :=
  if o.k = 1 then { x with tal:=wrap64 (x.tal + o.n) }
  else if o.k = 2 then { x with adds:=x.adds ++ [⟨m.id,o.val⟩] }
  else if o.k = 3 then { x with gone:=x.gone ++ o.refs.map fun t=>⟨t,o.val⟩ }
  else if o.k = 4 then { x with last:=x.last ++ [⟨o.key,o.val,o.n,m.id⟩] }
  else if o.k = 5 then { x with mL:=x.mL ++ [⟨m.id,o.key,o.val⟩],mO:=yA zO (x.mO ++ o.refs) }
  else if o.k = 6 then { x with sL:=uA x.sL ⟨m.id,m.h,o.ref,o.val⟩ }
  else { x with sG:=xJ zO x.sG o.ref }
theorem YM (m : yR) (x : RV) : n4 m x = gC m (oOf m) x:=rfl
def RV.len (x : RV) : Nat:=x.adds.length + x.gone.length + x.last.length + x.mL.length + x.mO.length + x.sL.length + x.sG.length
theorem KG (N : List zW) (n : zW) : (uA N n).length ≤ N.length + 1:=by
  unfold uA;have:=jC (c:=tX) N n
  repeat' split
  all_goals omega
theorem VN (m : yR) (o : OpV) (x : RV) (h : o.refs.length ≤ 8) : (gC m o x).len ≤ x.len + 9:=by
  unfold gC;split
  · exact Nat.le_add_right _ _
  split
  · unfold RV.len;simp;omega
  split
  · unfold RV.len;simp;omega
  split
  · unfold RV.len;simp;omega
  split
  · have:=yS (c:=zO) (x.mO ++ o.refs);unfold RV.len;simp at this ⊢;omega
  split
  · have:=KG x.sL ⟨m.id,m.h,o.ref,o.val⟩;unfold RV.len;simp only;omega
  · have:=jC (c:=zO) x.sG o.ref;unfold RV.len;simp only;omega
structure hU (x : RV) : Prop where
  adds : ∀ r ∈ x.adds,small r
  gone : ∀ r ∈ x.gone,small r
  last : ∀ r ∈ x.last,qT r.key (wL r) = 0
  mL : ∀ r ∈ x.mL,r.key.size ≤ 16 ∧ r.val.size ≤ 16
  mO : Ris zO x.mO
  sL : jS x.sL
  sG : Ris zO x.sG
theorem rvOk0 : hU rv0:=⟨by simp [rv0],by simp [rv0],by simp [rv0],by simp [rv0],Ris.nil,jS.nil,Ris.nil⟩
theorem rdoS_ok {m : yR} {x : RV} (h : hU x) (he : opE m.body.data.toList = 0) : hU (n4 m x):=by
  have ho : fX (oOf m) ∧ 1 ≤ (oOf m).k ∧ (oOf m).k ≤ 7 ∧ (oOf m).key.size ≤ 16 ∧ (oOf m).val.size ≤ 16 ∧ (oOf m).refs.length ≤ 8 ∧ fA (oOf m).refs = true ∧ (oOf m).n < 2147483648:=dP _ he;have hv:=ho.2.2.2.2.1;unfold n4;split
  · exact ⟨h.adds,h.gone,h.last,h.mL,h.mO,h.sL,h.sG⟩
  split
  · exact ⟨fun r hr=>by
      rcases List.mem_append.1 hr with hr | hr
      · exact h.adds r hr
      · have e : r = ⟨m.id,(oOf m).val⟩:=by simpa using hr
        rw [e];exact hv,h.gone,h.last,h.mL,h.mO,h.sL,h.sG⟩
  split
  · exact ⟨h.adds,fun r hr=>by
      rcases List.mem_append.1 hr with hr | hr
      · exact h.gone r hr
      · obtain ⟨t,_,rfl⟩:=List.mem_map.1 hr;exact hv,h.last,h.mL,h.mO,h.sL,h.sG⟩
  split
  · rename_i h4
    exact ⟨h.adds,h.gone,fun r hr=>by
      rcases List.mem_append.1 hr with hr | hr
      · exact h.last r hr
      · have e : r = cB m:=by simpa using hr
        rw [e];exact sE he h4,h.mL,h.mO,h.sL,h.sG⟩
  split
  · exact ⟨h.adds,h.gone,h.last,fun r hr=>by
      rcases List.mem_append.1 hr with hr | hr
      · exact h.mL r hr
      · have e : r = mY m:=by simpa using hr
        rw [e];exact ⟨ho.2.2.2.1,hv⟩,xB xP _,h.sL,h.sG⟩
  split
  · exact ⟨h.adds,h.gone,h.last,h.mL,h.mO,h.sL.ins _,h.sG⟩
  · exact ⟨h.adds,h.gone,h.last,h.mL,h.mO,h.sL,jP xP h.sG⟩
theorem XQ {t : ByteArray} {m : yR} {x : RV} (h : hU x) : hU (bC t m x):=by
  unfold bC;split
  · rename_i hf;exact rdoS_ok h hf.1
  · exact h
theorem ZN (t : ByteArray) (m : yR) (x : RV) : (bC t m x).len ≤ x.len + 9:=by
  unfold bC;split
  · rename_i hf;rw [YM];exact VN _ _ _ (dP _ hf.1).2.2.2.2.2.1
  · omega
def SlX (w : World) (g : Nat) (s : Sl) (k : Nat) (R : List (Array Value)) : Prop:=SlW w s.A s.n s.c k R ∧ g ∉ blk s.A
theorem SlX.below {w w' : World} {g : Nat} {s : Sl} {k : Nat} {R : List (Array Value)} (h : SlX w g s k R) (hb : Below w.heap.size w w') : SlX w' g s k R:=⟨h.1.below hb,h.2⟩
theorem SlX.keep {w w' : World} {g : Nat} {s : Sl} {k : Nat} {R : List (Array Value)} (h : SlX w g s k R) (hk : zC [g] w w') : SlX w' g s k R:=⟨h.1.kept hk (fun x hx hm=>h.2 (by simp at hm;rw [← hm];exact hx)),h.2⟩
def rvC (t : ByteArray) (si : Sl) (tal : Int) (sa sg sl sm so ss sd : Sl) : Array Value:=#[.string t,slV si,.int .i64 tal,slV sa,slV sg,slV sl,slV sm,slV so,slV ss,slV sd]
structure gW (w : World) (g : Nat) (t : ByteArray) (I : List zK) (x : RV) (si sa sg sl sm so ss sd : Sl) : Prop where
  hp : w.heap[g]? = some (.cells (rvC t si x.tal sa sg sl sm so ss sd) 69 (0,0))
  ids : SlX w g si 32 (I.map idC)
  adds : SlX w g sa 33 (x.adds.map zU)
  gone : SlX w g sg 33 (x.gone.map zU)
  last : SlX w g sl 35 (x.last.map yH)
  mL : SlX w g sm 34 (x.mL.map zQ)
  mO : SlX w g so 32 (x.mO.map idC)
  sL : SlX w g ss 66 (x.sL.map yO)
  sG : SlX w g sd 32 (x.sG.map idC)
def qJ (w : World) (g : Nat) (t : ByteArray) (I : List zK) (x : RV) : Prop:=∃ si sa sg sl sm so ss sd,gW w g t I x si sa sg sl sm so ss sd
section
variable {w w' : World} {g : Nat} {t : ByteArray} {I : List zK} {x : RV} {si sa sg sl sm so ss sd : Sl}
theorem gW.lt (h : gW w g t I x si sa sg sl sm so ss sd) : g < w.heap.size:=(Array.getElem?_eq_some_iff.1 h.hp).1
theorem gW.below (h : gW w g t I x si sa sg sl sm so ss sd) (k : Below w.heap.size w w') : gW w' g t I x si sa sg sl sm so ss sd :=
  ⟨(k.block g h.lt).trans h.hp,h.ids.below k,h.adds.below k,h.gone.below k,h.last.below k,h.mL.below k,h.mO.below k,h.sL.below k,h.sG.below k⟩
theorem gW.cell (h : gW w g t I x si sa sg sl sm so ss sd) (j : Nat) {v : Value} (hv : (rvC t si x.tal sa sg sl sm so ss sd)[j]? = some v) : w.cell? ⟨g,j,none⟩ = some v:=by
  rw [cell_of_row w g j _ _ _ h.hp];exact hv
theorem qJ.below (h : qJ w g t I x) (k : Below w.heap.size w w') : qJ w' g t I x:=by
  obtain ⟨si,sa,sg,sl,sm,so,ss,sd,h⟩:=h;exact ⟨si,sa,sg,sl,sm,so,ss,sd,h.below k⟩
theorem gW.lens (h : gW w g t I x si sa sg sl sm so ss sd) : x.adds.length = sa.n ∧ x.gone.length = sg.n ∧ x.last.length = sl.n ∧ x.mL.length = sm.n ∧ x.mO.length = so.n ∧ x.sL.length = ss.n ∧ x.sG.length = sd.n:=by
  refine ⟨?_,?_,?_,?_,?_,?_,?_⟩
  · simpa using h.adds.1.len
  · simpa using h.gone.1.len
  · simpa using h.last.1.len
  · simpa using h.mL.1.len
  · simpa using h.mO.1.len
  · simpa using h.sL.1.len
  · simpa using h.sG.1.len
theorem gW.set {x' : RV} {si' sa' sg' sl' sm' so' ss' sd' : Sl} (h : gW w g t I x si sa sg sl sm so ss sd) (hk : zC [g] w w')
    (hp : w'.heap[g]? = some (.cells (rvC t si' x'.tal sa' sg' sl' sm' so' ss' sd') 69 (0,0))) (hi : SlX w g si 32 (I.map idC) → SlX w' g si' 32 (I.map idC))
    (h1 : (SlX w g sa 33 (x.adds.map zU) → SlX w' g sa' 33 (x'.adds.map zU))) (h2 : (SlX w g sg 33 (x.gone.map zU) → SlX w' g sg' 33 (x'.gone.map zU)))
    (h3 : (SlX w g sl 35 (x.last.map yH) → SlX w' g sl' 35 (x'.last.map yH))) (h4 : (SlX w g sm 34 (x.mL.map zQ) → SlX w' g sm' 34 (x'.mL.map zQ)))
    (h5 : (SlX w g so 32 (x.mO.map idC) → SlX w' g so' 32 (x'.mO.map idC))) (h6 : (SlX w g ss 66 (x.sL.map yO) → SlX w' g ss' 66 (x'.sL.map yO)))
    (h7 : (SlX w g sd 32 (x.sG.map idC) → SlX w' g sd' 32 (x'.sG.map idC))) : qJ w' g t I x' :=
  ⟨si',sa',sg',sl',sm',so',ss',sd',hp,hi h.ids,h1 h.adds,h2 h.gone,h3 h.last,h4 h.mL,h5 h.mO,h6 h.sL,h7 h.sG⟩
end
end
end Go.Proofs.YtgfpjjppeldhbaaGreatDoor
