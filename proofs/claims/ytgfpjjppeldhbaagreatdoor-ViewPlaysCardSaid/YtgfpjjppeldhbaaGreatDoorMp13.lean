/- Part 13 of the texts that lead to this claim: the walks of the functions and the plain law, in order. -/
import Derived.Test.YtgfpjjppeldhbaaGreatDoorMp12
import Derived.Laws.StructEq
import Derived.LoopN
namespace Go.Proofs.YtgfpjjppeldhbaaGreatDoor
section
open Go.RowKit
set_option maxRecDepth 100000 in
set_option maxHeartbeats 4000000 in
theorem rmput (w : World) (g : Nat) (X : List xT) (G : List zK) (h : RefM w g 6 X G) (hX : X.length ≤ 100000) (hG : G.length ≤ 100000) (hsm : ∀ x ∈ X,x.key.size ≤ 16 ∧ x.val.size ≤ 16) :
    Calls Tryz.prog 88 #[.pointer (some ⟨g,6,none⟩)] w fun e w'=>∃ s : ByteArray,e = .returned (.string s) ∧ s.data.toList = dV (lvM X G) (yA zO G) ∧ Below w.heap.size w w':=by
  have c1:=VF w g X G h hX hG;have hll:=cU X G;have hsz : ∀ x ∈ lvM X G,x.key.size ≤ 16 ∧ x.val.size ≤ 16:=fun x hx=>hsm x (List.mem_filter.1 ((xL fS).1 hx)).1;have hOl:=yS (c:=zO) G;obtain ⟨Z,hZ⟩ : ∃ Z,lvM X G = Z:=⟨_,rfl⟩
  rw [hZ] at c1 hll hsz ⊢;have Hsz:=Lib.hid hsz;clear hZ hsm hsz;obtain ⟨XA,nx,xc,GA,ng,gc,hc0,hc1,hXr,hGr⟩:=h;have hng : G.length = ng:=by simpa using hGr.len
  have hng1 : ng ≤ 100000:=by omega
  clear hng hc0 hXr;go_enter Tryz.func88,Tryz.ntmps88
  (go_wp2_with fail);refine c1.mono ?_;rintro e w1 ⟨RA,nz,rc,rfl,hrow,hb1⟩;have hslZ : vY w1 RA nz Z:=hrow.slr;have hnz : Z.length = nz:=hslZ.len;subst hnz;clear hrow c1;(go_wp2_with fail);refine (cH Z.length 4 w1 (.inr rfl) (by omega)).mono ?_;rintro e w2 ⟨s0,rfl,hs0z,hs0,hb2⟩;have hs2 : vY w2 RA Z.length Z:=SlR.below hslZ hb2;have Hs0:=Lib.hid hs0;have hb02:=yN hb1 hb2;clear hs0 hslZ hb1 hb2;(go_wp2_with fail);go_loopw [4,5] (fun v i wr=>∃ (k : Nat) (s : ByteArray),k ≤ Z.length ∧ i = .int .i64 k ∧ v = .string s ∧ s.size ≤ 4 + 66 * k ∧ Hid (s.data.toList = beL 4 Z.length ++ (Z.take k).flatMap vI) ∧ Below w2.heap.size w2 wr) (fun _ i _=>Z.length - (intOf i).toNat)
  case atStart=>exact ⟨0,s0,Nat.zero_le _,rfl,rfl,by omega,(show s0.data.toList = _ by rw [Hs0.out];simp),Below.refl _ _⟩
  case round =>
    obtain ⟨k,s,hk,rfl,rfl,hsz,hs,hb⟩:=hrel;by_cases hlt : k < Z.length
    · obtain ⟨q,o,rfl,_,hid,hkey,hval⟩:=vY.get (SlR.below hs2 hb) hlt hlt;have hck:=Hsz.out _ (List.getElem_mem hlt);have htk : (Z.take (k + 1)).flatMap vI = (Z.take k).flatMap vI ++ vI Z[k]:=by
        have e : Z.take (k + 1) = Z.take k ++ [Z[k]]:=by rw [List.take_add_one,List.getElem?_eq_getElem hlt];rfl
        rw [e,List.flatMap_append];simp
      obtain ⟨⟨xi,xk,xv⟩,hx⟩ : ∃ x,Z[k]'hlt = x:=⟨_,rfl⟩
      rw [hx] at hkey hval hid htk hck;dsimp only at hkey hval hid hck;have Htk:=Lib.hid htk;obtain ⟨hck1,hck2⟩:=hck;clear hx htk;go_upto_region 6 with fail
      refine zE (Bel wr) false (by kernel_rfl) (by kernel_rfl) (by kernel_rfl) (zG wr) ?_;have hne:=zX wr;have hS:=zG wr;have b1:=yD hid;have b2:=zT hkey;have b3:=zT hval;repeat (refine zB ?_ ?_;(focus (simp only [zA];done));intro K hK;go_simp;refine hK _ ?_;clear hK K)
      refine zH ?_ ?_ ?_;(focus (exact hS));(focus (simp only [zA];done));intro K hK;go_simp;refine (VB xi _).mono ?_;rintro e w' ⟨s6,rfl,z6,h6,hb⟩;replace hS:=yJ hS hb;have Hh6:=Lib.hid h6;have Hz6:=Lib.hid z6;clear h6 z6;have l1 : ¬ 9223372036854775807 < s.size + s6.size:=by have:=Hz6.out;omega
      refine ⟨_,rfl,hS,hK _ _ ?_⟩;clear hK K hb;repeat (refine zB ?_ ?_;(focus (simp only [zA];done));intro K hK;go_simp;refine hK _ ?_;clear hK K)
      refine zH ?_ ?_ ?_;(focus (exact hS));(focus (simp only [zA];done));intro K hK;go_simp;refine (cH xk.size 1 _ (.inl rfl) (by omega)).mono ?_;rintro e w' ⟨s7,rfl,z7,h7,hb⟩;replace hS:=yJ hS hb;have Hh7:=Lib.hid h7;have Hz7:=Lib.hid z7;clear h7 z7;have l2 : ¬ 9223372036854775807 < s.size + s6.size + s7.size:=by have:=Hz6.out;have:=Hz7.out;omega
      have l3 : ¬ 9223372036854775807 < s.size + s6.size + s7.size + xk.size:=by have:=Hz6.out;have:=Hz7.out;omega
      refine ⟨_,rfl,hS,hK _ _ ?_⟩;clear hK K hb;repeat (refine zB ?_ ?_;(focus (simp only [zA];done));intro K hK;go_simp;refine hK _ ?_;clear hK K)
      refine zH ?_ ?_ ?_;(focus (exact hS));(focus (simp only [zA];done));intro K hK;go_simp;refine (cH xv.size 1 _ (.inl rfl) (by omega)).mono ?_;rintro e w' ⟨s8,rfl,z8,h8,hb⟩;replace hS:=yJ hS hb;have Hh8:=Lib.hid h8;have Hz8:=Lib.hid z8;clear h8 z8;have l4 : ¬ 9223372036854775807 < s.size + s6.size + s7.size + xk.size + s8.size:=by have:=Hz6.out;have:=Hz7.out;have:=Hz8.out;omega
      have l5 : ¬ 9223372036854775807 < s.size + s6.size + s7.size + xk.size + s8.size + xv.size:=by have:=Hz6.out;have:=Hz7.out;have:=Hz8.out;omega
      refine ⟨_,rfl,hS,hK _ _ ?_⟩;clear hK K hb;repeat (refine zB ?_ ?_;(focus (simp only [zA];done));intro K hK;go_simp;refine hK _ ?_;clear hK K)
      refine zN ?_;intro hS;have hS' : Below wr.heap.size wr w':=hS;have hbz:=hb.trans (hS'.mono hb.size);clear hne hS hS' b1 b2 b3 l1 l2 l3 l4 l5 hid hkey hval hb;(go_wp2_with fail);go_roundw
      case rel =>
        refine ⟨k + 1,_,by omega,by go_num,rfl,?_,?_,hbz⟩
        · simp only [ByteArray.size_append];have:=Hz6.out;have:=Hz7.out;have:=Hz8.out;omega
        · show _ = _;rw [Htk.out];simp only [ByteArray.data_append,Array.toList_append,hs.out,Hh6.out,Hh7.out,Hh8.out];simp [vI,List.append_assoc]
      case measure=>simp [intOf];omega
    · have e2 : Z.take k = Z:=List.take_of_length_le (by omega);have hs':=hs.out;rw [e2] at hs';have Hs:=Lib.hid hs';have hcr:=((hb02.trans (hb.mono hb02.size)).cell (p:=⟨g,7,none⟩) (World.block_lt_of_cell? w _ hc1)).trans hc1;have hGw:=SlR.below hGr (hb02.trans (hb.mono hb02.size));have hb03:=hb02.trans (hb.mono hb02.size);clear hs hs' e2 hc1 hGr hb hb02 hs2;have cset:=rset wr GA ng gc G hGw (by omega);obtain ⟨O,hO⟩ : ∃ O,yA zO G = O:=⟨_,rfl⟩
      rw [hO] at cset hOl;have HO:=Lib.hid hO;clear hO;(go_wp2_with fail);refine cset.mono ?_;rintro e w4 ⟨OA,oc,rfl,hOw,hOb,hb4⟩;have hO4 : y4 w4 OA O.length O:=hOw.rd;have hb04:=yN hb03 hb4;clear cset hOw hOb hb03 hb4 hGw hcr;(go_wp2_with fail);refine (cH O.length 4 w4 (.inr rfl) (by omega)).mono ?_;rintro e W3 ⟨s2,rfl,hs2z,hs2,hb5⟩;have hO3 : y4 W3 OA O.length O:=SlR.below hO4 hb5;have hbF : ∀ w',Below W3.heap.size W3 w' → Below w.heap.size w w':=fun w' hb'=>yN (yN hb04 hb5) hb';have HbF:=Lib.hid hbF;have l1 : ¬ 9223372036854775807 < s.size + s2.size:=by omega
      have hpre : (s ++ s2).data.toList = beL 4 Z.length ++ Z.flatMap vI ++ beL 4 O.length:=by simp only [ByteArray.data_append,Array.toList_append,Hs.out,hs2]
      have hs3z : (s ++ s2).size ≤ 200000000:=by rw [ByteArray.size_append];omega
      have Hpre0:=Lib.hid hpre;clear hb04 hb5 hbF hO4 hpre hs2;(go_wp2_with fail);obtain ⟨s3,hs3⟩ : ∃ s3,s ++ s2 = s3:=⟨_,rfl⟩
      rw [hs3] at hs3z;rw [hs3];obtain ⟨pre,hpre⟩ : ∃ pre,beL 4 Z.length ++ Z.flatMap vI ++ beL 4 O.length = pre:=⟨_,rfl⟩
      have Hpre:=Lib.hid hpre;have Hs3 : Hid (s3.data.toList = pre):=(show _ = _ by rw [← hs3,Hpre0.out,hpre])
      clear hs3 hpre l1;(go_wp2_with fail);go_loopw [4,7] (fun v i wr=>∃ (k : Nat) (s : ByteArray),k ≤ O.length ∧ i = .int .i64 k ∧ v = .string s ∧ s.size ≤ 200000000 + 32 * k ∧ Hid (s.data.toList = pre ++ (O.take k).flatMap zK.l) ∧ Below W3.heap.size W3 wr) (fun _ i _=>O.length - (intOf i).toNat)
      case atStart=>exact ⟨0,s3,Nat.zero_le _,rfl,rfl,by omega,(show s3.data.toList = _ by rw [Hs3.out];simp),Below.refl _ _⟩
      case round =>
        obtain ⟨k,s,hk,rfl,rfl,hsz,hs,hb⟩:=hrel;skip;by_cases hlt : k < O.length
        · obtain ⟨q,o,rfl,hid⟩:=y4.get (SlR.below hO3 hb) hlt hlt;have htk : (O.take (k + 1)).flatMap zK.l = (O.take k).flatMap zK.l ++ (O[k]).l:=by
            have e : O.take (k + 1) = O.take k ++ [O[k]]:=by rw [List.take_add_one,List.getElem?_eq_getElem hlt];rfl
            rw [e,List.flatMap_append];simp
          obtain ⟨x,hx⟩ : ∃ x,O[k]'hlt = x:=⟨_,rfl⟩
          rw [hx] at hid htk;have Htk:=Lib.hid htk;clear hx htk;have l1 : ¬ 9223372036854775807 < s.size + 32:=by omega
          (go_wp2_with fail);refine (VB x wr).mono ?_;rintro e w6 ⟨s6,rfl,hs6z,hs6,hb6⟩;have hbw:=hb.trans (hb6.mono hb.size);have Hs6:=Lib.hid hs6;have l2 : ¬ 9223372036854775807 < s.size + s6.size:=by omega
          clear hs6 l1 hid;(go_wp2_with fail);go_roundw
          case rel =>
            refine ⟨k + 1,s ++ s6,by omega,by go_num,rfl,?_,?_,hbw⟩
            · rw [ByteArray.size_append];omega
            · show _ = _;rw [Htk.out];simp only [ByteArray.data_append,Array.toList_append,hs.out,Hs6.out,List.append_assoc]
          case measure=>simp [intOf];omega
        · have e2 : O.take k = O:=List.take_of_length_le (by omega);have hs':=hs.out;rw [e2] at hs';have Hs:=Lib.hid hs';clear hs hs' e2;(go_wp2_with fail);go_ret;exact ⟨s,rfl,(by rw [Hs.out,← Hpre.out,HO.out];simp [dV,gV,List.append_assoc]),HbF.out _ hb⟩
end
section
open Go.RowKit
set_option maxRecDepth 100000 in
set_option maxHeartbeats 4000000 in
theorem rsput (w : World) (g : Nat) (L : List zW) (O : List zK) (h : YF w g 8 L O) (hok : jS L) (hX : L.length ≤ 100000) (hG : O.length ≤ 100000) :
    Calls Tryz.prog 89 #[.pointer (some ⟨g,8,none⟩)] w fun e w'=>∃ s : ByteArray,e = .returned (.string s) ∧ s.data.toList = gO L O ∧ Below w.heap.size w w':=by
  have hLe : vH L = L:=uK mS hok.ris;have HL:=Lib.hid hLe;have hsz : ∀ x ∈ L,x.val.size ≤ 16 ∧ 1 ≤ x.h ∧ x.h ≤ 1073741824:=fun x hx=>(kV (hok.ok x hx)).2;have Hsz:=Lib.hid hsz;clear hLe hok hsz;obtain ⟨XA,nx,xc,IA,ng,gc,hc0,hc1,hXr,hGr⟩:=h;have hng : O.length = ng:=by simpa using hGr.len
  subst hng;have hnx : L.length = nx:=hXr.len;subst hnx;have c0:=cG L.length 4 w (.inr rfl) (by omega);go_enter Tryz.func89,Tryz.ntmps89
  (go_wp2_with fail);refine c0.mono ?_;rintro e w2 ⟨s0,rfl,hs0z,hs0,hb02⟩;have hs2 : vX w2 XA L.length L:=SlR.below hXr hb02;have hc82:=(hb02.cell (p:=⟨g,8,none⟩) (World.block_lt_of_cell? w _ hc0)).trans hc0;have hc92:=(hb02.cell (p:=⟨g,9,none⟩) (World.block_lt_of_cell? w _ hc1)).trans hc1;have hG2:=SlR.below hGr hb02;have Hs0:=Lib.hid hs0;clear hs0 c0 hc0 hc1 hXr hGr;(go_wp2_with fail);go_loopw [3,4] (fun v i wr=>∃ (k : Nat) (s : ByteArray),k ≤ L.length ∧ i = .int .i64 k ∧ v = .string s ∧ s.size ≤ 4 + 85 * k ∧ Hid (s.data.toList = beL 4 L.length ++ (L.take k).flatMap vD) ∧ Below w2.heap.size w2 wr) (fun _ i _=>L.length - (intOf i).toNat)
  case atStart=>exact ⟨0,s0,Nat.zero_le _,rfl,rfl,by omega,(show s0.data.toList = _ by rw [Hs0.out];simp),Below.refl _ _⟩
  case round =>
    obtain ⟨k,s,hk,rfl,rfl,hsz,hs,hb⟩:=hrel;have hcr8:=(hb.cell (p:=⟨g,8,none⟩) (World.block_lt_of_cell? w2 _ hc82)).trans hc82;by_cases hlt : k < L.length
    · obtain ⟨q,o,rfl,hr0⟩:=vX.get (SlR.below hs2 hb) hlt hlt;have hck:=Hsz.out _ (List.getElem_mem hlt);have htk : (L.take (k + 1)).flatMap vD = (L.take k).flatMap vD ++ vD L[k]:=by
        have e : L.take (k + 1) = L.take k ++ [L[k]]:=by rw [List.take_add_one,List.getElem?_eq_getElem hlt];rfl
        rw [e,List.flatMap_append];simp
      obtain ⟨x,hx⟩ : ∃ x,L[k]'hlt = x:=⟨_,rfl⟩
      rw [hx] at hr0 htk hck;have Htk:=Lib.hid htk;obtain ⟨hck1,hck2,hck3⟩:=hck;obtain ⟨hh,hhe⟩ : ∃ hh : Nat,x.h = hh:=⟨x.h.toNat,by omega⟩
      have Hhe:=Lib.hid hhe;have hhb : hh ≤ 1073741824:=by omega
      have hbx : Below wr.heap.size wr (wr.alloc (.cells (yK (k8 x)) 213)):=(Below.refl _ _).alloc (Nat.le_refl _) _;have hrx : zF (wr.alloc (.cells (yK (k8 x)) 213)) wr.heap.size 0 66 = some (yO x):=by simp [go_sem]
      have hb1:=hb.trans (hbx.mono hb.size);go_upto_region 6 with fail
      obtain ⟨gx,hgx⟩ : ∃ gx,wr.heap.size = gx:=⟨_,rfl⟩
      obtain ⟨V,hV⟩ : ∃ V,wr.alloc (.cells (yK (k8 x)) 213) = V:=⟨_,rfl⟩
      rw [hV] at hrx hb1;rw [hV];rw [hgx] at hrx ⊢;obtain ⟨f1,f2,f3,f4⟩:=vO hrx;rw [Nat.zero_add] at f2 f3 f4;rw [hhe] at f2;clear hgx hV hbx hb hcr8 hr0 htk hhe hck2 hck3 hrx;refine zE (Bel V) false (by kernel_rfl) (by kernel_rfl) (by kernel_rfl) (zG V) ?_;have hne:=zX V;have hS:=zG V;have b1:=yD f1;have b2:=zT f2;have b3:=yD f3;have b4:=zT f4;repeat (refine zB ?_ ?_;(focus (simp only [zA];done));intro K hK;go_simp;refine hK _ ?_;clear hK K)
      refine zH ?_ ?_ ?_;(focus (exact hS));(focus (simp only [zA];done));intro K hK;go_simp;refine (ZI x.id _).mono ?_;rintro e w' ⟨s6,rfl,z6,h6,hb⟩;replace hS:=yJ hS hb;have Hh6:=Lib.hid h6;have Hz6:=Lib.hid z6;clear h6 z6;have l1 : ¬ 9223372036854775807 < s.size + s6.size:=by have:=Hz6.out;omega
      refine ⟨_,rfl,hS,hK _ _ ?_⟩;clear hK K hb;repeat (refine zB ?_ ?_;(focus (simp only [zA];done));intro K hK;go_simp;refine hK _ ?_;clear hK K)
      refine zH ?_ ?_ ?_;(focus (exact hS));(focus (simp only [zA];done));intro K hK;go_simp;refine (cG hh 4 _ (.inr rfl) (by omega)).mono ?_;rintro e w' ⟨s7,rfl,z7,h7,hb⟩;replace hS:=yJ hS hb;have Hh7:=Lib.hid h7;have Hz7:=Lib.hid z7;clear h7 z7;have l2 : ¬ 9223372036854775807 < s.size + s6.size + s7.size:=by have:=Hz6.out;have:=Hz7.out;omega
      refine ⟨_,rfl,hS,hK _ _ ?_⟩;clear hK K hb;repeat (refine zB ?_ ?_;(focus (simp only [zA];done));intro K hK;go_simp;refine hK _ ?_;clear hK K)
      refine zH ?_ ?_ ?_;(focus (exact hS));(focus (simp only [zA];done));intro K hK;go_simp;refine (ZI x.ref _).mono ?_;rintro e w' ⟨s9,rfl,z9,h9,hb⟩;replace hS:=yJ hS hb;have Hh9:=Lib.hid h9;have Hz9:=Lib.hid z9;clear h9 z9;have l3 : ¬ 9223372036854775807 < s.size + s6.size + s7.size + s9.size:=by have:=Hz6.out;have:=Hz7.out;have:=Hz9.out;omega
      refine ⟨_,rfl,hS,hK _ _ ?_⟩;clear hK K hb;repeat (refine zB ?_ ?_;(focus (simp only [zA];done));intro K hK;go_simp;refine hK _ ?_;clear hK K)
      refine zH ?_ ?_ ?_;(focus (exact hS));(focus (simp only [zA];done));intro K hK;go_simp;refine (cG x.val.size 1 _ (.inl rfl) (by omega)).mono ?_;rintro e w' ⟨s8,rfl,z8,h8,hb⟩;replace hS:=yJ hS hb;have Hh8:=Lib.hid h8;have Hz8:=Lib.hid z8;clear h8 z8;have l4 : ¬ 9223372036854775807 < s.size + s6.size + s7.size + s9.size + s8.size:=by have:=Hz6.out;have:=Hz7.out;have:=Hz9.out;have:=Hz8.out;omega
      have l5 : ¬ 9223372036854775807 < s.size + s6.size + s7.size + s9.size + s8.size + x.val.size:=by have:=Hz6.out;have:=Hz7.out;have:=Hz9.out;have:=Hz8.out;omega
      refine ⟨_,rfl,hS,hK _ _ ?_⟩;clear hK K hb;repeat (refine zB ?_ ?_;(focus (simp only [zA];done));intro K hK;go_simp;refine hK _ ?_;clear hK K)
      refine zN ?_;intro hS;have hS' : Below V.heap.size V w':=hS;have hbz:=hb1.trans (hS'.mono hb1.size);clear hne hS hS' b1 b2 b3 b4 l1 l2 l3 l4 l5 f1 f2 f3 f4 hb1;(go_wp2_with fail);go_roundw
      case rel =>
        refine ⟨k + 1,_,by omega,by go_num,rfl,?_,?_,hbz⟩
        · simp only [ByteArray.size_append];have:=Hz6.out;have:=Hz7.out;have:=Hz8.out;have:=Hz9.out;omega
        · show _ = _;rw [Htk.out];simp only [ByteArray.data_append,Array.toList_append,hs.out,Hh6.out,Hh7.out,Hh8.out,Hh9.out];simp [vD,List.append_assoc,Hhe.out]
      case measure=>simp [intOf];omega
    · have e2 : L.take k = L:=List.take_of_length_le (by omega);have hs':=hs.out;rw [e2] at hs';have Hs:=Lib.hid hs';have hc9r:=(hb.cell (p:=⟨g,9,none⟩) (World.block_lt_of_cell? w2 _ hc92)).trans hc92;have hGw:=SlR.below hG2 hb;have hb03:=hb02.trans (hb.mono hb02.size);clear hs hs' e2 hc92 hG2 hb hb02 hs2;have cn:=cG O.length 4 wr (.inr rfl) (by omega);(go_wp2_with fail);refine cn.mono ?_;rintro e W3 ⟨s2,rfl,hs2z,hs2,hb5⟩;have hO3 : y4 W3 IA O.length O:=SlR.below hGw hb5;have hc93:=(hb5.cell (p:=⟨g,9,none⟩) (World.block_lt_of_cell? wr _ hc9r)).trans hc9r;have hbF : ∀ w',Below W3.heap.size W3 w' → Below w.heap.size w w':=fun w' hb'=>yN (yN hb03 hb5) hb';have HbF:=Lib.hid hbF;have l1 : ¬ 9223372036854775807 < s.size + s2.size:=by omega
      have hpre : (s ++ s2).data.toList = beL 4 L.length ++ L.flatMap vD ++ beL 4 O.length:=by simp only [ByteArray.data_append,Array.toList_append,Hs.out,hs2]
      have hs3z : (s ++ s2).size ≤ 200000000:=by rw [ByteArray.size_append];omega
      have Hpre0:=Lib.hid hpre;clear hb03 hb5 hbF hGw hpre hs2 cn hc9r hcr8;(go_wp2_with fail);obtain ⟨s3,hs3⟩ : ∃ s3,s ++ s2 = s3:=⟨_,rfl⟩
      rw [hs3] at hs3z;rw [hs3];obtain ⟨pre,hpre⟩ : ∃ pre,beL 4 L.length ++ L.flatMap vD ++ beL 4 O.length = pre:=⟨_,rfl⟩
      have Hpre:=Lib.hid hpre;have Hs3 : Hid (s3.data.toList = pre):=(show _ = _ by rw [← hs3,Hpre0.out,hpre])
      clear hs3 hpre l1;(go_wp2_with fail);go_loopw [3,6] (fun v i wr=>∃ (k : Nat) (s : ByteArray),k ≤ O.length ∧ i = .int .i64 k ∧ v = .string s ∧ s.size ≤ 200000000 + 32 * k ∧ Hid (s.data.toList = pre ++ (O.take k).flatMap zK.l) ∧ Below W3.heap.size W3 wr) (fun _ i _=>O.length - (intOf i).toNat)
      case atStart=>exact ⟨0,s3,Nat.zero_le _,rfl,rfl,by omega,(show s3.data.toList = _ by rw [Hs3.out];simp),Below.refl _ _⟩
      case round =>
        obtain ⟨k,s,hk,rfl,rfl,hsz,hs,hb⟩:=hrel;have hcr:=(hb.cell (p:=⟨g,9,none⟩) (World.block_lt_of_cell? W3 _ hc93)).trans hc93;by_cases hlt : k < O.length
        · obtain ⟨q,o,rfl,hid⟩:=y4.get (SlR.below hO3 hb) hlt hlt;have htk : (O.take (k + 1)).flatMap zK.l = (O.take k).flatMap zK.l ++ (O[k]).l:=by
            have e : O.take (k + 1) = O.take k ++ [O[k]]:=by rw [List.take_add_one,List.getElem?_eq_getElem hlt];rfl
            rw [e,List.flatMap_append];simp
          obtain ⟨x,hx⟩ : ∃ x,O[k]'hlt = x:=⟨_,rfl⟩
          rw [hx] at hid htk;have Htk:=Lib.hid htk;clear hx htk;have l1 : ¬ 9223372036854775807 < s.size + 32:=by omega
          (go_wp2_with fail);refine (ZI x wr).mono ?_;rintro e w6 ⟨s6,rfl,hs6z,hs6,hb6⟩;have hbw:=hb.trans (hb6.mono hb.size);have Hs6:=Lib.hid hs6;have l2 : ¬ 9223372036854775807 < s.size + s6.size:=by omega
          clear hs6 l1 hid;(go_wp2_with fail);go_roundw
          case rel =>
            refine ⟨k + 1,s ++ s6,by omega,by go_num,rfl,?_,?_,hbw⟩
            · rw [ByteArray.size_append];omega
            · show _ = _;rw [Htk.out];simp only [ByteArray.data_append,Array.toList_append,hs.out,Hs6.out,List.append_assoc]
          case measure=>simp [intOf];omega
        · have e2 : O.take k = O:=List.take_of_length_le (by omega);have hs':=hs.out;rw [e2] at hs';have Hs:=Lib.hid hs';clear hs hs' e2;(go_wp2_with fail);go_ret;exact ⟨s,rfl,(by rw [Hs.out,← Hpre.out];unfold gO;rw [HL.out];simp [gV,List.append_assoc]),HbF.out _ hb⟩
end
section
open Go.RowKit
set_option maxRecDepth 100000 in
set_option maxHeartbeats 2000000 in
theorem rrows (w : World) (A : Option Addr) (cap : Nat) (O : List yT) (h : qC w A O.length O) (hn : O.length ≤ 100000) (hok : ∀ x ∈ O,small x) :
    Calls Tryz.prog 160 #[.slice A O.length cap] w fun e w'=>∃ s : ByteArray,e = .returned (.string s) ∧ s.data.toList = tG O ∧ Below w.heap.size w w':=by
  have HokO:=Lib.hid hok;clear hok;go_enter Tryz.func160,Tryz.ntmps160
  (go_wp2_with fail);refine (gZ O.length 4 _ (.inr rfl) (by omega)).mono ?_;rintro e w2 ⟨s0,rfl,hs0z,hs0,hb2⟩;have hs2 : qC w2 A O.length O:=SlR.below h hb2;have Hs0:=Lib.hid hs0;clear hs0;(go_wp2_with fail);go_loopw [3,5] (fun v i wr=>∃ (k : Nat) (s : ByteArray),k ≤ O.length ∧ i = .int .i64 k ∧ v = .string s ∧ s.size ≤ 4 + 49 * k ∧ Hid (s.data.toList = beL 4 O.length ++ (O.take k).flatMap dI) ∧ Below w2.heap.size w2 wr) (fun _ i _=>O.length - (intOf i).toNat)
  case atStart=>exact ⟨0,s0,Nat.zero_le _,rfl,rfl,by omega,(show s0.data.toList = _ by rw [Hs0.out];simp),Below.refl _ _⟩
  case round =>
    obtain ⟨k,s,hk,rfl,rfl,hsz,hs,hb⟩:=hrel;by_cases hlt : k < O.length
    · obtain ⟨q,o,rfl,_,hid,hval⟩:=qC.get (SlR.below hs2 hb) hlt hlt;have hck:=HokO.out _ (List.getElem_mem hlt);have htk : (O.take (k + 1)).flatMap dI = (O.take k).flatMap dI ++ dI O[k]:=by
        have e : O.take (k + 1) = O.take k ++ [O[k]]:=by rw [List.take_add_one,List.getElem?_eq_getElem hlt];rfl
        rw [e,List.flatMap_append];simp
      obtain ⟨⟨xi,xv⟩,hx⟩ : ∃ x,O[k]'hlt = x:=⟨_,rfl⟩
      rw [hx] at hval hid htk hck;unfold small at hck;dsimp only at hval hid hck;have Htk:=Lib.hid htk;clear hx htk;have hrow6 : zF (wr.alloc (.cells (idC xi) 39)) wr.heap.size 0 32 = some (idC xi):=by simp [go_sem]
      have c6:=cK xi (wr.alloc (.cells (idC xi) 39)) wr.heap.size 0 1 hrow6;have hb6 : Below wr.heap.size wr (wr.alloc (.cells (idC xi) 39)):=(Below.refl _ _).alloc (Nat.le_refl _) _;clear hrow6;(go_wp2_with fail);refine c6.mono ?_;rintro e w6 ⟨s6,rfl,hs6,hb6'⟩;have hbw6 : Below wr.heap.size wr w6:=yN hb6 hb6';have hval6:=(hbw6.cell (p:=⟨q,o + k * 33 + 32,none⟩) (World.block_lt_of_cell? wr _ hval)).trans hval;have hs6s : s6.size = 33:=by
        have : s6.data.toList.length = s6.size:=Array.length_toList;rw [← this,hs6];simp [xi.h]
      have ht6:=kZ hs6;rw [hs6s] at ht6;have Ht6:=Lib.hid ht6;have hbw:=hb.trans (hbw6.mono hb.size);clear c6 hb6 hb6' hval hid hs6 ht6;(go_wp2_with fail);refine (gZ xv.size 1 w6 (.inl rfl) (by omega)).mono ?_;rintro e w7 ⟨s7,rfl,hs7z,hs7,hb7⟩;have hval7:=(hb7.cell (p:=⟨q,o + k * 33 + 32,none⟩) (World.block_lt_of_cell? w6 _ hval6)).trans hval6;have hbw7:=hbw.trans (hb7.mono hbw.size);have Hs7:=Lib.hid hs7;clear hs7 hval6;have l1 : ¬ 9223372036854775807 < s.size + 32:=by omega
      have l2 : ¬ 9223372036854775807 < s.size + 32 + 1:=by omega
      have l3 : ¬ 9223372036854775807 < s.size + 32 + 1 + xv.size:=by omega
      go_upto_region 7 with fail
      refine zE (Bel w7) false (by kernel_rfl) (by kernel_rfl) (by kernel_rfl) (zG w7) ?_;have hne:=zX w7;have hS:=zG w7;have b1:=zT hval7;repeat (refine zB ?_ ?_;(focus (simp only [zA];done));intro K hK;go_simp;refine hK _ ?_;clear hK K)
      refine zN ?_;intro hS;have hS' : Below w7.heap.size w7 w7.drew:=hS;have hbw':=hbw7.trans (hS'.mono hbw7.size);clear hne hS b1 l1 l2 l3;(go_wp2_with fail);go_roundw
      case rel =>
        refine ⟨k + 1,_,by omega,by go_num,rfl,?_,?_,hbw'⟩
        · simp only [ByteArray.size_append];have : (s6.extract 1 33).size = 32:=by rw [ByteArray.size_extract];omega
          omega
        · show _ = _;rw [Htk.out];simp only [ByteArray.data_append,Array.toList_append,hs.out,Ht6.out,Hs7.out];simp [dI,List.append_assoc]
      case measure=>simp [intOf];omega
    · have hk2 : k = O.length:=by omega
      have e2 : O.take k = O:=List.take_of_length_le (by omega);have hs':=hs.out;rw [e2] at hs';have Hs:=Lib.hid hs';clear hs hs' e2 hk2;(go_wp2_with fail);go_ret;exact ⟨s,rfl,(by rw [Hs.out];rfl),yN hb2 hb⟩
theorem lV {X : List yT} (h : ∀ x ∈ X,small x) : ∀ x ∈ yA yI X,small x:=fun x hx=>h x ((xL qV).1 hx)
theorem iT {X G : List yT} (h : ∀ x ∈ X,small x) : ∀ x ∈ kM X G,small x:=fun x hx=>lV h x (List.mem_filter.1 hx).1
end
section
open Go.RowKit
set_option maxRecDepth 100000 in
set_option maxHeartbeats 2000000 in
theorem rbput3 (w : World) (g : Nat) (X G : List yT) (h : mD w g X G) (hX : X.length ≤ 100000) (hG : G.length ≤ 100000) (sX : ∀ x ∈ X,small x) (sG : ∀ x ∈ G,small x) :
    Calls Tryz.prog 86 #[.pointer (some ⟨g,3,none⟩)] w fun e w'=>∃ s : ByteArray,e = .returned (.string s) ∧ s.data.toList = pX (kM X G) (yA yI G) ∧ Below w.heap.size w w':=by
  have hl1:=rS X G;have hl2:=yS (c:=yI) G;have sL:=iT (G:=G) sX;have sS:=lV sG;have hz1:=bB sL;have hz2:=bB sS;have hlive:=fun w' (h' : mD w' g X G)=>VG w' g X G h' hX hG;have hsrt:=fun (w' : World) (A : Option Addr) (n cap : Nat) (h' : qC w' A n G) (hn : n ≤ 1000000)=>YJ w' A n cap G h' hn;obtain ⟨Z,hZ⟩ : ∃ Z,kM X G = Z:=⟨_,rfl⟩
  obtain ⟨Y,hY⟩ : ∃ Y,yA yI G = Y:=⟨_,rfl⟩
  rw [hZ] at hlive sL hl1 hz1 ⊢;rw [hY] at hsrt sS hl2 hz2 ⊢;have HsL:=Lib.hid sL;have HsS:=Lib.hid sS;clear hZ hY sL sS sX sG;have hmk : ∀ w' : World,Below w.heap.size w w' → mD w' g X G:=fun w' hb=>h.below hb;obtain ⟨A,n,cap,A',n',cap',hc0,hc1,h1,h2⟩:=h;have hn':=h2.len;have hnb : n' ≤ 1000000:=by omega
  clear hn';go_enter Tryz.func86,Tryz.ntmps86
  go_upto_region 1 with fail
  refine zE (Bel w) false (by kernel_rfl) (by kernel_rfl) (by kernel_rfl) (zG w) ?_;have hne:=zX w;have hS:=zG w;have b1:=zT hc1;repeat (refine zB ?_ ?_;(focus (simp only [zA];done));intro K hK;go_simp;refine hK _ ?_;clear hK K)
  refine zH ?_ ?_ ?_;(focus (exact hS));(focus (simp only [zA];done));intro K hK;go_simp;refine (hlive _ (hmk _ hS)).mono ?_;rintro e w1 ⟨LA,lc,rfl,hown1,hb1⟩;replace hS:=yJ hS hb1;refine ⟨_,rfl,hS,hK _ _ ?_⟩;clear hK K hb1;repeat (refine zB ?_ ?_;(focus (simp only [zA];done));intro K hK;go_simp;refine hK _ ?_;clear hK K)
  refine zH ?_ ?_ ?_;(focus (exact hS));(focus (simp only [zA];done));intro K hK;go_simp;refine (rrows _ _ _ _ hown1.slr (by omega) HsL.out).mono ?_;rintro e w2 ⟨s2,rfl,hs2,hb2⟩;replace hS:=yJ hS hb2;refine ⟨_,rfl,hS,hK _ _ ?_⟩;clear hK K hb2 hown1;repeat (refine zB ?_ ?_;(focus (simp only [zA];done));intro K hK;go_simp;refine hK _ ?_;clear hK K)
  refine zH ?_ ?_ ?_;(focus (exact hS));(focus (simp only [zA];done));intro K hK;go_simp;refine (hsrt _ _ _ _ (SlR.below h2 hS) hnb).mono ?_;rintro e w3 ⟨SA,sc,rfl,hown3,hb3⟩;replace hS:=yJ hS hb3;refine ⟨_,rfl,hS,hK _ _ ?_⟩;clear hK K hb3;repeat (refine zB ?_ ?_;(focus (simp only [zA];done));intro K hK;go_simp;refine hK _ ?_;clear hK K)
  refine zH ?_ ?_ ?_;(focus (exact hS));(focus (simp only [zA];done));intro K hK;go_simp;refine (rrows _ _ _ _ hown3.slr (by omega) HsS.out).mono ?_;rintro e w4 ⟨s4,rfl,hs4,hb4⟩;replace hS:=yJ hS hb4;refine ⟨_,rfl,hS,hK _ _ ?_⟩;clear hK K hb4 hown3;have z2 : s2.size = (tG Z).length:=by rw [← hs2];exact Array.length_toList.symm
  have z4 : s4.size = (tG Y).length:=by rw [← hs4];exact Array.length_toList.symm
  have l1 : ¬ 9223372036854775807 < s2.size + s4.size:=by omega
  have Hs2:=Lib.hid hs2;have Hs4:=Lib.hid hs4;clear hs2 hs4 z2 z4;repeat (refine zB ?_ ?_;(focus (simp only [zA];done));intro K hK;go_simp;refine hK _ ?_;clear hK K)
  refine zN ?_;intro hS;clear hne b1;(go_wp2_with fail);go_ret;exact ⟨_,rfl,by rw [ByteArray.data_append,Array.toList_append,Hs2.out,Hs4.out];rfl,hS⟩
end
section
open Go.RowKit
end
section
open Go.RowKit
set_option maxHeartbeats 1000000 in
theorem rnumN (n M : Nat) (w : World) (hM : M = 1 ∨ M = 4) (h : n < 256 ^ M) :
    Calls Tryz.prog 162 #[.int .i64 n,.int .i64 M] w fun e w'=>e = .returned (.string ⟨(beL M n).toArray⟩) ∧ Below w.heap.size w w':=by
  have c : Calls Tryz.prog 83 #[.int .i64 n,.int .i64 M] w fun e w'=>e = .returned (.tuple #[.string ⟨(beL M n).toArray⟩,.int .i64 0]) ∧ Below w.heap.size w w':=by
    rcases hM with rfl | rfl
    · exact VE n w h
    · exact rnum4 n w h
  clear h hM;go_enter Tryz.func162,Tryz.ntmps162
  (go_wp2_with fail);refine c.mono ?_;rintro e w1 ⟨rfl,hb⟩;clear c;(go_wp2_with fail);go_ret;exact ⟨rfl,hb⟩
end
section
open Go.RowKit
end
section
open Go.RowKit
theorem iY : ∀ (l : List Row) (x y : Row),y ∈ gU l x → y = x ∨ y ∈ l
  | [],x,y,h=>by simp [gU] at h;exact .inl h
  | a :: l,x,y,h=>by
    unfold gU at h;split at h
    · rcases List.mem_cons.1 h with h | h
      · right;simp [h]
      · rcases iY l x y h with h | h
        · exact .inl h
        · right;simp [h]
    · split at h
      · split at h
        · rcases List.mem_cons.1 h with h | h
          · exact .inl h
          · right;simp [h]
        · exact .inr h
      · rcases List.mem_cons.1 h with h | h
        · exact .inl h
        · exact .inr h
theorem sD : ∀ (l a : List Row) (y : Row),y ∈ l.foldl gU a → y ∈ a ∨ y ∈ l
  | [],a,y,h=>.inl h
  | x :: l,a,y,h=>by
    rcases sD l (gU a x) y h with h | h
    · rcases iY a x y h with h | h
      · right;simp [h]
      · exact .inl h
    · right;simp [h]
theorem iV (l : List Row) (y : Row) (h : y ∈ xH l) : y ∈ l:=by
  rcases sD l [] y h with h | h
  · cases h
  · exact h
theorem VD (n M : Nat) (w : World) (hM : M = 1 ∨ M = 4) (h : n < 256 ^ M) :
    Calls Tryz.prog 162 #[.int .i64 n,.int .i64 M] w fun e w'=>∃ s : ByteArray,e = .returned (.string s) ∧ s.size = M ∧ s.data.toList = beL M n ∧ Below w.heap.size w w' :=
  (rnumN n M w hM h).mono fun _ _ ⟨he,hb⟩=>⟨_,he,(by show (beL M n).toArray.size = M;simp [yC]),by simp,hb⟩
set_option maxRecDepth 100000 in
set_option maxHeartbeats 2000000 in
theorem rputL (w : World) (A : Option Addr) (n cap : Nat) (R : List Row) (h : jT w A n R) (hn : n ≤ 1000000) (hok : ∀ x ∈ R,qT x.key (wL x) = 0) :
    Calls Tryz.prog 87 #[.slice A n cap] w fun e w'=>∃ s : ByteArray,e = .returned (.string s) ∧ s.data.toList = dW ((xH R).map uV) ∧ Below w.heap.size w w':=by
  have hol : (xH R).length ≤ 1000000:=by have:=g6 R;have:=jT.len h;omega
  have hokO : Hid (∀ x ∈ xH R,qT x.key (wL x) = 0):=fun x hx=>hok x (iV R x hx);obtain ⟨O,hO⟩ : ∃ O,xH R = O:=⟨_,rfl⟩
  have c1:=YK w A n cap R h hn;rw [hO] at c1 hol hokO ⊢;clear hO hok;go_enter Tryz.func87,Tryz.ntmps87
  (go_wp2_with fail);refine c1.mono ?_;rintro e w1 ⟨A1,cap1,rfl,hown1,hb1⟩;have hs1 : jT w1 A1 O.length O:=hown1.slr;clear c1 hown1;(go_wp2_with fail);refine (rnumN O.length 4 _ (.inr rfl) (by omega)).mono ?_;rintro e w2 ⟨rfl,hb2⟩;have hs2 : jT w2 A1 O.length O:=SlR.below hs1 hb2;have hb2':=yN hb1 hb2;obtain ⟨s0,hs0⟩ : ∃ s0 : ByteArray,(⟨(beL 4 O.length).toArray⟩ : ByteArray) = s0:=⟨_,rfl⟩
  have Hs0:=Lib.hid hs0;rw [hs0];clear hs0 hb1 hb2 hs1;(go_wp2_with fail);go_loopw [4,5] (fun v i wr=>∃ (k : Nat) (s : ByteArray),k ≤ O.length ∧ i = .int .i64 k ∧ v = .string s ∧ s.size ≤ 4 + 70 * k ∧ Hid (s.data.toList = beL 4 O.length ++ ((O.take k).map uV).flatMap bK) ∧ Below w2.heap.size w2 wr) (fun _ i _=>O.length - (intOf i).toNat)
  case atStart=>exact ⟨0,s0,Nat.zero_le _,rfl,rfl,(by rw [← Hs0.out];show (beL 4 O.length).toArray.size ≤ _;simp [yC]),(show s0.data.toList = _ by rw [← Hs0.out];simp),Below.refl _ _⟩
  case round =>
    obtain ⟨k,s,hk,rfl,rfl,hsz,hs,hb⟩:=hrel;by_cases hlt : k < O.length
    · obtain ⟨q,o,rfl,hr,hkey,hval,hnn,hid⟩:=jT.get (SlR.below hs2 hb) hlt hlt;have hck:=hokO.out _ (List.getElem_mem hlt);have htk : ((O.take (k + 1)).map uV).flatMap bK = ((O.take k).map uV).flatMap bK ++ bK (uV O[k]):=by
        have e : O.take (k + 1) = O.take k ++ [O[k]]:=by rw [List.take_add_one,List.getElem?_eq_getElem hlt];rfl
        rw [e,List.map_append,List.flatMap_append];simp
      obtain ⟨⟨xk,xv,xn,xi⟩,hx⟩ : ∃ x,O[k]'hlt = x:=⟨_,rfl⟩
      rw [hx] at hkey hval hnn hid htk hck;obtain ⟨ck,cv,cn0,cn1⟩:=kO hck;simp only [wL] at ck cv cn0 cn1 hkey hval hnn hid;obtain ⟨nn,rfl⟩ : ∃ nn : Nat,xn = nn:=⟨xn.toNat,by omega⟩
      have Htk:=Lib.hid htk;clear hx hr htk hck;have hrow6 : zF (wr.alloc (.cells (idC xi) 39)) wr.heap.size 0 32 = some (idC xi):=by simp [go_sem]
      have c6:=cK xi (wr.alloc (.cells (idC xi) 39)) wr.heap.size 0 1 hrow6;have hb6 : Below wr.heap.size wr (wr.alloc (.cells (idC xi) 39)):=(Below.refl _ _).alloc (Nat.le_refl _) _;clear hrow6;(go_wp2_with fail);refine c6.mono ?_;rintro e w6 ⟨s6,rfl,hs6,hb6'⟩;have hbw6 : Below wr.heap.size wr w6:=yN hb6 hb6';have hkey6:=(hbw6.cell (p:=⟨q,o + k * 35,none⟩) (World.block_lt_of_cell? wr _ hkey)).trans hkey;have hval6:=(hbw6.cell (p:=⟨q,o + k * 35 + 1,none⟩) (World.block_lt_of_cell? wr _ hval)).trans hval;have hnn6:=(hbw6.cell (p:=⟨q,o + k * 35 + 2,none⟩) (World.block_lt_of_cell? wr _ hnn)).trans hnn;have hs6s : s6.size = 33:=by
        have : s6.data.toList.length = s6.size:=Array.length_toList;rw [← this,hs6];simp [xi.h]
      have ht6:=kZ hs6;rw [hs6s] at ht6;have Ht6:=Lib.hid ht6;have hbw:=hb.trans (hbw6.mono hb.size);clear c6 hb6 hb6' hkey hval hnn hid hs6 ht6;have l1 : ¬ 9223372036854775807 < s.size + 1:=by omega
      have l2 : ¬ 9223372036854775807 < s.size + 1 + xk.size:=by omega
      have l3 : ¬ 9223372036854775807 < s.size + 1 + xk.size + 1:=by omega
      have l4 : ¬ 9223372036854775807 < s.size + 1 + xk.size + 1 + xv.size:=by omega
      have l5 : ¬ 9223372036854775807 < s.size + 1 + xk.size + 1 + xv.size + 4:=by omega
      have l6 : ¬ 9223372036854775807 < s.size + 1 + xk.size + 1 + xv.size + 4 + 32:=by omega
      go_upto_region 7 with fail
      refine zE (Bel w6) false (by kernel_rfl) (by kernel_rfl) (by kernel_rfl) (zG w6) ?_;have hne:=zX w6;have hS:=zG w6;have b1:=zT hkey6;have b2:=zT hval6;have b3:=zT hnn6;repeat (refine zB ?_ ?_;(focus (simp only [zA];done));intro K hK;go_simp;refine hK _ ?_;clear hK K)
      refine zH ?_ ?_ ?_;(focus (exact hS));(focus (simp only [zA];done));intro K hK;go_simp;refine (VD xk.size 1 _ (.inl rfl) (by omega)).mono ?_;rintro e w' ⟨sa,rfl,sas,sad,hb⟩;replace hS:=yJ hS hb;refine ⟨_,rfl,hS,hK _ _ ?_⟩;clear hK K hb;have saD:=Lib.hid sad;clear sad;repeat (refine zB ?_ ?_;(focus (simp only [zA];done));intro K hK;go_simp;refine hK _ ?_;clear hK K)
      refine zH ?_ ?_ ?_;(focus (exact hS));(focus (simp only [zA];done));intro K hK;go_simp;refine (VD xv.size 1 _ (.inl rfl) (by omega)).mono ?_;rintro e w' ⟨sb,rfl,sbs,sbd,hb⟩;replace hS:=yJ hS hb;refine ⟨_,rfl,hS,hK _ _ ?_⟩;clear hK K hb;have sbD:=Lib.hid sbd;clear sbd;repeat (refine zB ?_ ?_;(focus (simp only [zA];done));intro K hK;go_simp;refine hK _ ?_;clear hK K)
      refine zH ?_ ?_ ?_;(focus (exact hS));(focus (simp only [zA];done));intro K hK;go_simp;refine (VD nn 4 _ (.inr rfl) (by omega)).mono ?_;rintro e w' ⟨sc,rfl,scs,scd,hb⟩;replace hS:=yJ hS hb;refine ⟨_,rfl,hS,hK _ _ ?_⟩;clear hK K hb;have scD:=Lib.hid scd;clear scd;repeat (refine zB ?_ ?_;(focus (simp only [zA];done));intro K hK;go_simp;refine hK _ ?_;clear hK K)
      refine zN ?_;intro hS;have hS' : Below w6.heap.size w6 w':=hS;have hbw':=hbw.trans (hS'.mono hbw.size);clear hne hS b1 b2 b3 l1 l2 l3 l4 l5 l6;(go_wp2_with fail);go_roundw
      case rel =>
        refine ⟨k + 1,_,by omega,by go_num,rfl,?_,?_,hbw'⟩
        · simp only [ByteArray.size_append];rw [sas,sbs,scs];have : (s6.extract 1 33).size = 32:=by rw [ByteArray.size_extract];omega
          omega
        · show _ = _;rw [Htk.out];simp only [ByteArray.data_append,Array.toList_append,hs.out,Ht6.out,saD.out,sbD.out,scD.out];simp [bK,uV,wL,List.append_assoc]
      case measure=>simp [intOf];omega
    · have hk2 : k = O.length:=by omega
      have e2 : O.take k = O:=List.take_of_length_le (by omega);have hs':=hs.out;rw [e2] at hs';have Hs:=Lib.hid hs';clear hs hs' e2 hk2;(go_wp2_with fail);go_ret;exact ⟨s,rfl,(by rw [Hs.out];unfold dW;simp),yN hb2' hb⟩
end
section
open Go.RowKit
set_option maxRecDepth 100000 in
set_option maxHeartbeats 4000000 in
theorem rvput_t (w : World) (g : Nat) (t : ByteArray) (I : List zK) (x : RV) (sb : List UInt8) (h : qJ w g t I x) (ht : t.size ≤ 9223372036854775807) (hk : yU t = 1) (hn : I.length ≤ 100000) (hsb : sb.length ≤ 100000000)
    (cl : ∀ w' si sa sg sl sm so ss sd,gW w' g t I x si sa sg sl sm so ss sd → Calls Tryz.prog 85 #[.int .i64 x.tal] w' fun e w''=>∃ s : ByteArray,e = .returned (.string s) ∧ s.data.toList = sb ∧ Below w'.heap.size w' w'') :
    Calls Tryz.prog 35 #[.pointer (some ⟨g,0,none⟩)] w fun e w'=>∃ s : ByteArray,e = .returned (.string s) ∧ s.data.toList = beL 4 I.length ++ I.flatMap zK.l ++ sb ∧ Below w.heap.size w w':=by
  obtain ⟨⟨AI,nI,cI⟩,sa,sg,sl,sm,so,ss,sd,h⟩:=h;have hIn : I.length = nI:=by simpa using h.ids.1.len
  subst hIn;have c1:=fun w=>jO t w ht;rw [hk] at c1;have c0:=gZ I.length 4 w (.inr rfl) (by omega);have hc1 : w.cell? ⟨g,1,none⟩ = some (.slice AI I.length cI):=h.cell 1 rfl;go_enter Tryz.func35,Tryz.ntmps35
  (go_wp2_with fail);refine c0.mono ?_;rintro e w2 ⟨s0,rfl,hs0z,hs0,hb02⟩;have h2:=h.below hb02;have Hs0:=Lib.hid hs0;clear hs0 c0 hc1 h;(go_wp2_with fail);go_loopw [3,5,6] (fun v i _ wr=>∃ (k : Nat) (s : ByteArray),k ≤ I.length ∧ i = .int .i64 k ∧ v = .string s ∧ s.size ≤ 4 + 32 * k ∧ Hid (s.data.toList = beL 4 I.length ++ (I.take k).flatMap zK.l) ∧ Below w2.heap.size w2 wr) (fun _ i _ _=>I.length - (intOf i).toNat)
  case atStart=>exact ⟨0,s0,Nat.zero_le _,rfl,rfl,by omega,(show s0.data.toList = _ by rw [Hs0.out];simp),Below.refl _ _⟩
  case round =>
    obtain ⟨k,s,hk,rfl,rfl,hsz,hs,hb⟩:=hrel;have hr:=h2.below hb;have hc1r : wr.cell? ⟨g,1,none⟩ = some (.slice AI I.length cI):=hr.cell 1 rfl;by_cases hlt : k < I.length
    · obtain ⟨q,o,rfl,hid⟩:=y4.get hr.ids.1.rd hlt hlt;have htk : (I.take (k + 1)).flatMap zK.l = (I.take k).flatMap zK.l ++ (I[k]).l:=by
        have e : I.take (k + 1) = I.take k ++ [I[k]]:=by rw [List.take_add_one,List.getElem?_eq_getElem hlt];rfl
        rw [e,List.flatMap_append];simp
      obtain ⟨x,hx⟩ : ∃ x,I[k]'hlt = x:=⟨_,rfl⟩
      rw [hx] at hid htk;have Htk:=Lib.hid htk;clear hx htk hr;have hbx : Below wr.heap.size wr (wr.alloc (.cells (idC x) 39)):=(Below.refl _ _).alloc (Nat.le_refl _) _;have hrx : zF (wr.alloc (.cells (idC x) 39)) wr.heap.size 0 32 = some (idC x):=by simp [go_sem]
      have ci:=cK x _ wr.heap.size 0 1 hrx;have hbw:=hb.trans (hbx.mono hb.size);clear hrx;(go_wp2_with fail);refine ci.mono ?_;rintro e w6 ⟨s6,rfl,hs6,hb6⟩;have hbw6:=hbw.trans (hb6.mono hbw.size);have hs6z : s6.size = 33:=by
        have : s6.data.toList.length = s6.size:=Array.length_toList;rw [← this,hs6];simp [x.h]
      have ht6:=kZ hs6;rw [hs6z] at ht6;have Ht6:=Lib.hid ht6;have hsx : (s6.extract 1 33).size = 32:=by rw [ByteArray.size_extract];omega
      have l2 : ¬ 9223372036854775807 < s.size + (s6.extract 1 33).size:=by omega
      clear hs6 ht6 ci hbx hb6 hbw hid hc1r;(go_wp2_with fail);go_roundw
      case rel =>
        refine ⟨k + 1,_,by omega,by go_num,rfl,?_,?_,hbw6⟩
        · rw [ByteArray.size_append];omega
        · show _ = _;rw [Htk.out];simp only [ByteArray.data_append,Array.toList_append,hs.out,Ht6.out,List.append_assoc]
      case measure=>simp [intOf];omega
    · have e2 : I.take k = I:=List.take_of_length_le (by omega);have hs':=hs.out;rw [e2] at hs';have Hs:=Lib.hid hs';have hc0r : wr.cell? ⟨g,0,none⟩ = some (.string t):=hr.cell 0 rfl;clear hs hs' e2;(go_wp2_with fail);refine (c1 _).mono ?_;rintro e w7 ⟨rfl,hb7⟩;have h7:=hr.below hb7;have cl7:=cl w7 _ sa sg sl sm so ss sd h7;have hg7 : w7.cell? ⟨g,2,none⟩ = some (.int .i64 x.tal):=h7.cell 2 rfl;have hb27:=yN (yN hb02 hb) hb7;clear hb hb7 hr hc0r hc1r h7 c1 cl;(go_wp2_with fail);refine cl7.mono ?_;rintro e w8 ⟨s8,rfl,hs8,hb8⟩;have hs8z : s8.size = sb.length:=by rw [← hs8];exact Array.length_toList.symm
      have Hs8:=Lib.hid hs8;have l3 : ¬ 9223372036854775807 < s.size + s8.size:=by omega
      clear hs8 cl7;(go_wp2_with fail);go_ret;exact ⟨_,rfl,by rw [ByteArray.data_append,Array.toList_append,Hs.out,Hs8.out],yN hb27 hb8⟩
set_option maxRecDepth 100000 in
set_option maxHeartbeats 4000000 in
theorem rvput_b (w : World) (g : Nat) (t : ByteArray) (I : List zK) (x : RV) (sb : List UInt8) (h : qJ w g t I x) (ht : t.size ≤ 9223372036854775807) (hk : yU t = 2) (hn : I.length ≤ 100000) (hsb : sb.length ≤ 100000000)
    (cl : ∀ w' si sa sg sl sm so ss sd,gW w' g t I x si sa sg sl sm so ss sd → Calls Tryz.prog 86 #[.pointer (some ⟨g,3,none⟩)] w' fun e w''=>∃ s : ByteArray,e = .returned (.string s) ∧ s.data.toList = sb ∧ Below w'.heap.size w' w'') :
    Calls Tryz.prog 35 #[.pointer (some ⟨g,0,none⟩)] w fun e w'=>∃ s : ByteArray,e = .returned (.string s) ∧ s.data.toList = beL 4 I.length ++ I.flatMap zK.l ++ sb ∧ Below w.heap.size w w':=by
  obtain ⟨⟨AI,nI,cI⟩,sa,sg,sl,sm,so,ss,sd,h⟩:=h;have hIn : I.length = nI:=by simpa using h.ids.1.len
  subst hIn;have c1:=fun w=>jO t w ht;rw [hk] at c1;have c0:=gZ I.length 4 w (.inr rfl) (by omega);have hc1 : w.cell? ⟨g,1,none⟩ = some (.slice AI I.length cI):=h.cell 1 rfl;go_enter Tryz.func35,Tryz.ntmps35
  (go_wp2_with fail);refine c0.mono ?_;rintro e w2 ⟨s0,rfl,hs0z,hs0,hb02⟩;have h2:=h.below hb02;have Hs0:=Lib.hid hs0;clear hs0 c0 hc1 h;(go_wp2_with fail);go_loopw [3,5,6] (fun v i _ wr=>∃ (k : Nat) (s : ByteArray),k ≤ I.length ∧ i = .int .i64 k ∧ v = .string s ∧ s.size ≤ 4 + 32 * k ∧ Hid (s.data.toList = beL 4 I.length ++ (I.take k).flatMap zK.l) ∧ Below w2.heap.size w2 wr) (fun _ i _ _=>I.length - (intOf i).toNat)
  case atStart=>exact ⟨0,s0,Nat.zero_le _,rfl,rfl,by omega,(show s0.data.toList = _ by rw [Hs0.out];simp),Below.refl _ _⟩
  case round =>
    obtain ⟨k,s,hk,rfl,rfl,hsz,hs,hb⟩:=hrel;have hr:=h2.below hb;have hc1r : wr.cell? ⟨g,1,none⟩ = some (.slice AI I.length cI):=hr.cell 1 rfl;by_cases hlt : k < I.length
    · obtain ⟨q,o,rfl,hid⟩:=y4.get hr.ids.1.rd hlt hlt;have htk : (I.take (k + 1)).flatMap zK.l = (I.take k).flatMap zK.l ++ (I[k]).l:=by
        have e : I.take (k + 1) = I.take k ++ [I[k]]:=by rw [List.take_add_one,List.getElem?_eq_getElem hlt];rfl
        rw [e,List.flatMap_append];simp
      obtain ⟨x,hx⟩ : ∃ x,I[k]'hlt = x:=⟨_,rfl⟩
      rw [hx] at hid htk;have Htk:=Lib.hid htk;clear hx htk hr;have hbx : Below wr.heap.size wr (wr.alloc (.cells (idC x) 39)):=(Below.refl _ _).alloc (Nat.le_refl _) _;have hrx : zF (wr.alloc (.cells (idC x) 39)) wr.heap.size 0 32 = some (idC x):=by simp [go_sem]
      have ci:=cK x _ wr.heap.size 0 1 hrx;have hbw:=hb.trans (hbx.mono hb.size);clear hrx;(go_wp2_with fail);refine ci.mono ?_;rintro e w6 ⟨s6,rfl,hs6,hb6⟩;have hbw6:=hbw.trans (hb6.mono hbw.size);have hs6z : s6.size = 33:=by
        have : s6.data.toList.length = s6.size:=Array.length_toList;rw [← this,hs6];simp [x.h]
      have ht6:=kZ hs6;rw [hs6z] at ht6;have Ht6:=Lib.hid ht6;have hsx : (s6.extract 1 33).size = 32:=by rw [ByteArray.size_extract];omega
      have l2 : ¬ 9223372036854775807 < s.size + (s6.extract 1 33).size:=by omega
      clear hs6 ht6 ci hbx hb6 hbw hid hc1r;(go_wp2_with fail);go_roundw
      case rel =>
        refine ⟨k + 1,_,by omega,by go_num,rfl,?_,?_,hbw6⟩
        · rw [ByteArray.size_append];omega
        · show _ = _;rw [Htk.out];simp only [ByteArray.data_append,Array.toList_append,hs.out,Ht6.out,List.append_assoc]
      case measure=>simp [intOf];omega
    · have e2 : I.take k = I:=List.take_of_length_le (by omega);have hs':=hs.out;rw [e2] at hs';have Hs:=Lib.hid hs';have hc0r : wr.cell? ⟨g,0,none⟩ = some (.string t):=hr.cell 0 rfl;clear hs hs' e2;(go_wp2_with fail);refine (c1 _).mono ?_;rintro e w7 ⟨rfl,hb7⟩;have h7:=hr.below hb7;have cl7:=cl w7 _ sa sg sl sm so ss sd h7;skip;have hb27:=yN (yN hb02 hb) hb7;clear hb hb7 hr hc0r hc1r h7 c1 cl;(go_wp2_with fail);refine cl7.mono ?_;rintro e w8 ⟨s8,rfl,hs8,hb8⟩;have hs8z : s8.size = sb.length:=by rw [← hs8];exact Array.length_toList.symm
      have Hs8:=Lib.hid hs8;have l3 : ¬ 9223372036854775807 < s.size + s8.size:=by omega
      clear hs8 cl7;(go_wp2_with fail);go_ret;exact ⟨_,rfl,by rw [ByteArray.data_append,Array.toList_append,Hs.out,Hs8.out],yN hb27 hb8⟩
set_option maxRecDepth 100000 in
set_option maxHeartbeats 4000000 in
theorem rvput_l (w : World) (g : Nat) (t : ByteArray) (I : List zK) (x : RV) (sb : List UInt8) (h : qJ w g t I x) (ht : t.size ≤ 9223372036854775807) (hk : yU t = 3) (hn : I.length ≤ 100000) (hsb : sb.length ≤ 100000000)
    (cl : ∀ w' si sa sg sl sm so ss sd,gW w' g t I x si sa sg sl sm so ss sd → Calls Tryz.prog 87 #[.slice sl.A sl.n sl.c] w' fun e w''=>∃ s : ByteArray,e = .returned (.string s) ∧ s.data.toList = sb ∧ Below w'.heap.size w' w'') :
    Calls Tryz.prog 35 #[.pointer (some ⟨g,0,none⟩)] w fun e w'=>∃ s : ByteArray,e = .returned (.string s) ∧ s.data.toList = beL 4 I.length ++ I.flatMap zK.l ++ sb ∧ Below w.heap.size w w':=by
  obtain ⟨⟨AI,nI,cI⟩,sa,sg,sl,sm,so,ss,sd,h⟩:=h;have hIn : I.length = nI:=by simpa using h.ids.1.len
  subst hIn;have c1:=fun w=>jO t w ht;rw [hk] at c1;have c0:=gZ I.length 4 w (.inr rfl) (by omega);have hc1 : w.cell? ⟨g,1,none⟩ = some (.slice AI I.length cI):=h.cell 1 rfl;go_enter Tryz.func35,Tryz.ntmps35
  (go_wp2_with fail);refine c0.mono ?_;rintro e w2 ⟨s0,rfl,hs0z,hs0,hb02⟩;have h2:=h.below hb02;have Hs0:=Lib.hid hs0;clear hs0 c0 hc1 h;(go_wp2_with fail);go_loopw [3,5,6] (fun v i _ wr=>∃ (k : Nat) (s : ByteArray),k ≤ I.length ∧ i = .int .i64 k ∧ v = .string s ∧ s.size ≤ 4 + 32 * k ∧ Hid (s.data.toList = beL 4 I.length ++ (I.take k).flatMap zK.l) ∧ Below w2.heap.size w2 wr) (fun _ i _ _=>I.length - (intOf i).toNat)
  case atStart=>exact ⟨0,s0,Nat.zero_le _,rfl,rfl,by omega,(show s0.data.toList = _ by rw [Hs0.out];simp),Below.refl _ _⟩
  case round =>
    obtain ⟨k,s,hk,rfl,rfl,hsz,hs,hb⟩:=hrel;have hr:=h2.below hb;have hc1r : wr.cell? ⟨g,1,none⟩ = some (.slice AI I.length cI):=hr.cell 1 rfl;by_cases hlt : k < I.length
    · obtain ⟨q,o,rfl,hid⟩:=y4.get hr.ids.1.rd hlt hlt;have htk : (I.take (k + 1)).flatMap zK.l = (I.take k).flatMap zK.l ++ (I[k]).l:=by
        have e : I.take (k + 1) = I.take k ++ [I[k]]:=by rw [List.take_add_one,List.getElem?_eq_getElem hlt];rfl
        rw [e,List.flatMap_append];simp
      obtain ⟨x,hx⟩ : ∃ x,I[k]'hlt = x:=⟨_,rfl⟩
      rw [hx] at hid htk;have Htk:=Lib.hid htk;clear hx htk hr;have hbx : Below wr.heap.size wr (wr.alloc (.cells (idC x) 39)):=(Below.refl _ _).alloc (Nat.le_refl _) _;have hrx : zF (wr.alloc (.cells (idC x) 39)) wr.heap.size 0 32 = some (idC x):=by simp [go_sem]
      have ci:=cK x _ wr.heap.size 0 1 hrx;have hbw:=hb.trans (hbx.mono hb.size);clear hrx;(go_wp2_with fail);refine ci.mono ?_;rintro e w6 ⟨s6,rfl,hs6,hb6⟩;have hbw6:=hbw.trans (hb6.mono hbw.size);have hs6z : s6.size = 33:=by
        have : s6.data.toList.length = s6.size:=Array.length_toList;rw [← this,hs6];simp [x.h]
      have ht6:=kZ hs6;rw [hs6z] at ht6;have Ht6:=Lib.hid ht6;have hsx : (s6.extract 1 33).size = 32:=by rw [ByteArray.size_extract];omega
      have l2 : ¬ 9223372036854775807 < s.size + (s6.extract 1 33).size:=by omega
      clear hs6 ht6 ci hbx hb6 hbw hid hc1r;(go_wp2_with fail);go_roundw
      case rel =>
        refine ⟨k + 1,_,by omega,by go_num,rfl,?_,?_,hbw6⟩
        · rw [ByteArray.size_append];omega
        · show _ = _;rw [Htk.out];simp only [ByteArray.data_append,Array.toList_append,hs.out,Ht6.out,List.append_assoc]
      case measure=>simp [intOf];omega
    · have e2 : I.take k = I:=List.take_of_length_le (by omega);have hs':=hs.out;rw [e2] at hs';have Hs:=Lib.hid hs';have hc0r : wr.cell? ⟨g,0,none⟩ = some (.string t):=hr.cell 0 rfl;clear hs hs' e2;(go_wp2_with fail);refine (c1 _).mono ?_;rintro e w7 ⟨rfl,hb7⟩;have h7:=hr.below hb7;have cl7:=cl w7 _ sa sg sl sm so ss sd h7;have hg7 : w7.cell? ⟨g,5,none⟩ = some (.slice sl.A sl.n sl.c):=h7.cell 5 rfl;have hb27:=yN (yN hb02 hb) hb7;clear hb hb7 hr hc0r hc1r h7 c1 cl;(go_wp2_with fail);refine cl7.mono ?_;rintro e w8 ⟨s8,rfl,hs8,hb8⟩;have hs8z : s8.size = sb.length:=by rw [← hs8];exact Array.length_toList.symm
      have Hs8:=Lib.hid hs8;have l3 : ¬ 9223372036854775807 < s.size + s8.size:=by omega
      clear hs8 cl7;(go_wp2_with fail);go_ret;exact ⟨_,rfl,by rw [ByteArray.data_append,Array.toList_append,Hs.out,Hs8.out],yN hb27 hb8⟩
set_option maxRecDepth 100000 in
set_option maxHeartbeats 4000000 in
theorem rvput_m (w : World) (g : Nat) (t : ByteArray) (I : List zK) (x : RV) (sb : List UInt8) (h : qJ w g t I x) (ht : t.size ≤ 9223372036854775807) (hk : yU t = 4) (hn : I.length ≤ 100000) (hsb : sb.length ≤ 100000000)
    (cl : ∀ w' si sa sg sl sm so ss sd,gW w' g t I x si sa sg sl sm so ss sd → Calls Tryz.prog 88 #[.pointer (some ⟨g,6,none⟩)] w' fun e w''=>∃ s : ByteArray,e = .returned (.string s) ∧ s.data.toList = sb ∧ Below w'.heap.size w' w'') :
    Calls Tryz.prog 35 #[.pointer (some ⟨g,0,none⟩)] w fun e w'=>∃ s : ByteArray,e = .returned (.string s) ∧ s.data.toList = beL 4 I.length ++ I.flatMap zK.l ++ sb ∧ Below w.heap.size w w':=by
  obtain ⟨⟨AI,nI,cI⟩,sa,sg,sl,sm,so,ss,sd,h⟩:=h;have hIn : I.length = nI:=by simpa using h.ids.1.len
  subst hIn;have c1:=fun w=>jO t w ht;rw [hk] at c1;have c0:=gZ I.length 4 w (.inr rfl) (by omega);have hc1 : w.cell? ⟨g,1,none⟩ = some (.slice AI I.length cI):=h.cell 1 rfl;go_enter Tryz.func35,Tryz.ntmps35
  (go_wp2_with fail);refine c0.mono ?_;rintro e w2 ⟨s0,rfl,hs0z,hs0,hb02⟩;have h2:=h.below hb02;have Hs0:=Lib.hid hs0;clear hs0 c0 hc1 h;(go_wp2_with fail);go_loopw [3,5,6] (fun v i _ wr=>∃ (k : Nat) (s : ByteArray),k ≤ I.length ∧ i = .int .i64 k ∧ v = .string s ∧ s.size ≤ 4 + 32 * k ∧ Hid (s.data.toList = beL 4 I.length ++ (I.take k).flatMap zK.l) ∧ Below w2.heap.size w2 wr) (fun _ i _ _=>I.length - (intOf i).toNat)
  case atStart=>exact ⟨0,s0,Nat.zero_le _,rfl,rfl,by omega,(show s0.data.toList = _ by rw [Hs0.out];simp),Below.refl _ _⟩
  case round =>
    obtain ⟨k,s,hk,rfl,rfl,hsz,hs,hb⟩:=hrel;have hr:=h2.below hb;have hc1r : wr.cell? ⟨g,1,none⟩ = some (.slice AI I.length cI):=hr.cell 1 rfl;by_cases hlt : k < I.length
    · obtain ⟨q,o,rfl,hid⟩:=y4.get hr.ids.1.rd hlt hlt;have htk : (I.take (k + 1)).flatMap zK.l = (I.take k).flatMap zK.l ++ (I[k]).l:=by
        have e : I.take (k + 1) = I.take k ++ [I[k]]:=by rw [List.take_add_one,List.getElem?_eq_getElem hlt];rfl
        rw [e,List.flatMap_append];simp
      obtain ⟨x,hx⟩ : ∃ x,I[k]'hlt = x:=⟨_,rfl⟩
      rw [hx] at hid htk;have Htk:=Lib.hid htk;clear hx htk hr;have hbx : Below wr.heap.size wr (wr.alloc (.cells (idC x) 39)):=(Below.refl _ _).alloc (Nat.le_refl _) _;have hrx : zF (wr.alloc (.cells (idC x) 39)) wr.heap.size 0 32 = some (idC x):=by simp [go_sem]
      have ci:=cK x _ wr.heap.size 0 1 hrx;have hbw:=hb.trans (hbx.mono hb.size);clear hrx;(go_wp2_with fail);refine ci.mono ?_;rintro e w6 ⟨s6,rfl,hs6,hb6⟩;have hbw6:=hbw.trans (hb6.mono hbw.size);have hs6z : s6.size = 33:=by
        have : s6.data.toList.length = s6.size:=Array.length_toList;rw [← this,hs6];simp [x.h]
      have ht6:=kZ hs6;rw [hs6z] at ht6;have Ht6:=Lib.hid ht6;have hsx : (s6.extract 1 33).size = 32:=by rw [ByteArray.size_extract];omega
      have l2 : ¬ 9223372036854775807 < s.size + (s6.extract 1 33).size:=by omega
      clear hs6 ht6 ci hbx hb6 hbw hid hc1r;(go_wp2_with fail);go_roundw
      case rel =>
        refine ⟨k + 1,_,by omega,by go_num,rfl,?_,?_,hbw6⟩
        · rw [ByteArray.size_append];omega
        · show _ = _;rw [Htk.out];simp only [ByteArray.data_append,Array.toList_append,hs.out,Ht6.out,List.append_assoc]
      case measure=>simp [intOf];omega
    · have e2 : I.take k = I:=List.take_of_length_le (by omega);have hs':=hs.out;rw [e2] at hs';have Hs:=Lib.hid hs';have hc0r : wr.cell? ⟨g,0,none⟩ = some (.string t):=hr.cell 0 rfl;clear hs hs' e2;(go_wp2_with fail);refine (c1 _).mono ?_;rintro e w7 ⟨rfl,hb7⟩;have h7:=hr.below hb7;have cl7:=cl w7 _ sa sg sl sm so ss sd h7;skip;have hb27:=yN (yN hb02 hb) hb7;clear hb hb7 hr hc0r hc1r h7 c1 cl;(go_wp2_with fail);refine cl7.mono ?_;rintro e w8 ⟨s8,rfl,hs8,hb8⟩;have hs8z : s8.size = sb.length:=by rw [← hs8];exact Array.length_toList.symm
      have Hs8:=Lib.hid hs8;have l3 : ¬ 9223372036854775807 < s.size + s8.size:=by omega
      clear hs8 cl7;(go_wp2_with fail);go_ret;exact ⟨_,rfl,by rw [ByteArray.data_append,Array.toList_append,Hs.out,Hs8.out],yN hb27 hb8⟩
set_option maxRecDepth 100000 in
set_option maxHeartbeats 4000000 in
theorem rvput_s (w : World) (g : Nat) (t : ByteArray) (I : List zK) (x : RV) (sb : List UInt8) (h : qJ w g t I x) (ht : t.size ≤ 9223372036854775807) (hk : yU t = 5) (hn : I.length ≤ 100000) (hsb : sb.length ≤ 100000000)
    (cl : ∀ w' si sa sg sl sm so ss sd,gW w' g t I x si sa sg sl sm so ss sd → Calls Tryz.prog 89 #[.pointer (some ⟨g,8,none⟩)] w' fun e w''=>∃ s : ByteArray,e = .returned (.string s) ∧ s.data.toList = sb ∧ Below w'.heap.size w' w'') :
    Calls Tryz.prog 35 #[.pointer (some ⟨g,0,none⟩)] w fun e w'=>∃ s : ByteArray,e = .returned (.string s) ∧ s.data.toList = beL 4 I.length ++ I.flatMap zK.l ++ sb ∧ Below w.heap.size w w':=by
  obtain ⟨⟨AI,nI,cI⟩,sa,sg,sl,sm,so,ss,sd,h⟩:=h;have hIn : I.length = nI:=by simpa using h.ids.1.len
  subst hIn;have c1:=fun w=>jO t w ht;rw [hk] at c1;have c0:=gZ I.length 4 w (.inr rfl) (by omega);have hc1 : w.cell? ⟨g,1,none⟩ = some (.slice AI I.length cI):=h.cell 1 rfl;go_enter Tryz.func35,Tryz.ntmps35
  (go_wp2_with fail);refine c0.mono ?_;rintro e w2 ⟨s0,rfl,hs0z,hs0,hb02⟩;have h2:=h.below hb02;have Hs0:=Lib.hid hs0;clear hs0 c0 hc1 h;(go_wp2_with fail);go_loopw [3,5,6] (fun v i _ wr=>∃ (k : Nat) (s : ByteArray),k ≤ I.length ∧ i = .int .i64 k ∧ v = .string s ∧ s.size ≤ 4 + 32 * k ∧ Hid (s.data.toList = beL 4 I.length ++ (I.take k).flatMap zK.l) ∧ Below w2.heap.size w2 wr) (fun _ i _ _=>I.length - (intOf i).toNat)
  case atStart=>exact ⟨0,s0,Nat.zero_le _,rfl,rfl,by omega,(show s0.data.toList = _ by rw [Hs0.out];simp),Below.refl _ _⟩
  case round =>
    obtain ⟨k,s,hk,rfl,rfl,hsz,hs,hb⟩:=hrel;have hr:=h2.below hb;have hc1r : wr.cell? ⟨g,1,none⟩ = some (.slice AI I.length cI):=hr.cell 1 rfl;by_cases hlt : k < I.length
    · obtain ⟨q,o,rfl,hid⟩:=y4.get hr.ids.1.rd hlt hlt;have htk : (I.take (k + 1)).flatMap zK.l = (I.take k).flatMap zK.l ++ (I[k]).l:=by
        have e : I.take (k + 1) = I.take k ++ [I[k]]:=by rw [List.take_add_one,List.getElem?_eq_getElem hlt];rfl
        rw [e,List.flatMap_append];simp
      obtain ⟨x,hx⟩ : ∃ x,I[k]'hlt = x:=⟨_,rfl⟩
      rw [hx] at hid htk;have Htk:=Lib.hid htk;clear hx htk hr;have hbx : Below wr.heap.size wr (wr.alloc (.cells (idC x) 39)):=(Below.refl _ _).alloc (Nat.le_refl _) _;have hrx : zF (wr.alloc (.cells (idC x) 39)) wr.heap.size 0 32 = some (idC x):=by simp [go_sem]
      have ci:=cK x _ wr.heap.size 0 1 hrx;have hbw:=hb.trans (hbx.mono hb.size);clear hrx;(go_wp2_with fail);refine ci.mono ?_;rintro e w6 ⟨s6,rfl,hs6,hb6⟩;have hbw6:=hbw.trans (hb6.mono hbw.size);have hs6z : s6.size = 33:=by
        have : s6.data.toList.length = s6.size:=Array.length_toList;rw [← this,hs6];simp [x.h]
      have ht6:=kZ hs6;rw [hs6z] at ht6;have Ht6:=Lib.hid ht6;have hsx : (s6.extract 1 33).size = 32:=by rw [ByteArray.size_extract];omega
      have l2 : ¬ 9223372036854775807 < s.size + (s6.extract 1 33).size:=by omega
      clear hs6 ht6 ci hbx hb6 hbw hid hc1r;(go_wp2_with fail);go_roundw
      case rel =>
        refine ⟨k + 1,_,by omega,by go_num,rfl,?_,?_,hbw6⟩
        · rw [ByteArray.size_append];omega
        · show _ = _;rw [Htk.out];simp only [ByteArray.data_append,Array.toList_append,hs.out,Ht6.out,List.append_assoc]
      case measure=>simp [intOf];omega
    · have e2 : I.take k = I:=List.take_of_length_le (by omega);have hs':=hs.out;rw [e2] at hs';have Hs:=Lib.hid hs';have hc0r : wr.cell? ⟨g,0,none⟩ = some (.string t):=hr.cell 0 rfl;clear hs hs' e2;(go_wp2_with fail);refine (c1 _).mono ?_;rintro e w7 ⟨rfl,hb7⟩;have h7:=hr.below hb7;have cl7:=cl w7 _ sa sg sl sm so ss sd h7;skip;have hb27:=yN (yN hb02 hb) hb7;clear hb hb7 hr hc0r hc1r h7 c1 cl;(go_wp2_with fail);refine cl7.mono ?_;rintro e w8 ⟨s8,rfl,hs8,hb8⟩;have hs8z : s8.size = sb.length:=by rw [← hs8];exact Array.length_toList.symm
      have Hs8:=Lib.hid hs8;have l3 : ¬ 9223372036854775807 < s.size + s8.size:=by omega
      clear hs8 cl7;(go_wp2_with fail);go_ret;exact ⟨_,rfl,by rw [ByteArray.data_append,Array.toList_append,Hs.out,Hs8.out],yN hb27 hb8⟩
theorem rvput (w : World) (g : Nat) (t : ByteArray) (I : List zK) (x : RV) (h : qJ w g t I x) (ht : t.size ≤ 9223372036854775807) (hk : yU t ≠ 0) (hn : I.length ≤ 100000) (hok : hU x) (hl : x.len ≤ 10000) (hsb : (eH (yU t) x).length ≤ 100000000) :
    Calls Tryz.prog 35 #[.pointer (some ⟨g,0,none⟩)] w fun e w'=>∃ s : ByteArray,e = .returned (.string s) ∧ s.data.toList = gV I ++ eH (yU t) x ∧ Below w.heap.size w w':=by
  unfold RV.len at hl;rcases gP t with e | e | e | e | e | e
  · exact absurd e hk
  · rw [e] at hsb ⊢;exact rvput_t w g t I x (d7 x.tal) h ht e hn hsb fun w' si sa sg sl sm so ss sd h'=>(rput21 x.tal w').mono fun e w'' ⟨s,h1,_,h2,h3⟩=>⟨s,h1,h2,h3⟩
  · rw [e] at hsb ⊢;exact rvput_b w g t I x (pX (kM x.adds x.gone) (yA yI x.gone)) h ht e hn hsb fun w' si sa sg sl sm so ss sd h' =>
      rbput3 w' g x.adds x.gone ⟨sa.A,sa.n,sa.c,sg.A,sg.n,sg.c,h'.cell 3 rfl,h'.cell 4 rfl,h'.adds.1.rd,h'.gone.1.rd⟩ (by omega) (by omega) hok.adds hok.gone
  · rw [e] at hsb ⊢;exact rvput_l w g t I x (dW ((xH x.last).map uV)) h ht e hn hsb fun w' si sa sg sl sm so ss sd h' =>
      rputL w' sl.A sl.n sl.c x.last h'.last.1.rd (by have:=h'.lens;omega) hok.last
  · rw [e] at hsb ⊢;exact rvput_m w g t I x (dV (lvM x.mL x.mO) (yA zO x.mO)) h ht e hn hsb fun w' si sa sg sl sm so ss sd h' =>
      rmput w' g x.mL x.mO ⟨sm.A,sm.n,sm.c,so.A,so.n,so.c,h'.cell 6 rfl,h'.cell 7 rfl,h'.mL.1.rd,h'.mO.1.rd⟩ (by omega) (by omega) hok.mL
  · rw [e] at hsb ⊢;exact rvput_s w g t I x (gO x.sL x.sG) h ht e hn hsb fun w' si sa sg sl sm so ss sd h' =>
      rsput w' g x.sL x.sG ⟨ss.A,ss.n,ss.c,sd.A,sd.n,sd.c,h'.cell 8 rfl,h'.cell 9 rfl,h'.sL.1.rd,h'.sG.1.rd⟩ hok.sL (by omega) (by omega)
end
section
open Go.RowKit
def dY (w : World) (x : Nat) : Prop:=∀ o k cs,32 ≤ k → zF w x o k = some cs → False
theorem uL {w : World} {x : Nat} {es : Array MapEntry} {clk : Nat} (h : w.heap[x]? = some (.map es clk)) : dY w x:=fun o k cs _ hr=>by
  unfold zF at hr;rw [h] at hr;cases hr
theorem kJ {w : World} {x : Nat} {cs : Array Value} {t : TypeId} {f : Nat × Nat} (h : w.heap[x]? = some (.cells cs t f)) (hs : cs.size < 32) : dY w x:=fun o k c hk hr=>by
  unfold zF at hr;rw [h] at hr;dsimp only at hr;rw [if_neg (by omega)] at hr;cases hr
theorem SlR.kept_small {w w' : World} {A : Option Addr} {n k : Nat} {R : List (Array Value)} {S : List Nat} (h : SlR w A n k R) (hk : 32 ≤ k) (hw : zC S w w') (hs : ∀ x ∈ S,dY w x) : SlR w' A n k R:=by
  refine ⟨h.1,fun h0=>?_⟩;obtain ⟨q,o,e,hc⟩:=h.2 h0;refine ⟨q,o,e,fun i hi=>?_⟩;have hql:=zL (hc i hi);rw [hw.row hql (fun hm=>hs q hm _ _ _ hk (hc i hi)) _ _];exact hc i hi
theorem SlX.kept_small {w w' : World} {g : Nat} {s : Sl} {k : Nat} {R : List (Array Value)} {S : List Nat} (h : SlX w g s k R) (hk : 32 ≤ k) (hw : zC S w w') (hs : ∀ x ∈ S,dY w x) : SlX w' g s k R :=
  ⟨⟨h.1.rd.kept_small hk hw hs,h.1.le,h.1.nil,h.1.plain⟩,h.2⟩
theorem qJ.kept_small {w w' : World} {g : Nat} {t : ByteArray} {I : List zK} {x : RV} {S : List Nat} (h : qJ w g t I x) (hw : zC S w w') (hs : ∀ x ∈ S,dY w x) (hg : g ∉ S) : qJ w' g t I x:=by
  obtain ⟨si,sa,sg,sl,sm,so,ss,sd,h⟩:=h;exact ⟨si,sa,sg,sl,sm,so,ss,sd,(hw.block g h.lt hg).trans h.hp,h.ids.kept_small (by omega) hw hs,h.adds.kept_small (by omega) hw hs,h.gone.kept_small (by omega) hw hs,h.last.kept_small (by omega) hw hs,h.mL.kept_small (by omega) hw hs,h.mO.kept_small (by omega) hw hs,h.sL.kept_small (by omega) hw hs,h.sG.kept_small (by omega) hw hs⟩
theorem qJ.small {w : World} {g : Nat} {t : ByteArray} {I : List zK} {x : RV} (h : qJ w g t I x) : dY w g:=by
  obtain ⟨si,sa,sg,sl,sm,so,ss,sd,h⟩:=h;exact kJ h.hp (by simp [rvC])
theorem qJ.ids {w : World} {g : Nat} {t : ByteArray} {I : List zK} {x : RV} (h : qJ w g t I x) : ∃ A c,w.cell? ⟨g,1,none⟩ = some (.slice A I.length c) ∧ y4 w A I.length I:=by
  obtain ⟨⟨A,n,c⟩,sa,sg,sl,sm,so,ss,sd,h⟩:=h;have hn : I.length = n:=by simpa using h.ids.1.len
  subst hn;exact ⟨A,c,h.cell 1 rfl,h.ids.1.rd⟩
section
variable {w w' : World} {M S : List Nat}
theorem q5.kept_small {g bn bb bg : Nat} {N : List zW} {G : List zK} (h : q5 w M g bn bb bg N G) (k : zC S w w') (hS : ∀ x ∈ S,dY w x) (hg : g ∉ S) (h1 : bn ∉ S) (h2 : bb ∉ S) (h3 : bg ∉ S) : q5 w' M g bn bb bg N G:=by
  obtain ⟨es,clk,hn⟩:=h.nodes;obtain ⟨BM,es',clk',hb,hsl,hno⟩:=h.behind;refine ⟨(k.block g h.ltg hg).trans h.blk,⟨es,clk,hn.kept k h1⟩,⟨BM,es',clk',hb.kept k h2,fun p hp=>?_,hno⟩,h.gone.kept k h3,h.inM,h.ne,h.one,h.ok⟩;obtain ⟨s1,s2⟩:=hsl p hp;exact ⟨⟨s1.rd.kept_small (by omega) k hS,s1.le,s1.nil,s1.plain⟩,fun x hx=>⟨(s2 x hx).1,Nat.lt_of_lt_of_le (s2 x hx).2 k.size⟩⟩
theorem gF.kept_small {O : List Nat} {v : Value} {s : VSt} (h : gF w O M v s) (k : zC S w w') (hS : ∀ x ∈ S,dY w x) (hO : ∀ x ∈ O,x ∉ S) : gF w' O M v s:=by
  cases s with
  | t n=>obtain ⟨g,e,h1,rfl⟩:=h;exact ⟨g,e,h1.kept k (hO g (by simp)),rfl⟩
  | b L G=>obtain ⟨g,bl,bg,e,h1,rfl⟩:=h;exact ⟨g,bl,bg,e,h1.kept k (hO g (by simp)) (hO bl (by simp)) (hO bg (by simp)),rfl⟩
  | l L=>obtain ⟨g,b,e,h1,rfl⟩:=h;exact ⟨g,b,e,h1.kept k (hO g (by simp)) (hO b (by simp)),rfl⟩
  | m X Ov=>obtain ⟨g,bl,bo,e,h1,rfl⟩:=h;exact ⟨g,bl,bo,e,h1.kept k (hO g (by simp)) (hO bl (by simp)) (hO bo (by simp)),rfl⟩
  | s N G=>obtain ⟨g,bn,bb,bg,e,h1,rfl⟩:=h;exact ⟨g,bn,bb,bg,e,h1.kept_small k hS (hO g (by simp)) (hO bn (by simp)) (hO bb (by simp)) (hO bg (by simp)),rfl⟩
theorem kK {κ : Type} {kv : κ → Value} {ok : κ → Prop} {b : Nat} {X : List κ} (h : xA w b kv ok X) : dY w b:=by
  obtain ⟨M,es,clk,hm,_⟩:=h;exact uL hm.heap
theorem gF.small {O : List Nat} {v : Value} {s : VSt} (h : gF w O M v s) : ∀ x ∈ O,dY w x:=by
  cases s with
  | t n =>
    obtain ⟨g,e,h1,rfl⟩:=h;intro x hx;simp at hx;subst hx;exact kJ h1 (by simp)
  | b L G =>
    obtain ⟨g,bl,bg,e,h1,rfl⟩:=h;intro x hx;simp at hx;rcases hx with rfl | rfl | rfl
    · exact kJ h1.blk (by simp)
    · exact kK h1.live
    · exact kK h1.gone
  | l L =>
    obtain ⟨g,b,e,h1,rfl⟩:=h;obtain ⟨M',es,clk,hm,_⟩:=h1.map;intro x hx;simp at hx;rcases hx with rfl | rfl
    · exact kJ h1.blk (by simp)
    · exact uL hm.heap
  | m X Ov =>
    obtain ⟨g,bl,bo,e,h1,rfl⟩:=h;intro x hx;simp at hx;rcases hx with rfl | rfl | rfl
    · exact kJ h1.blk (by simp)
    · exact kK h1.live
    · exact kK h1.over
  | s N G =>
    obtain ⟨g,bn,bb,bg,e,h1,rfl⟩:=h;obtain ⟨es,clk,hn⟩:=h1.nodes;obtain ⟨BM,es',clk',hb,_,_⟩:=h1.behind;intro x hx;simp at hx;rcases hx with rfl | rfl | rfl | rfl
    · exact kJ h1.blk (by simp)
    · exact uL hn.heap
    · exact uL hb.heap
    · exact kK h1.gone
end
theorem VAt.small {w : World} {g : Nat} {t : ByteArray} {b : Nat} {O : List Nat} {I : List zK} {v : Value} {s : VSt} (h : VAt w g t b O I v s) : ∀ x ∈ b :: O,dY w x:=by
  intro x hx;rcases List.mem_cons.1 hx with rfl | hx
  · exact kK h.view.ids
  · exact h.st.small x hx
theorem VAt.kept_small {w w' : World} {g : Nat} {t : ByteArray} {b : Nat} {O S : List Nat} {I : List zK} {v : Value} {s : VSt} (h : VAt w g t b O I v s) (k : zC S w w') (hS : ∀ x ∈ S,dY w x) (hd : ∀ x ∈ g :: b :: O,x ∉ S) : VAt w' g t b O I v s :=
  ⟨h.view.kept k (hd g (by simp)) (hd b (by simp)),h.st.kept_small k hS (fun x hx=>hd x (by simp [hx])),h.gM,h.bO,fun x hx=>Nat.lt_of_lt_of_le (h.lt x hx) k.size,h.b0⟩
def uZ (m : yR) (I : List zK) : List zK:=if m.id ∈ I then I else m.id :: I
def lU (t : ByteArray) (m : yR) (I : List zK) (s : VSt) : VSt:=if m.id ∈ I then s else g8 t m s
def lT (t : ByteArray) (m : yR) (I : List zK) (x : RV) : RV:=if m.id ∈ I then x else bC t m x
structure aW (t : ByteArray) (i : Nat) (I : List zK) (s : VSt) : Prop where
  kind : s.kind = yU t
  len : s.len ≤ i
  big : s.big ≤ 9 * i
  ris : s.ris
  ids : I.length ≤ i
structure l0 (t : ByteArray) (i : Nat) (I : List zK) (s : VSt) (x : RV) : Prop extends aW t i I s where
  rel : pG x s
  ok : hU x
  xlen : x.len ≤ 9 * i
theorem aW.step {t : ByteArray} {i : Nat} {I : List zK} {s : VSt} (h : aW t i I s) (m : yR) : aW t (i + 1) (uZ m I) (lU t m I s):=by
  have h1:=h.len;have h2:=h.big;have h3:=h.ids;unfold uZ lU;by_cases hm : m.id ∈ I
  · rw [if_pos hm,if_pos hm];exact ⟨h.kind,by omega,by omega,h.ris,by omega⟩
  · rw [if_neg hm,if_neg hm];have h4:=QK t m s;have h5:=QL t m s;exact ⟨(Y4 t m s).trans h.kind,by omega,by omega,QJ t m s h.ris,by simp;omega⟩
theorem l0.step {t : ByteArray} {i : Nat} {I : List zK} {s : VSt} {x : RV} (h : l0 t i I s x) (m : yR) : l0 t (i + 1) (uZ m I) (lU t m I s) (lT t m I x):=by
  refine ⟨h.toaW.step m,?_,?_,?_⟩
  · unfold lU lT;by_cases hm : m.id ∈ I
    · rw [if_pos hm,if_pos hm];exact h.rel
    · rw [if_neg hm,if_neg hm];exact ZO h.rel h.kind.symm
  · unfold lT;by_cases hm : m.id ∈ I
    · rw [if_pos hm];exact h.ok
    · rw [if_neg hm];exact XQ h.ok
  · have h1:=h.xlen;unfold lT;by_cases hm : m.id ∈ I
    · rw [if_pos hm];omega
    · rw [if_neg hm];have:=ZN t m x;omega
theorem l0.new (t : ByteArray) (hk : yU t ≠ 0) : l0 t 0 [] (VSt.new (yU t)) rv0:=by
  refine ⟨⟨?_,?_,?_,?_,by simp⟩,rel_new _,rvOk0,by simp [rv0,RV.len]⟩
  all_goals
    rcases gP t with e | e | e | e | e | e
    · exact absurd e hk
    all_goals (rw [e];first | rfl | trivial | exact Nat.le_refl _ | exact Ris.nil)
theorem Z8 (m : yR) (w : World) (g : Nat) (t : ByteArray) (b : Nat) (O : List Nat) (I : List zK) (v : Value) (s : VSt) (h : VAt w g t b O I v s) (hp : xE w) (hs : m.body.size ≤ 9223372036854775807) (ht : t.size ≤ 9223372036854775807) (hk : yU t = s.kind) (hl : s.len ≤ 1000) :
    Calls Tryz.prog 26 #[.pointer (some ⟨g,0,none⟩),.agg (zP m)] w fun e w'=>e = .returned (.bool (!decide (m.id ∈ I))) ∧ VAt w' g t b O (uZ m I) v (lU t m I s) ∧ zC (b :: O) w w':=by
  by_cases hm : m.id ∈ I
  · refine (XE m w g t b I v h.view hm).mono ?_;rintro e w' ⟨rfl,hb⟩;rw [decide_eq_true hm];unfold uZ lU;rw [if_pos hm,if_pos hm];exact ⟨rfl,h.below hb,(zC.of_below hb).mono (by simp)⟩
  · refine (XD m w g t b O I v s h hm hp hs ht hk hl).mono ?_;rintro e w' ⟨rfl,h1,h2⟩;rw [decide_eq_false hm];unfold uZ lU;rw [if_neg hm,if_neg hm];exact ⟨rfl,h1,h2⟩
theorem eX (m : yR) (w : World) (g : Nat) (t : ByteArray) (I : List zK) (x : RV) (h : qJ w g t (yA zO I) x) (hI : I.length ≤ 1000) (hs : m.body.size ≤ 9223372036854775807) (ht : t.size ≤ 9223372036854775807) (hok : hU x) (hl : x.len ≤ 10000) :
    Calls Tryz.prog 30 #[.pointer (some ⟨g,0,none⟩),.agg (zP m)] w fun e w'=>e = .returned (.bool (!decide (m.id ∈ I))) ∧ qJ w' g t (yA zO (uZ m I)) (lT t m I x) ∧ zC [g] w w':=by
  have hlen:=yS (c:=zO) I;by_cases hm : m.id ∈ I
  · refine (ZG m w g t _ x h ((xL xP).2 hm) (by omega)).mono ?_;rintro e w' ⟨rfl,hb⟩;rw [decide_eq_true hm];unfold uZ lT;rw [if_pos hm,if_pos hm];exact ⟨rfl,h.below hb,(zC.of_below hb).mono (by simp)⟩
  · refine (ZH m w g t _ x h (fun hx=>hm ((xL xP).1 hx)) (xB xP _) (by omega) hs ht hok hl).mono ?_;rintro e w' ⟨rfl,h1,h2⟩;rw [decide_eq_false hm];unfold uZ lT;rw [if_neg hm,if_neg hm,← KJ];exact ⟨rfl,h1,h2⟩
theorem JE (t : ByteArray) (w : World) (ht : t.size ≤ 9223372036854775807) (hk : yU t = 0) :
    Calls Tryz.prog 23 #[.string t] w fun e w'=>e = .returned (.tuple #[.pointer none,.int .i64 (jW t)]) ∧ Below w.heap.size w w':=by
  have c1:=fun w=>sN t w ht;have hcn : jW t ≠ 0:=by unfold jW;rw [if_pos hk];decide
  obtain ⟨E,hE⟩ : ∃ E,jW t = E:=⟨_,rfl⟩
  rw [hE] at hcn c1 ⊢;have hcb : (E != 0) = true:=by simpa using hcn
  clear hcn hE hk;go_enter Tryz.func23,Tryz.ntmps23
  (go_wp2_with fail);refine (c1 _).mono ?_;rintro e w1 ⟨rfl,hb1⟩;(go_wp2_with fail);go_ret2;exact ⟨rfl,hb1⟩
theorem nB {w : World} {O M : List Nat} {v : Value} (s : VSt) (hs : gF w O M v s) : s.pairs.length ≤ s.len:=by
  cases s with
  | t n=>exact Nat.le_refl _
  | b L G=>show ((jU L).map wG).length ≤ L.length;rw [List.length_map];exact lK L
  | l L=>show (L.map nC).length ≤ L.length;rw [List.length_map];exact Nat.le_refl _
  | m X O=>exact rT X
  | s N G =>
    obtain ⟨g,bn,bb,bg,rfl,h1,rfl⟩:=hs;exact QB (N:=N) (G:=G) ⟨h1.one,fun a ha=>(kV (h1.ok a ha)).1⟩
theorem eS {w : World} {O M : List Nat} {v : Value} {s : VSt} (h : gF w O M v s) (hs : s.big ≤ 500000) : (stB s).length ≤ 100000000:=by
  cases s with
  | t n=>show (d7 n).length ≤ _;unfold d7;rw [List.length_append,yC,yC];omega
  | b L G =>
    obtain ⟨gs,bl,bg,rfl,h1,_⟩:=h;have hb1 : L.length + G.length ≤ 500000:=hs;have z1:=bB h1.smL;have z2:=bB h1.smG;show (pX L G).length ≤ _;unfold pX;rw [List.length_append];omega
  | l L =>
    obtain ⟨gs,bl,rfl,h1,_⟩:=h;have hb1 : L.length ≤ 500000:=hs;have z1:=gK L h1.rows.2;show (dW L).length ≤ _;unfold dW;rw [List.length_append,yC];omega
  | m X Ov =>
    obtain ⟨gs,bl,bo,rfl,h1,_⟩:=h;have hb1 : X.length + Ov.length ≤ 500000:=hs;have z1:=xC vI 66 X (fun x hx=>by rw [lD];have:=h1.sm x hx;unfold bX at this;omega);have z2:=tN Ov;show (dV X Ov).length ≤ _;unfold dV;rw [List.length_append,List.length_append,yC];omega
  | s N G =>
    obtain ⟨gs,bn,bb,bg,rfl,h1,_⟩:=h;have hb1 : N.length + G.length ≤ 500000:=hs;have z0:=f9 N;have z1:=xC vD 85 (vH N) (fun x hx=>by rw [lH];have:=kV (h1.ok x (fH.1 hx));omega);have z2:=tN G;show (gO N G).length ≤ _;unfold gO;rw [List.length_append,List.length_append,yC];omega
section
variable {t : ByteArray} {i : Nat} {I : List zK} {s : VSt} {x : RV}
theorem vval_t (T : aW t i I s) (ht : t.size ≤ 9223372036854775807) (hi : i ≤ 30) (w : World) (g b : Nat) (O : List Nat) (v : Value) (h : VAt w g t b O I v s) :
    Calls Tryz.prog 24 #[.pointer (some ⟨g,0,none⟩)] w fun e w'=>∃ A m c,e = .returned (.agg (zS ⟨s.kind,s.num,.slice A m c⟩)) ∧ (v4 w' A m s.pairs ∧ m ≤ 1000000) ∧ Below w.heap.size w w':=by
  have h1:=T.len;have h2:=nB s h.st;refine (vvalue w g t b I v O (b :: O) s h.view h.st ht T.kind.symm (by omega)).mono ?_;rintro e w' ⟨A,c,rfl,ho,hb⟩;exact ⟨A,_,c,rfl,⟨ho.slr,by omega⟩,hb⟩
theorem rval_t (T : l0 t i I s x) (ht : t.size ≤ 9223372036854775807) (hk : yU t ≠ 0) (hi : i ≤ 30) (w : World) (g gx b : Nat) (O : List Nat) (v : Value) (J : List zK) (h : VAt w g t b O I v s) (hx : qJ w gx t J x) :
    Calls Tryz.prog 31 #[.pointer (some ⟨gx,0,none⟩)] w fun e w'=>∃ A m c,e = .returned (.agg (zS ⟨s.kind,s.num,.slice A m c⟩)) ∧ (v4 w' A m s.pairs ∧ m ≤ 1000000) ∧ Below w.heap.size w w':=by
  have h1:=T.len;have h2:=nB s h.st;have h3:=T.xlen;have c:=rvvalue w gx t J x hx ht hk T.ok (by omega);rw [← T.kind,rel_num T.rel,XT T.rel] at c;refine c.mono ?_;rintro e w' ⟨A,m,c,rfl,ho,hb⟩;have hl : s.pairs.length = m:=by simpa using ho.len
  exact ⟨A,m,c,rfl,⟨ho.slr,by omega⟩,hb⟩
theorem same_t (w : World) (k n : Int) (A B : Option Addr) (m m' c c' : Nat) (L : List j3) (hx : v4 w A m L ∧ m ≤ 1000000) (hy : v4 w B m' L ∧ m' ≤ 1000000) :
    Calls Tryz.prog 15 #[.agg (zS ⟨k,n,.slice A m c⟩),.agg (zS ⟨k,n,.slice B m' c'⟩)] w fun e w'=>e = .returned (.bool true) ∧ Below w.heap.size w w':=by
  have cs:=rsame26 w k n k n A B m m' c c' L L hx.1 hy.1 hx.2 hy.2;rw [decide_eq_true ⟨rfl,rfl,rfl⟩] at cs;exact cs
theorem vids_t (T : aW t i I s) (hi : i ≤ 30) (w : World) (g b : Nat) (O : List Nat) (v : Value) (h : VAt w g t b O I v s) :
    Calls Tryz.prog 33 #[.pointer (some ⟨g,0,none⟩)] w fun e w'=>∃ A m c,e = .returned (.slice A m c) ∧ (y4 w' A m (yA zO I) ∧ m ≤ 1000000) ∧ Below w.heap.size w w':=by
  have h1:=T.ids;have h2:=yS (c:=zO) I;refine (XC w g t b (yA zO I) v ⟨h.view.blk,xA.congr h.view.ids (fun x=>(xL xP).symm)⟩ (xB xP _) (by omega)).mono ?_;rintro e w' ⟨A,c,rfl,ho,hb⟩;exact ⟨A,_,c,rfl,⟨ho.slr,by omega⟩,hb⟩
theorem sameI_t (w : World) (A B : Option Addr) (m m' c c' : Nat) (L : List zK) (hx : y4 w A m L ∧ m ≤ 1000000) (hy : y4 w B m' L ∧ m' ≤ 1000000) :
    Calls Tryz.prog 32 #[.slice A m c,.slice B m' c'] w fun e w'=>e = .returned (.bool true) ∧ Below w.heap.size w w':=by
  have cs:=rI w A B m m' c c' L L hx.1 hy.1 hx.2 hy.2;rw [decide_eq_true rfl] at cs;exact cs
theorem vputT (T : aW t i I s) (hi : i ≤ 30) (w : World) (g b : Nat) (O : List Nat) (v : Value) (h : VAt w g t b O I v s) :
    Calls Tryz.prog 34 #[.pointer (some ⟨g,0,none⟩)] w fun e w'=>e = .returned (.string ⟨(YQ I s).toArray⟩) ∧ Below w.heap.size w w' :=
  JD w g t b O I v s h (by have:=T.ids;omega) (by have:=T.big;omega) T.ris
theorem rputT (T : l0 t i I s x) (ht : t.size ≤ 9223372036854775807) (hk : yU t ≠ 0) (hi : i ≤ 30) {w0 : World} {O M : List Nat} {v : Value} (hs : gF w0 O M v s) (w : World) (gx : Nat) (hx : qJ w gx t (yA zO I) x) :
    Calls Tryz.prog 35 #[.pointer (some ⟨gx,0,none⟩)] w fun e w'=>e = .returned (.string ⟨(YQ I s).toArray⟩) ∧ Below w.heap.size w w':=by
  have h1:=T.ids;have h2:=T.big;have h3:=T.xlen;have h4:=yS (c:=zO) I;have h5:=eS hs (by omega);have c:=rvput w gx t (yA zO I) x hx ht hk (by omega) T.ok (by omega) (by rw [← T.kind,rL T.rel];exact h5);rw [← T.kind,rL T.rel] at c;refine c.mono ?_;rintro e w' ⟨s',rfl,h6,hb⟩;exact ⟨kT h6,hb⟩
theorem qJ.ids_t (T : aW t i I s) (hi : i ≤ 30) {w : World} {gx : Nat} (h : qJ w gx t (yA zO I) x) : ∃ A m c,w.cell? ⟨gx,1,none⟩ = some (.slice A m c) ∧ y4 w A m (yA zO I) ∧ m ≤ 1000000:=by
  obtain ⟨A,c,h1,h2⟩:=h.ids;have h3:=T.ids;have h4:=yS (c:=zO) I;exact ⟨A,_,c,h1,h2,by omega⟩
end
end
section
open Go.RowKit
theorem chk_inc (n : Nat) (hn : n < 1000) : pA ⟨1,n,⟨#[]⟩,⟨#[]⟩,id0,[]⟩ = 0:=by
  unfold pA nF fA;simp only [vR,List.length_nil];have h1 : decide ((n : Int) < 2147483648) = true:=decide_eq_true (by omega);have h2 : decide (-2147483648 ≤ (n : Int)) = true:=decide_eq_true (by omega);rw [h1,h2];rfl
def incL (n : Nat) : List UInt8:=beL 1 1 ++ beL 4 (n + 2147483648)
set_option maxRecDepth 100000 in
set_option maxHeartbeats 2000000 in
theorem i6 (n : Nat) (w : World) (hn : n < 1000) :
    Calls Tryz.prog 41 #[.agg (zJ ⟨1,n,⟨#[]⟩,⟨#[]⟩,id0,.slice none 0 0⟩)] w fun e w'=>∃ s : ByteArray,e = .returned (.tuple #[.string s,.int .i64 0]) ∧ s.data.toList = incL n ∧ Below w.heap.size w w':=by
  have hB : Below w.heap.size w (w.alloc (.cells (zJ ⟨1,n,⟨#[]⟩,⟨#[]⟩,id0,.slice none 0 0⟩) 52)):=(Below.refl _ _).alloc (Nat.le_refl _) _;have hr : zF (w.alloc (.cells (zJ ⟨1,n,⟨#[]⟩,⟨#[]⟩,id0,.slice none 0 0⟩) 52)) w.heap.size 0 37 = some (zJ ⟨1,n,⟨#[]⟩,⟨#[]⟩,id0,.slice none 0 0⟩):=by simp [go_sem]
  have cck:=rJ ⟨1,n,⟨#[]⟩,⟨#[]⟩,id0,[]⟩ none 0 (w.alloc (.cells (zJ ⟨1,n,⟨#[]⟩,⟨#[]⟩,id0,.slice none 0 0⟩) 52)) (.inl ⟨rfl,rfl,rfl,rfl,rfl⟩) SlR.nil_ (by simp) (by rw [vR];omega) (by rw [vR];omega);rw [chk_inc n hn] at cck;change Calls Tryz.prog _ #[.agg (zJ ⟨1,n,⟨#[]⟩,⟨#[]⟩,id0,.slice none 0 0⟩)] _ _ at cck;go_enter Tryz.func41,Tryz.ntmps41
  go_upto_region 1 with fail
  obtain ⟨ga,hga⟩ : ∃ ga,w.heap.size = ga:=⟨_,rfl⟩
  have Hga:=Lib.hid hga;rw [hga] at hr hB ⊢;obtain ⟨W,hW⟩ : ∃ W,W = w.alloc (.cells (zJ ⟨1,n,⟨#[]⟩,⟨#[]⟩,id0,.slice none 0 0⟩) 52):=⟨_,rfl⟩
  rw [← hW] at hr hB cck ⊢;clear hW hga;(go_wp2_with fail);refine cck.mono ?_;rintro e w1 ⟨rfl,hb1⟩;have hr1 : zF w1 ga 0 37 = some (zJ ⟨1,n,⟨#[]⟩,⟨#[]⟩,id0,.slice none 0 0⟩):=(zI (hb1.block ga (zL hr)) _ _).trans hr;have hB1 : Below ga w w1:=hB.trans (hb1.mono (by have:=hB.size;have:=Hga.out;omega));have x0:=zD hr1 (j:=0) (by omega);rw [q6,Nat.zero_add] at x0;clear hr hB cck hb1;(go_wp2_with fail);refine (gZ 1 1 _ (.inl rfl) (by omega)).mono ?_;rintro e w2 ⟨s1,rfl,hs1,hl1,hb2⟩;have hr2 : zF w2 ga 0 37 = some (zJ ⟨1,n,⟨#[]⟩,⟨#[]⟩,id0,.slice none 0 0⟩):=(zI (hb2.block ga (zL hr1)) _ _).trans hr1;have hB2 : Below ga w w2:=hB1.trans (hb2.mono (by have:=zL hr1;omega));clear hr1 hB1 hb2 x0;have x0:=zD hr2 (j:=0) (by omega);have x1:=zD hr2 (j:=1) (by omega);rw [q6,Nat.zero_add] at x0;rw [qO,Nat.zero_add] at x1;have Hl1:=Lib.hid hl1;have Hs1:=Lib.hid hs1;clear hl1;have ch:=bG 1 w2 (by omega);rw [show xM 1 = ⟨#[78]⟩ from rfl] at ch;(go_wp2_with fail);refine ch.mono ?_;rintro e w3 ⟨rfl,rfl⟩;have hb0 : (((⟨#[78]⟩ : ByteArray)[0]'(by decide)).toNat : Int) = 78:=rfl;have cn:=gZ (n + 2147483648) 4 w2 (.inr rfl) (by omega);rw [show ((n + 2147483648 : Nat) : Int) = (n : Int) + 2147483648 from by omega] at cn;have hw1 : ((n : Int) + 2147483648 + 9223372036854775808) % 18446744073709551616 - 9223372036854775808 = (n : Int) + 2147483648:=by omega
  have hle : (((⟨#[78]⟩ : ByteArray).size : Nat) : Int) = 1:=rfl;(go_wp2_with fail);refine wp_loop_rounds 2 ?_;rw [rounds_succ];(go_wp2_with fail);refine cn.mono ?_;rintro e w4 ⟨s2,rfl,hs2,hl2,hb4⟩;have hB4 : Below ga w w4:=hB2.trans (hb4.mono (by have:=zL hr2;omega));have hsz : (s1 ++ s2).size ≤ 9223372036854775807:=by rw [ByteArray.size_append];omega
  have hss : ¬ 9223372036854775807 < s1.size + s2.size:=by omega
  have Hl2:=Lib.hid hl2;clear hb4 hr2 x0 x1 hl2 cn;(go_wp2_with fail);rw [rounds_succ];(go_wp2_with fail);go_ret2;refine ⟨s1 ++ s2,rfl,?_,by rw [Hga.out];exact hB4⟩;rw [ByteArray.data_append,Array.toList_append,Hl1.out,Hl2.out];rfl
theorem inc2_e : opE (incL 2) = 0:=by decide +kernel
theorem inc2_k : (opO (incL 2)).k = 1:=by decide +kernel
theorem inc2_n : (opO (incL 2)).n = 2:=by decide +kernel
end
section
open Go.RowKit
def r5 : zK:=⟨1 :: List.replicate 31 0,by simp⟩
@[go_sem ↓] theorem buildId1v_run (w : World) : (Instr.build 39 #[(0,.int .u8 1)]).run Tryz.prog w = .ok (.agg (idC r5)) w:=by kernel_rfl
@[go_sem] theorem id1v_set : (idC id0).setIfInBounds 0 (.int .u8 1) = idC r5:=by simp [idC,id0,r5,v9,List.replicate]
def caS : ByteArray:=⟨#[99,97]⟩
theorem eG : yU caS = 1:=by decide +kernel
set_option maxRecDepth 100000 in
set_option maxHeartbeats 1000000 in
theorem eI (w : World) (hp : xE w) : Calls Tryz.prog 22 #[] w fun e w'=>e = .returned (.bool true) ∧ Below w.heap.size w w':=by
  have hca : (⟨#[99,97]⟩ : ByteArray) = caS:=rfl;have c1:=XB caS w (by decide) 1 eG (by omega) 100 (fun a b gs=>gs = a.heap.size ∧ xR b gs 0) (fun w=>(eO w).mono fun e w' ⟨h1,h2,h3⟩=>⟨w.heap.size,h1,⟨rfl,h2⟩,h3⟩);go_enter Tryz.func22,Tryz.ntmps22
  (go_wp2_with fail);refine c1.mono ?_;rintro e w1 ⟨g,b,gt,w2,w3,rfl,hv,⟨hgt,hT⟩,hb23,hb31,hg,hbl,hb2,hB⟩;have hT1 : xR w1 gt 0:=hT.kept (zC.of_below hb31) (by simp);have hgtb : gt ≠ b:=by omega
  have hgtg : gt ≠ g:=by have:=hT.lt;omega
  have hgl : w.heap.size ≤ gt:=by have:=hb23.size;have:=hB.size;omega
  have hp1:=hp.below hB;have hbn : b ≠ 0:=by have:=hp.lt;omega
  clear hT hgt hb23 hb31 hg hb2 c1 hca;have cp:=i6 2 w1 (by omega);change Calls Tryz.prog _ #[.agg (zJ ⟨1,2,⟨#[]⟩,⟨#[]⟩,id0,.slice none 0 0⟩)] _ _ at cp;(go_wp2_with fail);refine cp.mono ?_;rintro e w4 ⟨s,rfl,hs,hb4⟩;have hv4:=hv.below hb4;have hT4 : xR w4 gt 0:=hT1.kept (zC.of_below hb4) (by simp);have hp4:=hp1.below hb4;have hB4:=yN hB hb4;clear hv hT1 hp1 hb4 cp hB;have hfit : gD caS ⟨r5,1,s⟩:=by
    unfold gD;simp only [hs];exact ⟨inc2_e,by rw [inc2_k,eG];rfl⟩
  have hsz : s.size ≤ 9223372036854775807:=by
    have : s.data.toList.length = 5:=by rw [hs];rfl
    have e : s.size = s.data.toList.length:=Array.length_toList.symm;omega
  have cf:=rD ⟨r5,1,s⟩ w4 g caS b [] _ hv4 (by simp) hp4 hbn hsz (by decide)
    (fun w'=>x7 w' g caS b [r5] (.iface 100 (.pointer (some ⟨gt,0,none⟩))) ∧ xR w' gt 2 ∧ Below w.heap.size w w')
    (fun hn=>absurd hfit hn)
    (fun _ w5 A c hv5 hk5 hp5 _=>by
      have hT5 : xR w5 gt 0:=hT4.kept hk5 (by simpa using hgtb);have hn : (opO s.data.toList).n = 2:=by rw [hs];exact inc2_n
      refine (YG ⟨r5,1,s⟩ _ A c w5 g gt caS b _ 0 hv5 hT5 (by rw [hn];omega) (by rw [hn];omega)).mono ?_;rintro e w6 ⟨rfl,h6,hk6⟩;rw [hn,show wrap64 (0 + 2) = 2 from by decide +kernel] at h6;refine ⟨rfl,hv5.kept hk6 (by simpa using fun e=>hgtg e.symm) (by simpa using fun e=>hgtb e.symm),h6,?_⟩;have hB5:=hB4.trans (hk5.below (B:=w.heap.size) hB4.size (by simpa using hbl));exact hB5.trans (hk6.below (B:=w.heap.size) hB5.size (by simpa using hgl)))
  have Hcf:=cf;clear hfit hs hsz cf hp4 hT4;(go_wp2_with fail);refine Hcf.mono ?_;rintro e w5 ⟨rfl,hv5,hT5,hB5⟩;clear Hcf hv4 hB4;have cv:=eN w5 g gt caS b _ 2 hv5 hT5 (by decide) eG;(go_wp2_with fail);refine cv.mono ?_;rintro e w6 ⟨rfl,hb6⟩;have hv6:=hv5.below hb6;have hB6:=yN hB5 hb6;clear cv hv5 hT5 hB5 hb6;have ch:=vhas r5 w6 g caS b _ _ hv6;rw [show decide (r5 ∈ [r5]) = true from by simp] at ch;(go_wp2_with fail);refine ch.mono ?_;rintro e w7 ⟨rfl,hb7⟩;have hB7:=yN hB6 hb7;clear ch hv6 hB6 hb7;(go_wp2_with fail);go_ret;exact ⟨rfl,hB7⟩
end
namespace LC
open Go.RowKit Go.Proofs.YtgfpjjppeldhbaaGreatDoor
def zA (cv : Op → Bool) (o : Oper) : Bool :=
  match o.op with
  | .call c=>(match c.callee with | .builtin .len=>false | .builtin .cap=>false | _=>true)
  | .alloc _ | .box _ _ | .buildSlice _ _ _ | .store _ _ _ | .insert _ _ _ _ | .mapUpdate _ _ _ _ | .mapEntry _ _ _ | .entryStore _ _ _ _ | .makeMap _ _ | .makeChan _ _ | .makeSlice _ _ _ | .range _ _ | .next _ _=>true
  | op=>cv op
def j7 (cv : Op → Bool) (ops : Array Oper) (i : Nat) : Bool:=((ops[i]?).map (zA cv)).getD false
def sU (md : Region.Mode) (ops : Array Oper) (j p : Nat) : Bool :=
  match ops[j]? with
  | some oj=>oj.after.any fun e=>Region.binds md e && e.on == p
  | none=>false
def chainB (md : Region.Mode) (cv : Op → Bool) (ops : Array Oper) : Bool :=
  (List.range ops.size).all fun j=>!j7 cv ops j || (match (List.range j).reverse.find? (j7 cv ops) with | some p=>sU md ops j p | none=>true)
section
variable {P : Program} {ops : Array Oper} {md : Region.Mode} {S : World → Prop} {cv : Op → Bool} {fb : Bool}
def qU (w : World) (v : Value) : Result Next → Prop
  | .ok (.value u) w'=>w' = w ∧ u = v
  | .ok .skip w'=>w' = w ∧ v = undef
  | _=>False
def xI (P : Program) (S : World → Prop) (K : Value → World → Prop) : Result Next → Prop
  | .ok (.value u) w'=>S w' ∧ K u w'
  | .ok .skip w'=>S w' ∧ K undef w'
  | .ok (.enter f args) w'=>Calls P f args w' (fun e w''=>∃ v,e = .returned v ∧ S w'' ∧ K v w'')
  | _=>False
theorem jN {K K' : Value → World → Prop} {r : Result Next} (hk : ∀ v w,S w → K v w → K' v w) (h : xI P S K r) : xI P S K' r:=by
  cases r with
  | ok n w' =>
    cases n <;> simp only [xI] at h ⊢
    case value u=>exact ⟨h.1,hk _ _ h.1 h.2⟩
    case skip=>exact ⟨h.1,hk _ _ h.1 h.2⟩
    case enter f args=>exact h.mono fun e w'' ⟨v,he,hs,h2⟩=>⟨v,he,hs,hk _ _ hs h2⟩
  | halt x w'=>exact h.elim
theorem jI {S' : World → Prop} {K K' : Value → World → Prop} {r : Result Next} (hs : ∀ w,S w → S' w) (hk : ∀ v w,S w → K v w → K' v w) (h : xI P S K r) : xI P S' K' r:=by
  cases r with
  | ok n w' =>
    cases n <;> simp only [xI] at h ⊢
    case value u=>exact ⟨hs _ h.1,hk _ _ h.1 h.2⟩
    case skip=>exact ⟨hs _ h.1,hk _ _ h.1 h.2⟩
    case enter f args=>exact h.mono fun e w'' ⟨v,he,hs',h2⟩=>⟨v,he,hs _ hs',hk _ _ hs' h2⟩
  | halt x w'=>exact h.elim
def cls (ops : Array Oper) (S : World → Prop) (fb : Bool) (i : Nat) : World → Prop:=fun w=>S w ∨ (fb = true ∧ i + 1 = ops.size)
def eE (md : Region.Mode) (ops : Array Oper) : Bool:=decide (0 < ops.size) && Region.sinkB md ops (ops.size - 1)
def lxOp (P : Program) (ops : Array Oper) (S : World → Prop) (cv : Op → Bool) (fb : Bool) (i : Nat) (K : Act → World → Prop) (a : Act) (w : World) : Prop :=
  match ops[i]? with
  | none=>K a w
  | some o =>
    if Region.wanted o (yielded ops a.tmps) then
      (if zA cv o then xI P (cls ops S fb i) (fun v w'=>K (a.put o.dst v) w') ((execOp a.eval o).run P w)
       else ∃ v,(∀ w',S w' → qU w' v ((execOp a.eval o).run P w')) ∧ K (a.put o.dst v) w)
    else K (a.put o.dst undef) w
theorem lJ {i : Nat} {a : Act} {w : World} {K K' : Act → World → Prop} (hS : S w) (h : ∀ a w,cls ops S fb i w → K a w → K' a w) (hh : lxOp P ops S cv fb i K a w) : lxOp P ops S cv fb i K' a w:=by
  have hSi : cls ops S fb i w:=.inl hS;unfold lxOp at *;split
  · exact h _ _ hSi (by simpa [*] using hh)
  · rename_i o ho
    simp only [ho] at hh;split
    · rename_i hw
      rw [if_pos hw] at hh;split
      · rename_i hc;rw [if_pos hc] at hh;exact jN (fun v w hs hk=>h _ _ hs hk) hh
      · rename_i hc;rw [if_neg hc] at hh;obtain ⟨v,h1,h2⟩:=hh;exact ⟨v,h1,h _ _ hSi h2⟩
    · rename_i hw;rw [if_neg hw] at hh;exact h _ _ hSi hh
def vZ (P : Program) (md : Region.Mode) (ops : Array Oper) (S : World → Prop) (cv : Op → Bool) (fb : Bool) (Q : Act → World → Prop) : Nat → Array Bool → Act → World → Prop
  | 0,listed,a,w=>Region.ready md ops listed = [] ∧ Q a w
  | fuel + 1,listed,a,w =>
    (Region.ready md ops listed = [] → Q a w) ∧
    ∀ i ∈ Region.ready md ops listed,lxOp P ops S cv fb i (vZ P md ops S cv fb Q fuel (listed.setIfInBounds i true)) a w
theorem dE {Q' : Exit → Act → World → Prop} {i : Nat} {a : Act} {w : World} {K K' : Act → World → Prop} (hS : S w) (h : ∀ a w,cls ops S fb i w → K a w → K' a w) (hh : lxOp P ops S cv fb i K a w) : wpOp P ops Q' i K' a w:=by
  have hSi : cls ops S fb i w:=.inl hS;unfold lxOp at hh;unfold wpOp;split
  · rename_i ho;simp only [ho] at hh;exact h _ _ hSi hh
  · rename_i o ho
    simp only [ho] at hh;split
    · rename_i hw
      rw [if_pos hw] at hh;refine .inl ?_;unfold Oper.wp;split at hh
      · generalize (execOp a.eval o).run P w = r at *;cases r with
        | ok n w' =>
          cases n <;> simp only [xI] at hh <;> simp only [Oper.upon]
          case value u=>exact h _ _ hh.1 hh.2
          case skip=>exact h _ _ hh.1 hh.2
          case enter f args=>exact hh.mono fun e w'' ⟨v,he,hs,hk⟩=>by subst he;exact h _ _ hs hk
        | halt x w'=>exact hh.elim
      · obtain ⟨v,h1,h2⟩:=hh;have h3:=h1 w hS;generalize (execOp a.eval o).run P w = r at *;cases r with
        | ok n w' =>
          cases n <;> simp only [qU] at h3 <;> simp only [Oper.upon]
          case value u=>obtain ⟨e1,e2⟩:=h3;rw [e1,e2];exact h _ _ hSi h2
          case skip=>obtain ⟨e1,e2⟩:=h3;rw [e1,← e2];exact h _ _ hSi h2
        | halt x w'=>exact h3.elim
    · rename_i hw;rw [if_neg hw] at hh;exact h _ _ hSi hh
structure qP (md : Region.Mode) (ops : Array Oper) (fb : Bool) (listed : Array Bool) : Prop where
  inv : fb = true → eE md ops = true ∧ (HeadInv md ops (ops.size - 1) listed ∨ Region.ready md ops listed = [])
theorem qP.end_ {listed : Array Bool} (h : qP md ops fb listed) (hfb : fb = true) {i : Nat} (hi : i ∈ Region.ready md ops listed) (he : i + 1 = ops.size) : ∀ j ∈ Region.ready md ops listed,j = i:=by
  obtain ⟨hB,h1⟩:=h.inv hfb;rcases h1 with h1 | h1
  · intro j hj;simp only [eE,Bool.and_eq_true,decide_eq_true_eq] at hB;obtain ⟨hjun,oj,hoj,_⟩:=mem_ready.1 hj;have hjs : j < ops.size:=(Array.getElem?_eq_some_iff.1 hoj).1;rcases Nat.lt_or_ge j i with hlt | hge
    · exfalso
      have hch : Region.chainB md ops (ops.size - 1) = true:=by
        unfold Region.chainB;rw [List.all_eq_true];intro t ht;have:=List.mem_range.1 ht
        simp;left;omega
      exact tail_waits hB.2 hch (by omega) h1 (ops.size - 1 - j) j rfl (by omega) hjun i (by omega) hi
    · omega
  · rw [h1] at hi;cases hi
theorem qP.set {listed : Array Bool} (h : qP md ops fb listed) {i : Nat} (hi : i ∈ Region.ready md ops listed) : qP md ops fb (listed.setIfInBounds i true):=by
  refine ⟨fun hfb=>?_⟩;obtain ⟨hB,h1⟩:=h.inv hfb;refine ⟨hB,?_⟩;rcases h1 with h1 | h1
  · by_cases he : i + 1 = ops.size
    · right
      have hall:=h.end_ hfb hi he;apply List.eq_nil_iff_forall_not_mem.2;intro j hj;obtain ⟨hjun,oj,hoj,hallj⟩:=mem_ready.1 hj;have hjs : j < ops.size:=(Array.getElem?_eq_some_iff.1 hoj).1;have hji : j ≠ i:=by
        rintro rfl;have hsz : j < listed.size:=by rw [h1.size];exact hjs
        simp [hsz] at hjun
      simp only [eE,Bool.and_eq_true,decide_eq_true_eq] at hB;have hch : Region.chainB md ops (ops.size - 1) = true:=by
        unfold Region.chainB;rw [List.all_eq_true];intro t ht;have:=List.mem_range.1 ht
        simp;left;omega
      rw [getD_set_ne true (Ne.symm hji)] at hjun;exact tail_waits hB.2 hch (by omega) h1 (ops.size - 1 - j) j rfl (by omega) hjun i (by omega) hi
    · left
      obtain ⟨_,oi,hoi,_⟩:=mem_ready.1 hi;have his : i < ops.size:=(Array.getElem?_eq_some_iff.1 hoi).1;exact h1.set hi (by omega)
  · rw [h1] at hi;cases hi
theorem qP.cls {listed : Array Bool} {w : World} (h : qP md ops fb listed) {i j : Nat} (hi : i ∈ Region.ready md ops listed) (hj : j ∈ Region.ready md ops listed) (hji : j ≠ i) (hc : cls ops S fb j w) : S w:=by
  rcases hc with hc | ⟨hfb,he⟩
  · exact hc
  · exact absurd (h.end_ hfb hj he i hi).symm hji
theorem vM {Q : Act → World → Prop} {Q' : Exit → Act → World → Prop} (hQ : ∀ a w,(S w ∨ fb = true) → Q a w → Q' .normal a w) : ∀ (fuel : Nat) (listed : Array Bool) (a : Act) (w : World),qP md ops fb listed → (S w ∨ (fb = true ∧ Region.ready md ops listed = [])) →
    vZ P md ops S cv fb Q fuel listed a w → wpAny P md ops Q' fuel listed a w
  | 0,_,_,_,_,hS,h=>⟨h.1,hQ _ _ (hS.imp id (·.1)) h.2⟩
  | fuel + 1,listed,_,_,hI,hS,h=>⟨fun h0=>hQ _ _ (hS.imp id (·.1)) (h.1 h0),fun i hi=>by
      rcases hS with hS | ⟨_,h0⟩
      · refine dE hS (fun a' w' hS'=>vM hQ fuel _ a' w' (hI.set hi) ?_) (h.2 i hi);rcases hS' with hS' | ⟨hfb,he⟩
        · exact .inl hS'
        · right
          refine ⟨hfb,?_⟩;rcases ((hI.set hi).inv hfb).2 with h1 | h1
          · exfalso
            have:=h1.tail i (by omega) (by omega);have hsz : i < (listed.setIfInBounds i true).size:=by rw [h1.size];omega
            have hsz' : i < listed.size:=by simpa using hsz
            simp [hsz'] at this
          · exact h1
      · rw [h0] at hi;cases hi⟩
def q7 (P : Program) (ops : Array Oper) (S : World → Prop) (cv : Op → Bool) (o : Oper) (v : Value) (a : Act) : Prop :=
  (Region.wanted o (yielded ops a.tmps) = true ∧ zA cv o = false ∧ ∀ w,S w → qU w v ((execOp a.eval o).run P w)) ∨
  (Region.wanted o (yielded ops a.tmps) = false ∧ v = undef)
theorem q7.lxOp {i : Nat} {o : Oper} {v : Value} {a : Act} {w : World} (hi : ops[i]? = some o) (hy : q7 P ops S cv o v a) {K : Act → World → Prop} (h : K (a.put o.dst v) w) : lxOp P ops S cv fb i K a w:=by
  unfold Proofs.YtgfpjjppeldhbaaGreatDoor.LC.lxOp;simp only [hi];rcases hy with ⟨hw,hc,hv⟩ | ⟨hw,rfl⟩
  · rw [if_pos hw,hc];exact ⟨v,hv,h⟩
  · rw [if_neg (by rw [hw];simp)];exact h
theorem q7.of_same {o : Oper} {v : Value} {a a' : Act} (hy : q7 P ops S cv o v a) (he : execOp a'.eval o = execOp a.eval o)
    (hw : Region.wanted o (yielded ops a'.tmps) = Region.wanted o (yielded ops a.tmps)) : q7 P ops S cv o v a':=by
  unfold q7 at *;rw [he,hw];exact hy
theorem nG {j : Nat} {oi oj : Oper} {v : Value} (hj : ops[j]? = some oj) (hap : oi.apart ops oj = true)
    (hsi : ∀ cs b,oi.op ≠ .select cs b) (hsj : ∀ cs b,oj.op ≠ .select cs b) {K : Act → World → Prop} {a : Act} {w : World}
    (hy : q7 P ops S cv oi v a) (h : lxOp P ops S cv fb j K (a.put oi.dst v) w) :
    lxOp P ops S cv fb j (fun a' w'=>q7 P ops S cv oi v a' ∧ K (a'.put oi.dst v) w') a w:=by
  obtain ⟨h1,h2,h3⟩:=Oper.apart_spec hap;have keep : ∀ (a : Act),q7 P ops S cv oi v a → ∀ u,q7 P ops S cv oi v (a.put oj.dst u):=fun a hy u =>
    hy.of_same (execOp_put oi hsi a oj.dst u h3) (wanted_put oi a oj.dst u h3)
  unfold lxOp at *;simp only [hj] at *;rw [wanted_put oj a oi.dst v h1,execOp_put oj hsj a oi.dst v h1] at h;split
  · rename_i hw
    rw [if_pos hw] at h;split
    · rename_i hc
      rw [if_pos hc] at h;exact jN (fun u w' _ hk=>⟨keep a hy u,by rw [← Act.put_comm a v u h2];exact hk⟩) h
    · rename_i hc
      rw [if_neg hc] at h;obtain ⟨u,hu,hk⟩:=h;exact ⟨u,hu,keep a hy u,by rw [← Act.put_comm a v u h2];exact hk⟩
  · rename_i hw
    rw [if_neg hw] at h;exact ⟨keep a hy _,by rw [← Act.put_comm a v undef h2];exact h⟩
theorem jX {Q : Act → World → Prop} {i : Nat} {oi : Oper} {v : Value} (hi : ops[i]? = some oi) (hsel : ∀ (j : Nat) (o : Oper) cs b,ops[j]? = some o → o.op ≠ .select cs b) :
    ∀ (fuel : Nat) (listed : Array Bool) (a : Act) (w : World),qP md ops fb listed → S w →
      (∀ j oj,ops[j]? = some oj → j ≠ i → listed.getD j true = false → (∀ e ∈ oj.after,Region.binds md e = true → e.on ≠ i) → oi.apart ops oj = true) →
      i ∈ Region.ready md ops listed → q7 P ops S cv oi v a →
      vZ P md ops S cv fb Q fuel (listed.setIfInBounds i true) (a.put oi.dst v) w → vZ P md ops S cv fb Q (fuel + 1) listed a w:=by
  intro fuel;induction fuel with
  | zero =>
    intro listed a w _ _ _ hr hy H;refine ⟨fun h=>(by rw [h] at hr;cases hr),fun j hj=>?_⟩;by_cases hji : j = i
    · subst hji;exact hy.lxOp hi H
    · have:=ready_mono hj hji;rw [H.1] at this;cases this
  | succ fuel ih =>
    intro listed a w hI hS hfree hr hy H;refine ⟨fun h=>(by rw [h] at hr;cases hr),fun j hj=>?_⟩;by_cases hji : j = i
    · subst hji;exact hy.lxOp hi H
    · have h1:=H.2 j (ready_mono hj hji);obtain ⟨hjun,oj,hoj,hall⟩:=mem_ready.1 hj;have hnot : ∀ e ∈ oj.after,Region.binds md e = true → e.on ≠ i:=fun e he hb heq=>by
        have h1:=hall e he hb;have h0:=(mem_ready.1 hr).1;rw [heq] at h1;rcases Nat.lt_or_ge i listed.size with h' | h'
        · simp [h'] at h0 h1;rw [h0] at h1;cases h1
        · simp [Array.getElem?_eq_none h'] at h1
      have h2:=nG hoj (hfree j oj hoj hji hjun hnot) (fun cs b=>hsel i oi cs b hi) (fun cs b=>hsel j oj cs b hoj) hy h1;have hfree' : ∀ k ok,ops[k]? = some ok → k ≠ i → (listed.setIfInBounds j true).getD k true = false →
          (∀ e ∈ ok.after,Region.binds md e = true → e.on ≠ i) → oi.apart ops ok = true:=fun k ok hk hki hun hno=>by
        refine hfree k ok hk hki ?_ hno;by_cases hjk : j = k
        · subst hjk;exact hjun
        · rw [getD_set_ne true hjk] at hun;exact hun
      refine lJ hS (fun a' w' hS' h3=>ih (listed.setIfInBounds j true) a' w' (hI.set hj) (hI.cls hr hj hji hS') hfree' (ready_mono hr (Ne.symm hji)) h3.1 ?_) h2;rw [Array.setIfInBounds_comm _ _ hji];exact h3.2
end
section
variable (P : Program) (S : World → Prop) (w w' : World) (v u : Value) (K : Value → World → Prop) (f : FuncId) (args : Array Value)
@[go_sem] theorem nH : LC.qU w v (.ok (.value u) w') = (w' = w ∧ u = v):=rfl
@[go_sem] theorem r3 : LC.qU w v (.ok .skip w') = (w' = w ∧ v = undef):=rfl
@[go_sem] theorem pB : LC.xI P S K (.ok (.value u) w') = (S w' ∧ K u w'):=rfl
@[go_sem] theorem r9 : LC.xI P S K (.ok .skip w') = (S w' ∧ K undef w'):=rfl
@[go_sem] theorem pC : LC.xI P S K (.ok (.enter f args) w') = Calls P f args w' (fun e w''=>∃ v,e = .returned v ∧ S w'' ∧ K v w''):=rfl
end
def uW {α : Type} : List α → Nat → Option α
  | [],_=>none
  | x :: _,0=>some x
  | _ :: l,i + 1=>uW l i
theorem tK {α : Type} : ∀ (l : List α) (i : Nat),uW l i = l[i]?
  | [],_=>rfl
  | _ :: _,0=>rfl
  | _ :: l,i + 1=>by simpa [uW] using tK l i
theorem bM {ops : Array Oper} {i : Nat} {o : Oper} (h : uW ops.toList i = some o) : ops[i]? = some o:=by
  rw [tK] at h;simpa using h
inductive yV where
  | done : yV
  | loose (i : Nat) (n : yV) : yV
  | one (i : Nat) (n : yV) : yV
  | two (i : Nat) (n : yV) (j : Nat) (m : yV) : yV
  | three (i : Nat) (n : yV) (j : Nat) (m : yV) (k : Nat) (l : yV) : yV
def yV.depth : yV → Nat
  | .done=>0
  | .loose _ n=>n.depth + 1
  | .one _ n=>n.depth + 1
  | .two _ n _ m=>max n.depth m.depth + 1
  | .three _ n _ m _ l=>max (max n.depth m.depth) l.depth + 1
def yV.ok (md : Region.Mode) (ops : Array Oper) : yV → Array Bool → Bool
  | .done,listed=>(Region.ready md ops listed).isEmpty
  | .loose i n,listed=>(Region.ready md ops listed).contains i && Region.free md ops listed i && n.ok md ops (listed.setIfInBounds i true)
  | .one i n,listed=>(Region.ready md ops listed == [i]) && n.ok md ops (listed.setIfInBounds i true)
  | .two i n j m,listed=>(Region.ready md ops listed == [i,j]) && n.ok md ops (listed.setIfInBounds i true) && m.ok md ops (listed.setIfInBounds j true)
  | .three i n j m k l,listed=>(Region.ready md ops listed == [i,j,k]) && n.ok md ops (listed.setIfInBounds i true) && m.ok md ops (listed.setIfInBounds j true) && l.ok md ops (listed.setIfInBounds k true)
def vA (md : Region.Mode) (cv : Op → Bool) (ops : Array Oper) (skip : List Nat) : Nat → Array Bool → yV
  | 0,_=>.done
  | f + 1,listed =>
    match (Region.ready md ops listed).find? (fun i=>(!j7 cv ops i || skip.contains i) && Region.free md ops listed i) with
    | some i=>.loose i (vA md cv ops skip f (listed.setIfInBounds i true))
    | none =>
      match Region.ready md ops listed with
      | [i]=>.one i (vA md cv ops skip f (listed.setIfInBounds i true))
      | [i,j]=>.two i (vA md cv ops skip f (listed.setIfInBounds i true)) j (vA md cv ops skip f (listed.setIfInBounds j true))
      | [i,j,k]=>.three i (vA md cv ops skip f (listed.setIfInBounds i true)) j (vA md cv ops skip f (listed.setIfInBounds j true)) k (vA md cv ops skip f (listed.setIfInBounds k true))
      | _=>.done
section
variable {P : Program} {ops : Array Oper} {md : Region.Mode} {S : World → Prop} {cv : Op → Bool} {fb : Bool}
def k5 (P : Program) (ops : Array Oper) (S : World → Prop) (cv : Op → Bool) (fb : Bool) (i : Nat) (K : Act → World → Prop) (a : Act) (w : World) : Prop :=
  match ops[i]? with
  | none=>False
  | some o=>if Region.wanted o (yielded ops a.tmps) then zA cv o = true ∧ xI P (cls ops S fb i) (fun v w'=>K (a.put o.dst v) w') ((execOp a.eval o).run P w) else K (a.put o.dst undef) w
def kP (P : Program) (ops : Array Oper) (S : World → Prop) (cv : Op → Bool) (fb : Bool) (Q : Act → World → Prop) : yV → Act → World → Prop
  | .done,a,w=>Q a w
  | .loose i n,a,w =>
    match ops[i]? with
    | none=>False
    | some o=>if Region.wanted o (yielded ops a.tmps) then zA cv o = false ∧ ∃ v,(∀ w',S w' → qU w' v ((execOp a.eval o).run P w')) ∧ kP P ops S cv fb Q n (a.put o.dst v) w else kP P ops S cv fb Q n (a.put o.dst undef) w
  | .one i n,a,w=>k5 P ops S cv fb i (kP P ops S cv fb Q n) a w
  | .two i n j m,a,w=>k5 P ops S cv fb i (kP P ops S cv fb Q n) a w ∧ k5 P ops S cv fb j (kP P ops S cv fb Q m) a w
  | .three i n j m k l,a,w=>k5 P ops S cv fb i (kP P ops S cv fb Q n) a w ∧ k5 P ops S cv fb j (kP P ops S cv fb Q m) a w ∧ k5 P ops S cv fb k (kP P ops S cv fb Q l) a w
theorem v7 {i : Nat} {K K' : Act → World → Prop} {a : Act} {w : World} (hS : S w) (hk : ∀ a w,cls ops S fb i w → K a w → K' a w) (h : k5 P ops S cv fb i K a w) : lxOp P ops S cv fb i K' a w:=by
  unfold LC.k5 at h;unfold LC.lxOp;cases ho : ops[i]? with
  | none=>rw [ho] at h;exact h.elim
  | some o =>
    simp only [ho] at h ⊢;split at h
    · rename_i hw
      rw [if_pos hw,if_pos h.1];exact jN (fun v w' hs hk'=>hk _ _ hs hk') h.2
    · rename_i hw
      rw [if_neg hw];exact hk _ _ (.inl hS) h
theorem gH {Q : Act → World → Prop} (hs : Region.noSelect ops = true) : ∀ (T : yV) (fuel : Nat) (listed : Array Bool) (a : Act) (w : World),qP md ops fb listed → (S w ∨ (fb = true ∧ Region.ready md ops listed = [])) →
    T.ok md ops listed = true → T.depth ≤ fuel → kP P ops S cv fb Q T a w → vZ P md ops S cv fb Q fuel listed a w:=by
  have after : ∀ {i : Nat} {listed : Array Bool} {w' : World},qP md ops fb listed → i ∈ Region.ready md ops listed → cls ops S fb i w' → S w' ∨ (fb = true ∧ Region.ready md ops (listed.setIfInBounds i true) = []):=by
    intro i listed w' hI hi hc;rcases hc with hc | ⟨hfb,he⟩
    · exact .inl hc
    · right
      refine ⟨hfb,?_⟩;rcases ((hI.set hi).inv hfb).2 with h1 | h1
      · exfalso
        have:=h1.tail i (by omega) (by omega);have hsz : i < (listed.setIfInBounds i true).size:=by rw [h1.size];omega
        have hsz' : i < listed.size:=by simpa using hsz
        simp [hsz'] at this
      · exact h1
  have nonempty : ∀ {i : Nat} {listed : Array Bool} {w : World},i ∈ Region.ready md ops listed → (S w ∨ (fb = true ∧ Region.ready md ops listed = [])) → S w:=by
    intro i listed w hi h;rcases h with h | ⟨_,h⟩
    · exact h
    · rw [h] at hi;cases hi
  intro T;induction T with
  | done =>
    intro fuel listed a w _ _ hok _ h;have h0 : Region.ready md ops listed = []:=by simpa [yV.ok] using hok
    cases fuel with
    | zero=>exact ⟨h0,h⟩
    | succ f=>exact ⟨fun _=>h,fun i hi=>by rw [h0] at hi;cases hi⟩
  | loose i n ih =>
    intro fuel listed a w hI hSw hok hd h;simp only [yV.ok,Bool.and_eq_true] at hok;obtain ⟨⟨hr,hf⟩,hn⟩:=hok;have hr' : i ∈ Region.ready md ops listed:=by simpa using hr
    have hS:=nonempty hr' hSw;cases fuel with
    | zero=>simp [yV.depth] at hd
    | succ f =>
      have hd' : n.depth ≤ f:=by simp [yV.depth] at hd;omega
      unfold kP at h;split at h
      · exact h.elim
      · rename_i o ho
        split at h
        · rename_i hw
          obtain ⟨hc,v,hv,hk⟩:=h;exact jX ho (Region.noSelect_spec hs) f listed a w hI hS (Region.free_spec ho hf) hr' (.inl ⟨hw,hc,hv⟩) (ih f _ _ w (hI.set hr') (.inl hS) hn hd' hk)
        · rename_i hw
          exact jX ho (Region.noSelect_spec hs) f listed a w hI hS (Region.free_spec ho hf) hr' (.inr ⟨by simpa using hw,rfl⟩) (ih f _ _ w (hI.set hr') (.inl hS) hn hd' h)
  | one i n ih =>
    intro fuel listed a w hI hSw hok hd h;simp only [yV.ok,Bool.and_eq_true,beq_iff_eq] at hok;obtain ⟨hr,hn⟩:=hok;have hr' : i ∈ Region.ready md ops listed:=by rw [hr];simp
    have hS:=nonempty hr' hSw;cases fuel with
    | zero=>simp [yV.depth] at hd
    | succ f =>
      have hd' : n.depth ≤ f:=by simp [yV.depth] at hd;omega
      refine ⟨fun h0=>(by rw [hr] at h0;cases h0),fun x hx=>?_⟩;have hx':=hx;rw [hr] at hx';obtain rfl : x = i:=by simpa using hx'
      exact v7 hS (fun a' w' hc hk=>ih f _ a' w' (hI.set hx) (after hI hx hc) hn hd' hk) h
  | two i n j m ih1 ih2 =>
    intro fuel listed a w hI hSw hok hd h;simp only [yV.ok,Bool.and_eq_true,beq_iff_eq] at hok;obtain ⟨⟨hr,hn⟩,hm⟩:=hok;have hS:=nonempty (i:=i) (by rw [hr];simp) hSw;cases fuel with
    | zero=>simp [yV.depth] at hd
    | succ f =>
      have hd1 : n.depth ≤ f:=by simp [yV.depth] at hd;omega
      have hd2 : m.depth ≤ f:=by simp [yV.depth] at hd;omega
      refine ⟨fun h0=>(by rw [hr] at h0;cases h0),fun x hx=>?_⟩;have hx':=hx;rw [hr] at hx';rcases List.mem_cons.1 hx' with rfl | hx'
      · exact v7 hS (fun a' w' hc hk=>ih1 f _ a' w' (hI.set hx) (after hI hx hc) hn hd1 hk) h.1
      · obtain rfl : x = j:=by simpa using hx'
        exact v7 hS (fun a' w' hc hk=>ih2 f _ a' w' (hI.set hx) (after hI hx hc) hm hd2 hk) h.2
  | three i n j m k l ih1 ih2 ih3 =>
    intro fuel listed a w hI hSw hok hd h;simp only [yV.ok,Bool.and_eq_true,beq_iff_eq] at hok;obtain ⟨⟨⟨hr,hn⟩,hm⟩,hl⟩:=hok;have hS:=nonempty (i:=i) (by rw [hr];simp) hSw;cases fuel with
    | zero=>simp [yV.depth] at hd
    | succ f =>
      have hd1 : n.depth ≤ f:=by simp [yV.depth] at hd;omega
      have hd2 : m.depth ≤ f:=by simp [yV.depth] at hd;omega
      have hd3 : l.depth ≤ f:=by simp [yV.depth] at hd;omega
      refine ⟨fun h0=>(by rw [hr] at h0;cases h0),fun x hx=>?_⟩;have hx':=hx;rw [hr] at hx';rcases List.mem_cons.1 hx' with rfl | hx'
      · exact v7 hS (fun a' w' hc hk=>ih1 f _ a' w' (hI.set hx) (after hI hx hc) hn hd1 hk) h.1
      · rcases List.mem_cons.1 hx' with rfl | hx'
        · exact v7 hS (fun a' w' hc hk=>ih2 f _ a' w' (hI.set hx) (after hI hx hc) hm hd2 hk) h.2.1
        · obtain rfl : x = k:=by simpa using hx'
          exact v7 hS (fun a' w' hc hk=>ih3 f _ a' w' (hI.set hx) (after hI hx hc) hl hd3 hk) h.2.2
structure bU (P : Program) (ops : Array Oper) (S : World → Prop) (cv : Op → Bool) (fb : Bool) (Q : Act → World → Prop) (T : yV) (a : Act) (w : World) : Prop where
  out : kP P ops S cv fb Q T a w
theorem u1 {id : Nat} {Q : Exit → Act → World → Prop} {a : Act} {w : World} {ops : Array Oper} (T : yV) (S : World → Prop) (cv : Op → Bool) (hm : P.follows .mixedOrders = true) (hs : Region.noSelect ops = true) (hT : T.ok .any ops (Array.replicate ops.size false) = true) (hd : Nat.ble T.depth ops.size = true) (hS : S w.drew)
    (h : bU P ops S cv false (fun a' w'=>S w' → Q .normal a' w') T a w.drew) : (Code.region id ops true).wp P Q a w:=by
  have hI : qP .any ops false (Array.replicate ops.size false):=⟨by simp⟩
  exact wp_region_any hm (vM (S:=S) (cv:=cv) (fb:=false) (Q:=fun a' w'=>S w' → Q .normal a' w') (fun _ w' hw' h=>h (hw'.elim (fun h=>h) (by simp))) _ _ _ _ hI (.inl hS)
    (gH (md:=.any) hs T _ _ a w.drew hI (.inl hS) hT (Nat.le_of_ble_eq_true hd) h.out))
variable {Q : Act → World → Prop} {a : Act} {w : World} {o : Oper} {i j k : Nat} {n m l : yV}
theorem rC (h : Q a w) : bU P ops S cv fb Q .done a w:=⟨h⟩
theorem q3 (ho' : uW ops.toList i = some o) (hc : zA cv o = false)
    (h : ∀ K : Act → Prop,(∀ a,bU P ops S cv fb Q n a w → K a) → if Region.wanted o (yielded ops a.tmps) then (∃ v,(∀ x : Subtype S,qU x.1 v ((execOp a.eval o).run P x.1)) ∧ K (a.put o.dst v)) else K (a.put o.dst undef)) : bU P ops S cv fb Q (.loose i n) a w:=by
  have ho:=bM ho';have:=h _ (fun _ h=>h);refine ⟨?_⟩;unfold kP;simp only [ho];split
  · rename_i hw
    rw [if_pos hw] at this;obtain ⟨v,hv,hk⟩:=this;exact ⟨hc,v,fun w' hs=>hv ⟨w',hs⟩,hk.out⟩
  · rename_i hw;rw [if_neg hw] at this;exact this.out
theorem qD (hS : S w) (ho' : uW ops.toList i = some o) (hc : zA cv o = true)
    (h : ∀ K : Act → World → Prop,(∀ a w,bU P ops S cv fb Q n a w → K a w) → if Region.wanted o (yielded ops a.tmps) then xI P S (fun v w'=>K (a.put o.dst v) w') ((execOp a.eval o).run P w) else K (a.put o.dst undef) w) : bU P ops S cv fb Q (.one i n) a w:=by
  have ho:=bM ho';have:=h _ (fun _ _ h=>h);refine ⟨?_⟩;unfold kP k5;simp only [ho];split
  · rename_i hw;rw [if_pos hw] at this;exact ⟨hc,jI (fun _ h=>.inl h) (fun _ _ _ h=>h.out) this⟩
  · rename_i hw;rw [if_neg hw] at this;exact this.out
theorem fP (h1 : bU P ops S cv fb Q (.one i n) a w) (h2 : bU P ops S cv fb Q (.one j m) a w) : bU P ops S cv fb Q (.two i n j m) a w:=⟨⟨h1.out,h2.out⟩⟩
end
def cvOf (n : TypeId) (op : Op) : Bool:=match op with | .load t _=>t == n | _=>false
end LC
end Go.Proofs.YtgfpjjppeldhbaaGreatDoor
