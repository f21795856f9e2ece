/- Part 12 of the texts that lead to this claim: the walks of the functions and the plain law, in order. -/
import Derived.Test.YtgfpjjppeldhbaaGreatDoorMp11
import Derived.LoopN
namespace Go.Proofs.YtgfpjjppeldhbaaGreatDoor
section
open Go.RowKit
set_option maxRecDepth 100000 in
set_option maxHeartbeats 4000000 in
theorem vput_t (w : World) (g : Nat) (t : ByteArray) (b : Nat) (I : List zK) (gs : Nat) (sb : List UInt8) (h0 : x7 w g t b I (.iface 100 (.pointer (some ⟨gs,0,none⟩)))) (hn : I.length ≤ 1000000) (hsb : sb.length ≤ 100000000)
    (c : ∀ w',Below w.heap.size w w' → Calls Tryz.prog 324 #[.pointer (some ⟨gs,0,none⟩)] w' fun e w''=>e = .returned (.string ⟨sb.toArray⟩) ∧ Below w'.heap.size w' w'') :
    Calls Tryz.prog 34 #[.pointer (some ⟨g,0,none⟩)] w fun e w'=>e = .returned (.string ⟨(gV (yA zO I) ++ sb).toArray⟩) ∧ Below w.heap.size w w':=by
  have h : x7 w g t b (yA zO I) (.iface 100 (.pointer (some ⟨gs,0,none⟩))):=⟨h0.blk,xA.congr h0.ids (fun x=>(xL xP).symm)⟩
  have hr : Ris zO (yA zO I):=xB xP _;have hO : (yA zO I).length ≤ 1000000:=Nat.le_trans (yS I) hn;obtain ⟨O,hOe⟩ : ∃ O,yA zO I = O:=⟨_,rfl⟩
  rw [hOe] at h hr hO;rw [hOe];clear hOe h0 hn;have hc1:=h.cell1;go_enter Tryz.func34,Tryz.ntmps34
  (go_wp2_with fail);refine (qL w g b hc1).mono ?_;rintro e w1 ⟨rfl,rfl⟩;(go_wp2_with fail);refine (XC w g t b O _ h hr hO).mono ?_;rintro e w2 ⟨IA,ic,rfl,hIo,hb02⟩;have hIs : SlR w2 IA O.length 32 (O.map idC):=hIo.slr;have hIb : ∀ x ∈ blk IA,x < w2.heap.size:=fun x hx=>(hIo.at_base hx).2;clear hc1 hIo;(go_wp2_with fail);refine (pQ w2).mono ?_;rintro e w3 ⟨rfl,hw3,hb3⟩;have hIs3:=hIs.below hb3;obtain ⟨gw,hgw⟩ : ∃ gw,w2.heap.size = gw:=⟨_,rfl⟩
  have hb03:=yN hb02 hb3;rw [hgw] at hw3 hIb ⊢;have hg3:=hw3.lt;have hszw : w.heap.size ≤ gw:=by have:=hb02.size;omega
  clear hIs hb3 hgw;(go_wp2_with fail);refine (gR _ _ _ _ _ _ hw3 O.length 4 (by omega) (by omega) (by simp)).mono ?_;rintro e W3 ⟨rfl,AW,capW,hwW,hkW,hsubW⟩;simp only [List.nil_append] at hwW;have hid : SlR W3 IA O.length 32 (O.map idC):=hIs3.kept hkW (fun x hx=>by have:=hIb x hx;simp [blk];omega);have hbF : Below w.heap.size w W3:=hb03.trans (hkW.below (by have:=hb03.size;omega) (by simp [blk];omega));have hAbW : ∀ x ∈ blk AW,gw < x:=fun x hx=>(by have:=(hwW.own.at_base hx).1;omega);have hdis : ∀ x ∈ blk IA,x ∉ gw :: blk AW:=fun x hx hm=>by
    have:=hIb x hx;rcases List.mem_cons.1 hm with e | hm
    · omega
    · have:=hAbW x hm;omega
  have hbF2 : ∀ w',zC (gw :: blk AW) W3 w' → Below w.heap.size w w':=fun w' hk=>hbF.trans (hk.below (by have:=hbF.size;omega) (fun x hx=>by
    rcases List.mem_cons.1 hx with rfl | hx
    · omega
    · have:=hAbW x hx;omega))
  have HbF:=Lib.hid hbF2;have hpl : (beL 4 O.length).length ≤ 200000000:=by rw [yC];omega
  obtain ⟨pre,hpre⟩ : ∃ pre,beL 4 O.length = pre:=⟨_,rfl⟩
  rw [hpre] at hwW hpl;have Hpre:=Lib.hid hpre;obtain ⟨S,hS⟩ : ∃ S,S = O:=⟨_,rfl⟩
  obtain ⟨Bw,hBw⟩ : ∃ Bw,Bw = gw + 1:=⟨_,rfl⟩
  have hBw2 : gw < Bw:=by omega
  rw [← hS] at hid hO Hpre;have hI2 : (Value.slice IA O.length ic) = .slice IA S.length ic:=by rw [hS]
  rw [← hBw] at hwW;have HS:=Lib.hid hS;rw [hI2];clear hpre hbF hbF2 hS hBw hkW hsubW hAbW hIs3 hb03 hb02 hw3 hg3 hIb hr hI2;(go_wp2_with fail);go_loopw [19] (fun i wr=>∃ k : Nat,k ≤ S.length ∧ i = .int .i64 (k : Nat) ∧ vL W3 Bw gw AW (pre ++ (S.take k).flatMap zK.l) wr) (fun i _=>S.length - (intOf i).toNat)
  case atStart=>exact ⟨0,Nat.zero_le _,rfl,AW,capW,by simpa using hwW,zC.refl _ _,fun x hx=>.inl hx⟩
  case round =>
    obtain ⟨k,hk,rfl,A4,cap4,hw4,hk4,hsub4⟩:=hrel;by_cases hlt : k < S.length
    · have hLr:=(show SlR W3 IA S.length 32 (S.map idC) from hid).kept hk4 hdis;obtain ⟨q,o,rfl,hr⟩:=y4.get hLr hlt hlt;have htk : (S.take (k + 1)).flatMap zK.l = (S.take k).flatMap zK.l ++ (S[k]).l:=by rw [List.take_add_one,List.getElem?_eq_getElem hlt,List.flatMap_append];simp only [Option.toList_some,List.flatMap_cons,List.flatMap_nil,List.append_nil]
      have hbl:=xC zK.l 32 (S.take k) (fun x hx=>by rw [x.h];exact Nat.le_refl _);have htl : (S.take k).length = k:=by simp;omega
      rw [htl] at hbl;obtain ⟨x,hx⟩ : ∃ x,S[k]'hlt = x:=⟨_,rfl⟩
      rw [hx] at hr htk;have Htk:=Lib.hid htk;clear hx htk hLr htl;have hbl0 : (pre ++ (S.take k).flatMap zK.l).length ≤ 300000000:=by rw [List.length_append];omega
      obtain ⟨bs0,hbs0⟩ : ∃ bs0,pre ++ (S.take k).flatMap zK.l = bs0:=⟨_,rfl⟩
      have Hbs0:=Lib.hid hbs0;rw [hbs0] at hw4 hbl0;clear hbs0 hbl;have hb5 : Below wr.heap.size wr (wr.alloc (.cells (idC x) 39)):=(Below.refl _ _).alloc (Nat.le_refl _) _;have hw5:=hw4.below hb5;have hk5 : zC [] wr (wr.alloc (.cells (idC x) 39)):=zC.alloc _ _;have hbox : zF (wr.alloc (.cells (idC x) 39)) wr.heap.size 0 32 = some (idC x):=by simp [go_sem]
      have hconv : ∀ c,(convert 37 9 (.slice (some ⟨wr.heap.size,0,none⟩) 32 c)).run Tryz.prog (wr.alloc (.cells (idC x) 39)) = .ok (.string ⟨x.l.toArray⟩) (wr.alloc (.cells (idC x) 39)):=fun c=>jV hbox;have e3 : (⟨x.l.toArray⟩ : ByteArray).size = 32:=by show x.l.toArray.size = 32;simp [x.h]
      have e4 : (⟨x.l.toArray⟩ : ByteArray).data.toList = x.l:=by simp
      have cw:=fO _ Bw gw A4 cap4 bs0 hw5 ⟨x.l.toArray⟩ (by rw [e3];omega);rw [e4] at cw;clear e3 e4 hbox;(go_wp2_with fail);refine cw.mono ?_;rintro e w6 ⟨rfl,hst⟩;have hst2:=y9 hw4 hk4 hsub4 (y9 hw5 (hk5.mono (S':=gw :: blk A4) (by simp)) (fun x hx=>.inl hx) hst);rw [← Hbs0.out,List.append_assoc,← Htk.out] at hst2;have Hst:=Lib.hid hst2;clear hst hst2 hconv cw hb5 hw5 hk5 hw4 hk4 hsub4;(go_wp2_with fail);go_roundw
      case rel=>exact ⟨k + 1,by omega,by go_num,Hst.out⟩
      case measure=>simp [intOf];omega
    · have hkL : S.take k = S:=List.take_of_length_le (by omega);rw [hkL] at hw4;clear hkL;have hbr : Below w.heap.size w wr:=HbF.out _ hk4;have hV5:=h.below hbr;have hc2:=hV5.cell2;have cs:=c wr hbr;have hpl2 : (pre ++ S.flatMap zK.l).length ≤ 300000000:=by
        have:=xC zK.l 32 S (fun x _=>by rw [x.h];exact Nat.le_refl _);rw [List.length_append];omega
      obtain ⟨p1,hp1⟩ : ∃ p1,pre ++ S.flatMap zK.l = p1:=⟨_,rfl⟩
      have Hp1:=Lib.hid hp1;rw [hp1] at hw4 hpl2;clear hp1 hk4 hsub4;(go_wp2_with fail);refine cs.mono ?_;rintro e w6 ⟨rfl,hb6⟩;have hw6:=hw4.below hb6;have es : (⟨sb.toArray⟩ : ByteArray).size = sb.length:=by show sb.toArray.size = _;simp
      have es2 : (⟨sb.toArray⟩ : ByteArray).data.toList = sb:=by simp
      have cw:=fO _ _ _ _ _ _ hw6 ⟨sb.toArray⟩ (by rw [es];omega);rw [es2] at cw;have hb06:=yN hbr hb6;have hAb6 : ∀ x ∈ blk A4,gw < x:=fun x hx=>(by have:=(hw4.own.at_base hx).1;omega);clear es es2 hw4 hb6 hc2 hV5 cs;(go_wp2_with fail);refine cw.mono ?_;rintro e w7 ⟨rfl,A7,cap7,hw7,hk7,hsub7⟩;have hb07 : Below w.heap.size w w7:=hb06.trans (hk7.below (by have:=hb06.size;omega) (fun x hx=>by
        rcases List.mem_cons.1 hx with rfl | hx
        · omega
        · have:=hAb6 x hx;omega))
      clear hk7 hsub7;(go_wp2_with fail);refine (uX _ _ _ _ _ _ hw7).mono ?_;rintro e w' ⟨rfl,rfl⟩;(go_wp2_with fail);go_ret;exact ⟨kT (by rw [← Hp1.out,← Hpre.out,HS.out];simp [gV,List.append_assoc]),hb07⟩
set_option maxRecDepth 100000 in
set_option maxHeartbeats 4000000 in
theorem vput_b (w : World) (g : Nat) (t : ByteArray) (b : Nat) (I : List zK) (gs : Nat) (sb : List UInt8) (h0 : x7 w g t b I (.iface 102 (.pointer (some ⟨gs,0,none⟩)))) (hn : I.length ≤ 1000000) (hsb : sb.length ≤ 100000000)
    (c : ∀ w',Below w.heap.size w w' → Calls Tryz.prog 325 #[.pointer (some ⟨gs,0,none⟩)] w' fun e w''=>e = .returned (.string ⟨sb.toArray⟩) ∧ Below w'.heap.size w' w'') :
    Calls Tryz.prog 34 #[.pointer (some ⟨g,0,none⟩)] w fun e w'=>e = .returned (.string ⟨(gV (yA zO I) ++ sb).toArray⟩) ∧ Below w.heap.size w w':=by
  have h : x7 w g t b (yA zO I) (.iface 102 (.pointer (some ⟨gs,0,none⟩))):=⟨h0.blk,xA.congr h0.ids (fun x=>(xL xP).symm)⟩
  have hr : Ris zO (yA zO I):=xB xP _;have hO : (yA zO I).length ≤ 1000000:=Nat.le_trans (yS I) hn;obtain ⟨O,hOe⟩ : ∃ O,yA zO I = O:=⟨_,rfl⟩
  rw [hOe] at h hr hO;rw [hOe];clear hOe h0 hn;have hc1:=h.cell1;go_enter Tryz.func34,Tryz.ntmps34
  (go_wp2_with fail);refine (qL w g b hc1).mono ?_;rintro e w1 ⟨rfl,rfl⟩;(go_wp2_with fail);refine (XC w g t b O _ h hr hO).mono ?_;rintro e w2 ⟨IA,ic,rfl,hIo,hb02⟩;have hIs : SlR w2 IA O.length 32 (O.map idC):=hIo.slr;have hIb : ∀ x ∈ blk IA,x < w2.heap.size:=fun x hx=>(hIo.at_base hx).2;clear hc1 hIo;(go_wp2_with fail);refine (pQ w2).mono ?_;rintro e w3 ⟨rfl,hw3,hb3⟩;have hIs3:=hIs.below hb3;obtain ⟨gw,hgw⟩ : ∃ gw,w2.heap.size = gw:=⟨_,rfl⟩
  have hb03:=yN hb02 hb3;rw [hgw] at hw3 hIb ⊢;have hg3:=hw3.lt;have hszw : w.heap.size ≤ gw:=by have:=hb02.size;omega
  clear hIs hb3 hgw;(go_wp2_with fail);refine (gR _ _ _ _ _ _ hw3 O.length 4 (by omega) (by omega) (by simp)).mono ?_;rintro e W3 ⟨rfl,AW,capW,hwW,hkW,hsubW⟩;simp only [List.nil_append] at hwW;have hid : SlR W3 IA O.length 32 (O.map idC):=hIs3.kept hkW (fun x hx=>by have:=hIb x hx;simp [blk];omega);have hbF : Below w.heap.size w W3:=hb03.trans (hkW.below (by have:=hb03.size;omega) (by simp [blk];omega));have hAbW : ∀ x ∈ blk AW,gw < x:=fun x hx=>(by have:=(hwW.own.at_base hx).1;omega);have hdis : ∀ x ∈ blk IA,x ∉ gw :: blk AW:=fun x hx hm=>by
    have:=hIb x hx;rcases List.mem_cons.1 hm with e | hm
    · omega
    · have:=hAbW x hm;omega
  have hbF2 : ∀ w',zC (gw :: blk AW) W3 w' → Below w.heap.size w w':=fun w' hk=>hbF.trans (hk.below (by have:=hbF.size;omega) (fun x hx=>by
    rcases List.mem_cons.1 hx with rfl | hx
    · omega
    · have:=hAbW x hx;omega))
  have HbF:=Lib.hid hbF2;have hpl : (beL 4 O.length).length ≤ 200000000:=by rw [yC];omega
  obtain ⟨pre,hpre⟩ : ∃ pre,beL 4 O.length = pre:=⟨_,rfl⟩
  rw [hpre] at hwW hpl;have Hpre:=Lib.hid hpre;obtain ⟨S,hS⟩ : ∃ S,S = O:=⟨_,rfl⟩
  obtain ⟨Bw,hBw⟩ : ∃ Bw,Bw = gw + 1:=⟨_,rfl⟩
  have hBw2 : gw < Bw:=by omega
  rw [← hS] at hid hO Hpre;have hI2 : (Value.slice IA O.length ic) = .slice IA S.length ic:=by rw [hS]
  rw [← hBw] at hwW;have HS:=Lib.hid hS;rw [hI2];clear hpre hbF hbF2 hS hBw hkW hsubW hAbW hIs3 hb03 hb02 hw3 hg3 hIb hr hI2;(go_wp2_with fail);go_loopw [19] (fun i wr=>∃ k : Nat,k ≤ S.length ∧ i = .int .i64 (k : Nat) ∧ vL W3 Bw gw AW (pre ++ (S.take k).flatMap zK.l) wr) (fun i _=>S.length - (intOf i).toNat)
  case atStart=>exact ⟨0,Nat.zero_le _,rfl,AW,capW,by simpa using hwW,zC.refl _ _,fun x hx=>.inl hx⟩
  case round =>
    obtain ⟨k,hk,rfl,A4,cap4,hw4,hk4,hsub4⟩:=hrel;by_cases hlt : k < S.length
    · have hLr:=(show SlR W3 IA S.length 32 (S.map idC) from hid).kept hk4 hdis;obtain ⟨q,o,rfl,hr⟩:=y4.get hLr hlt hlt;have htk : (S.take (k + 1)).flatMap zK.l = (S.take k).flatMap zK.l ++ (S[k]).l:=by rw [List.take_add_one,List.getElem?_eq_getElem hlt,List.flatMap_append];simp only [Option.toList_some,List.flatMap_cons,List.flatMap_nil,List.append_nil]
      have hbl:=xC zK.l 32 (S.take k) (fun x hx=>by rw [x.h];exact Nat.le_refl _);have htl : (S.take k).length = k:=by simp;omega
      rw [htl] at hbl;obtain ⟨x,hx⟩ : ∃ x,S[k]'hlt = x:=⟨_,rfl⟩
      rw [hx] at hr htk;have Htk:=Lib.hid htk;clear hx htk hLr htl;have hbl0 : (pre ++ (S.take k).flatMap zK.l).length ≤ 300000000:=by rw [List.length_append];omega
      obtain ⟨bs0,hbs0⟩ : ∃ bs0,pre ++ (S.take k).flatMap zK.l = bs0:=⟨_,rfl⟩
      have Hbs0:=Lib.hid hbs0;rw [hbs0] at hw4 hbl0;clear hbs0 hbl;have hb5 : Below wr.heap.size wr (wr.alloc (.cells (idC x) 39)):=(Below.refl _ _).alloc (Nat.le_refl _) _;have hw5:=hw4.below hb5;have hk5 : zC [] wr (wr.alloc (.cells (idC x) 39)):=zC.alloc _ _;have hbox : zF (wr.alloc (.cells (idC x) 39)) wr.heap.size 0 32 = some (idC x):=by simp [go_sem]
      have hconv : ∀ c,(convert 37 9 (.slice (some ⟨wr.heap.size,0,none⟩) 32 c)).run Tryz.prog (wr.alloc (.cells (idC x) 39)) = .ok (.string ⟨x.l.toArray⟩) (wr.alloc (.cells (idC x) 39)):=fun c=>jV hbox;have e3 : (⟨x.l.toArray⟩ : ByteArray).size = 32:=by show x.l.toArray.size = 32;simp [x.h]
      have e4 : (⟨x.l.toArray⟩ : ByteArray).data.toList = x.l:=by simp
      have cw:=fO _ Bw gw A4 cap4 bs0 hw5 ⟨x.l.toArray⟩ (by rw [e3];omega);rw [e4] at cw;clear e3 e4 hbox;(go_wp2_with fail);refine cw.mono ?_;rintro e w6 ⟨rfl,hst⟩;have hst2:=y9 hw4 hk4 hsub4 (y9 hw5 (hk5.mono (S':=gw :: blk A4) (by simp)) (fun x hx=>.inl hx) hst);rw [← Hbs0.out,List.append_assoc,← Htk.out] at hst2;have Hst:=Lib.hid hst2;clear hst hst2 hconv cw hb5 hw5 hk5 hw4 hk4 hsub4;(go_wp2_with fail);go_roundw
      case rel=>exact ⟨k + 1,by omega,by go_num,Hst.out⟩
      case measure=>simp [intOf];omega
    · have hkL : S.take k = S:=List.take_of_length_le (by omega);rw [hkL] at hw4;clear hkL;have hbr : Below w.heap.size w wr:=HbF.out _ hk4;have hV5:=h.below hbr;have hc2:=hV5.cell2;have cs:=c wr hbr;have hpl2 : (pre ++ S.flatMap zK.l).length ≤ 300000000:=by
        have:=xC zK.l 32 S (fun x _=>by rw [x.h];exact Nat.le_refl _);rw [List.length_append];omega
      obtain ⟨p1,hp1⟩ : ∃ p1,pre ++ S.flatMap zK.l = p1:=⟨_,rfl⟩
      have Hp1:=Lib.hid hp1;rw [hp1] at hw4 hpl2;clear hp1 hk4 hsub4;(go_wp2_with fail);refine cs.mono ?_;rintro e w6 ⟨rfl,hb6⟩;have hw6:=hw4.below hb6;have es : (⟨sb.toArray⟩ : ByteArray).size = sb.length:=by show sb.toArray.size = _;simp
      have es2 : (⟨sb.toArray⟩ : ByteArray).data.toList = sb:=by simp
      have cw:=fO _ _ _ _ _ _ hw6 ⟨sb.toArray⟩ (by rw [es];omega);rw [es2] at cw;have hb06:=yN hbr hb6;have hAb6 : ∀ x ∈ blk A4,gw < x:=fun x hx=>(by have:=(hw4.own.at_base hx).1;omega);clear es es2 hw4 hb6 hc2 hV5 cs;(go_wp2_with fail);refine cw.mono ?_;rintro e w7 ⟨rfl,A7,cap7,hw7,hk7,hsub7⟩;have hb07 : Below w.heap.size w w7:=hb06.trans (hk7.below (by have:=hb06.size;omega) (fun x hx=>by
        rcases List.mem_cons.1 hx with rfl | hx
        · omega
        · have:=hAb6 x hx;omega))
      clear hk7 hsub7;(go_wp2_with fail);refine (uX _ _ _ _ _ _ hw7).mono ?_;rintro e w' ⟨rfl,rfl⟩;(go_wp2_with fail);go_ret;exact ⟨kT (by rw [← Hp1.out,← Hpre.out,HS.out];simp [gV,List.append_assoc]),hb07⟩
set_option maxRecDepth 100000 in
set_option maxHeartbeats 4000000 in
theorem vput_l (w : World) (g : Nat) (t : ByteArray) (b : Nat) (I : List zK) (gs : Nat) (sb : List UInt8) (h0 : x7 w g t b I (.iface 104 (.pointer (some ⟨gs,0,none⟩)))) (hn : I.length ≤ 1000000) (hsb : sb.length ≤ 100000000)
    (c : ∀ w',Below w.heap.size w w' → Calls Tryz.prog 342 #[.pointer (some ⟨gs,0,none⟩)] w' fun e w''=>e = .returned (.string ⟨sb.toArray⟩) ∧ Below w'.heap.size w' w'') :
    Calls Tryz.prog 34 #[.pointer (some ⟨g,0,none⟩)] w fun e w'=>e = .returned (.string ⟨(gV (yA zO I) ++ sb).toArray⟩) ∧ Below w.heap.size w w':=by
  have h : x7 w g t b (yA zO I) (.iface 104 (.pointer (some ⟨gs,0,none⟩))):=⟨h0.blk,xA.congr h0.ids (fun x=>(xL xP).symm)⟩
  have hr : Ris zO (yA zO I):=xB xP _;have hO : (yA zO I).length ≤ 1000000:=Nat.le_trans (yS I) hn;obtain ⟨O,hOe⟩ : ∃ O,yA zO I = O:=⟨_,rfl⟩
  rw [hOe] at h hr hO;rw [hOe];clear hOe h0 hn;have hc1:=h.cell1;go_enter Tryz.func34,Tryz.ntmps34
  (go_wp2_with fail);refine (qL w g b hc1).mono ?_;rintro e w1 ⟨rfl,rfl⟩;(go_wp2_with fail);refine (XC w g t b O _ h hr hO).mono ?_;rintro e w2 ⟨IA,ic,rfl,hIo,hb02⟩;have hIs : SlR w2 IA O.length 32 (O.map idC):=hIo.slr;have hIb : ∀ x ∈ blk IA,x < w2.heap.size:=fun x hx=>(hIo.at_base hx).2;clear hc1 hIo;(go_wp2_with fail);refine (pQ w2).mono ?_;rintro e w3 ⟨rfl,hw3,hb3⟩;have hIs3:=hIs.below hb3;obtain ⟨gw,hgw⟩ : ∃ gw,w2.heap.size = gw:=⟨_,rfl⟩
  have hb03:=yN hb02 hb3;rw [hgw] at hw3 hIb ⊢;have hg3:=hw3.lt;have hszw : w.heap.size ≤ gw:=by have:=hb02.size;omega
  clear hIs hb3 hgw;(go_wp2_with fail);refine (gR _ _ _ _ _ _ hw3 O.length 4 (by omega) (by omega) (by simp)).mono ?_;rintro e W3 ⟨rfl,AW,capW,hwW,hkW,hsubW⟩;simp only [List.nil_append] at hwW;have hid : SlR W3 IA O.length 32 (O.map idC):=hIs3.kept hkW (fun x hx=>by have:=hIb x hx;simp [blk];omega);have hbF : Below w.heap.size w W3:=hb03.trans (hkW.below (by have:=hb03.size;omega) (by simp [blk];omega));have hAbW : ∀ x ∈ blk AW,gw < x:=fun x hx=>(by have:=(hwW.own.at_base hx).1;omega);have hdis : ∀ x ∈ blk IA,x ∉ gw :: blk AW:=fun x hx hm=>by
    have:=hIb x hx;rcases List.mem_cons.1 hm with e | hm
    · omega
    · have:=hAbW x hm;omega
  have hbF2 : ∀ w',zC (gw :: blk AW) W3 w' → Below w.heap.size w w':=fun w' hk=>hbF.trans (hk.below (by have:=hbF.size;omega) (fun x hx=>by
    rcases List.mem_cons.1 hx with rfl | hx
    · omega
    · have:=hAbW x hx;omega))
  have HbF:=Lib.hid hbF2;have hpl : (beL 4 O.length).length ≤ 200000000:=by rw [yC];omega
  obtain ⟨pre,hpre⟩ : ∃ pre,beL 4 O.length = pre:=⟨_,rfl⟩
  rw [hpre] at hwW hpl;have Hpre:=Lib.hid hpre;obtain ⟨S,hS⟩ : ∃ S,S = O:=⟨_,rfl⟩
  obtain ⟨Bw,hBw⟩ : ∃ Bw,Bw = gw + 1:=⟨_,rfl⟩
  have hBw2 : gw < Bw:=by omega
  rw [← hS] at hid hO Hpre;have hI2 : (Value.slice IA O.length ic) = .slice IA S.length ic:=by rw [hS]
  rw [← hBw] at hwW;have HS:=Lib.hid hS;rw [hI2];clear hpre hbF hbF2 hS hBw hkW hsubW hAbW hIs3 hb03 hb02 hw3 hg3 hIb hr hI2;(go_wp2_with fail);go_loopw [19] (fun i wr=>∃ k : Nat,k ≤ S.length ∧ i = .int .i64 (k : Nat) ∧ vL W3 Bw gw AW (pre ++ (S.take k).flatMap zK.l) wr) (fun i _=>S.length - (intOf i).toNat)
  case atStart=>exact ⟨0,Nat.zero_le _,rfl,AW,capW,by simpa using hwW,zC.refl _ _,fun x hx=>.inl hx⟩
  case round =>
    obtain ⟨k,hk,rfl,A4,cap4,hw4,hk4,hsub4⟩:=hrel;by_cases hlt : k < S.length
    · have hLr:=(show SlR W3 IA S.length 32 (S.map idC) from hid).kept hk4 hdis;obtain ⟨q,o,rfl,hr⟩:=y4.get hLr hlt hlt;have htk : (S.take (k + 1)).flatMap zK.l = (S.take k).flatMap zK.l ++ (S[k]).l:=by rw [List.take_add_one,List.getElem?_eq_getElem hlt,List.flatMap_append];simp only [Option.toList_some,List.flatMap_cons,List.flatMap_nil,List.append_nil]
      have hbl:=xC zK.l 32 (S.take k) (fun x hx=>by rw [x.h];exact Nat.le_refl _);have htl : (S.take k).length = k:=by simp;omega
      rw [htl] at hbl;obtain ⟨x,hx⟩ : ∃ x,S[k]'hlt = x:=⟨_,rfl⟩
      rw [hx] at hr htk;have Htk:=Lib.hid htk;clear hx htk hLr htl;have hbl0 : (pre ++ (S.take k).flatMap zK.l).length ≤ 300000000:=by rw [List.length_append];omega
      obtain ⟨bs0,hbs0⟩ : ∃ bs0,pre ++ (S.take k).flatMap zK.l = bs0:=⟨_,rfl⟩
      have Hbs0:=Lib.hid hbs0;rw [hbs0] at hw4 hbl0;clear hbs0 hbl;have hb5 : Below wr.heap.size wr (wr.alloc (.cells (idC x) 39)):=(Below.refl _ _).alloc (Nat.le_refl _) _;have hw5:=hw4.below hb5;have hk5 : zC [] wr (wr.alloc (.cells (idC x) 39)):=zC.alloc _ _;have hbox : zF (wr.alloc (.cells (idC x) 39)) wr.heap.size 0 32 = some (idC x):=by simp [go_sem]
      have hconv : ∀ c,(convert 37 9 (.slice (some ⟨wr.heap.size,0,none⟩) 32 c)).run Tryz.prog (wr.alloc (.cells (idC x) 39)) = .ok (.string ⟨x.l.toArray⟩) (wr.alloc (.cells (idC x) 39)):=fun c=>jV hbox;have e3 : (⟨x.l.toArray⟩ : ByteArray).size = 32:=by show x.l.toArray.size = 32;simp [x.h]
      have e4 : (⟨x.l.toArray⟩ : ByteArray).data.toList = x.l:=by simp
      have cw:=fO _ Bw gw A4 cap4 bs0 hw5 ⟨x.l.toArray⟩ (by rw [e3];omega);rw [e4] at cw;clear e3 e4 hbox;(go_wp2_with fail);refine cw.mono ?_;rintro e w6 ⟨rfl,hst⟩;have hst2:=y9 hw4 hk4 hsub4 (y9 hw5 (hk5.mono (S':=gw :: blk A4) (by simp)) (fun x hx=>.inl hx) hst);rw [← Hbs0.out,List.append_assoc,← Htk.out] at hst2;have Hst:=Lib.hid hst2;clear hst hst2 hconv cw hb5 hw5 hk5 hw4 hk4 hsub4;(go_wp2_with fail);go_roundw
      case rel=>exact ⟨k + 1,by omega,by go_num,Hst.out⟩
      case measure=>simp [intOf];omega
    · have hkL : S.take k = S:=List.take_of_length_le (by omega);rw [hkL] at hw4;clear hkL;have hbr : Below w.heap.size w wr:=HbF.out _ hk4;have hV5:=h.below hbr;have hc2:=hV5.cell2;have cs:=c wr hbr;have hpl2 : (pre ++ S.flatMap zK.l).length ≤ 300000000:=by
        have:=xC zK.l 32 S (fun x _=>by rw [x.h];exact Nat.le_refl _);rw [List.length_append];omega
      obtain ⟨p1,hp1⟩ : ∃ p1,pre ++ S.flatMap zK.l = p1:=⟨_,rfl⟩
      have Hp1:=Lib.hid hp1;rw [hp1] at hw4 hpl2;clear hp1 hk4 hsub4;(go_wp2_with fail);refine cs.mono ?_;rintro e w6 ⟨rfl,hb6⟩;have hw6:=hw4.below hb6;have es : (⟨sb.toArray⟩ : ByteArray).size = sb.length:=by show sb.toArray.size = _;simp
      have es2 : (⟨sb.toArray⟩ : ByteArray).data.toList = sb:=by simp
      have cw:=fO _ _ _ _ _ _ hw6 ⟨sb.toArray⟩ (by rw [es];omega);rw [es2] at cw;have hb06:=yN hbr hb6;have hAb6 : ∀ x ∈ blk A4,gw < x:=fun x hx=>(by have:=(hw4.own.at_base hx).1;omega);clear es es2 hw4 hb6 hc2 hV5 cs;(go_wp2_with fail);refine cw.mono ?_;rintro e w7 ⟨rfl,A7,cap7,hw7,hk7,hsub7⟩;have hb07 : Below w.heap.size w w7:=hb06.trans (hk7.below (by have:=hb06.size;omega) (fun x hx=>by
        rcases List.mem_cons.1 hx with rfl | hx
        · omega
        · have:=hAb6 x hx;omega))
      clear hk7 hsub7;(go_wp2_with fail);refine (uX _ _ _ _ _ _ hw7).mono ?_;rintro e w' ⟨rfl,rfl⟩;(go_wp2_with fail);go_ret;exact ⟨kT (by rw [← Hp1.out,← Hpre.out,HS.out];simp [gV,List.append_assoc]),hb07⟩
set_option maxRecDepth 100000 in
set_option maxHeartbeats 4000000 in
theorem vput_m (w : World) (g : Nat) (t : ByteArray) (b : Nat) (I : List zK) (gs : Nat) (sb : List UInt8) (h0 : x7 w g t b I (.iface 105 (.pointer (some ⟨gs,0,none⟩)))) (hn : I.length ≤ 1000000) (hsb : sb.length ≤ 100000000)
    (c : ∀ w',Below w.heap.size w w' → Calls Tryz.prog 343 #[.pointer (some ⟨gs,0,none⟩)] w' fun e w''=>e = .returned (.string ⟨sb.toArray⟩) ∧ Below w'.heap.size w' w'') :
    Calls Tryz.prog 34 #[.pointer (some ⟨g,0,none⟩)] w fun e w'=>e = .returned (.string ⟨(gV (yA zO I) ++ sb).toArray⟩) ∧ Below w.heap.size w w':=by
  have h : x7 w g t b (yA zO I) (.iface 105 (.pointer (some ⟨gs,0,none⟩))):=⟨h0.blk,xA.congr h0.ids (fun x=>(xL xP).symm)⟩
  have hr : Ris zO (yA zO I):=xB xP _;have hO : (yA zO I).length ≤ 1000000:=Nat.le_trans (yS I) hn;obtain ⟨O,hOe⟩ : ∃ O,yA zO I = O:=⟨_,rfl⟩
  rw [hOe] at h hr hO;rw [hOe];clear hOe h0 hn;have hc1:=h.cell1;go_enter Tryz.func34,Tryz.ntmps34
  (go_wp2_with fail);refine (qL w g b hc1).mono ?_;rintro e w1 ⟨rfl,rfl⟩;(go_wp2_with fail);refine (XC w g t b O _ h hr hO).mono ?_;rintro e w2 ⟨IA,ic,rfl,hIo,hb02⟩;have hIs : SlR w2 IA O.length 32 (O.map idC):=hIo.slr;have hIb : ∀ x ∈ blk IA,x < w2.heap.size:=fun x hx=>(hIo.at_base hx).2;clear hc1 hIo;(go_wp2_with fail);refine (pQ w2).mono ?_;rintro e w3 ⟨rfl,hw3,hb3⟩;have hIs3:=hIs.below hb3;obtain ⟨gw,hgw⟩ : ∃ gw,w2.heap.size = gw:=⟨_,rfl⟩
  have hb03:=yN hb02 hb3;rw [hgw] at hw3 hIb ⊢;have hg3:=hw3.lt;have hszw : w.heap.size ≤ gw:=by have:=hb02.size;omega
  clear hIs hb3 hgw;(go_wp2_with fail);refine (gR _ _ _ _ _ _ hw3 O.length 4 (by omega) (by omega) (by simp)).mono ?_;rintro e W3 ⟨rfl,AW,capW,hwW,hkW,hsubW⟩;simp only [List.nil_append] at hwW;have hid : SlR W3 IA O.length 32 (O.map idC):=hIs3.kept hkW (fun x hx=>by have:=hIb x hx;simp [blk];omega);have hbF : Below w.heap.size w W3:=hb03.trans (hkW.below (by have:=hb03.size;omega) (by simp [blk];omega));have hAbW : ∀ x ∈ blk AW,gw < x:=fun x hx=>(by have:=(hwW.own.at_base hx).1;omega);have hdis : ∀ x ∈ blk IA,x ∉ gw :: blk AW:=fun x hx hm=>by
    have:=hIb x hx;rcases List.mem_cons.1 hm with e | hm
    · omega
    · have:=hAbW x hm;omega
  have hbF2 : ∀ w',zC (gw :: blk AW) W3 w' → Below w.heap.size w w':=fun w' hk=>hbF.trans (hk.below (by have:=hbF.size;omega) (fun x hx=>by
    rcases List.mem_cons.1 hx with rfl | hx
    · omega
    · have:=hAbW x hx;omega))
  have HbF:=Lib.hid hbF2;have hpl : (beL 4 O.length).length ≤ 200000000:=by rw [yC];omega
  obtain ⟨pre,hpre⟩ : ∃ pre,beL 4 O.length = pre:=⟨_,rfl⟩
  rw [hpre] at hwW hpl;have Hpre:=Lib.hid hpre;obtain ⟨S,hS⟩ : ∃ S,S = O:=⟨_,rfl⟩
  obtain ⟨Bw,hBw⟩ : ∃ Bw,Bw = gw + 1:=⟨_,rfl⟩
  have hBw2 : gw < Bw:=by omega
  rw [← hS] at hid hO Hpre;have hI2 : (Value.slice IA O.length ic) = .slice IA S.length ic:=by rw [hS]
  rw [← hBw] at hwW;have HS:=Lib.hid hS;rw [hI2];clear hpre hbF hbF2 hS hBw hkW hsubW hAbW hIs3 hb03 hb02 hw3 hg3 hIb hr hI2;(go_wp2_with fail);go_loopw [19] (fun i wr=>∃ k : Nat,k ≤ S.length ∧ i = .int .i64 (k : Nat) ∧ vL W3 Bw gw AW (pre ++ (S.take k).flatMap zK.l) wr) (fun i _=>S.length - (intOf i).toNat)
  case atStart=>exact ⟨0,Nat.zero_le _,rfl,AW,capW,by simpa using hwW,zC.refl _ _,fun x hx=>.inl hx⟩
  case round =>
    obtain ⟨k,hk,rfl,A4,cap4,hw4,hk4,hsub4⟩:=hrel;by_cases hlt : k < S.length
    · have hLr:=(show SlR W3 IA S.length 32 (S.map idC) from hid).kept hk4 hdis;obtain ⟨q,o,rfl,hr⟩:=y4.get hLr hlt hlt;have htk : (S.take (k + 1)).flatMap zK.l = (S.take k).flatMap zK.l ++ (S[k]).l:=by rw [List.take_add_one,List.getElem?_eq_getElem hlt,List.flatMap_append];simp only [Option.toList_some,List.flatMap_cons,List.flatMap_nil,List.append_nil]
      have hbl:=xC zK.l 32 (S.take k) (fun x hx=>by rw [x.h];exact Nat.le_refl _);have htl : (S.take k).length = k:=by simp;omega
      rw [htl] at hbl;obtain ⟨x,hx⟩ : ∃ x,S[k]'hlt = x:=⟨_,rfl⟩
      rw [hx] at hr htk;have Htk:=Lib.hid htk;clear hx htk hLr htl;have hbl0 : (pre ++ (S.take k).flatMap zK.l).length ≤ 300000000:=by rw [List.length_append];omega
      obtain ⟨bs0,hbs0⟩ : ∃ bs0,pre ++ (S.take k).flatMap zK.l = bs0:=⟨_,rfl⟩
      have Hbs0:=Lib.hid hbs0;rw [hbs0] at hw4 hbl0;clear hbs0 hbl;have hb5 : Below wr.heap.size wr (wr.alloc (.cells (idC x) 39)):=(Below.refl _ _).alloc (Nat.le_refl _) _;have hw5:=hw4.below hb5;have hk5 : zC [] wr (wr.alloc (.cells (idC x) 39)):=zC.alloc _ _;have hbox : zF (wr.alloc (.cells (idC x) 39)) wr.heap.size 0 32 = some (idC x):=by simp [go_sem]
      have hconv : ∀ c,(convert 37 9 (.slice (some ⟨wr.heap.size,0,none⟩) 32 c)).run Tryz.prog (wr.alloc (.cells (idC x) 39)) = .ok (.string ⟨x.l.toArray⟩) (wr.alloc (.cells (idC x) 39)):=fun c=>jV hbox;have e3 : (⟨x.l.toArray⟩ : ByteArray).size = 32:=by show x.l.toArray.size = 32;simp [x.h]
      have e4 : (⟨x.l.toArray⟩ : ByteArray).data.toList = x.l:=by simp
      have cw:=fO _ Bw gw A4 cap4 bs0 hw5 ⟨x.l.toArray⟩ (by rw [e3];omega);rw [e4] at cw;clear e3 e4 hbox;(go_wp2_with fail);refine cw.mono ?_;rintro e w6 ⟨rfl,hst⟩;have hst2:=y9 hw4 hk4 hsub4 (y9 hw5 (hk5.mono (S':=gw :: blk A4) (by simp)) (fun x hx=>.inl hx) hst);rw [← Hbs0.out,List.append_assoc,← Htk.out] at hst2;have Hst:=Lib.hid hst2;clear hst hst2 hconv cw hb5 hw5 hk5 hw4 hk4 hsub4;(go_wp2_with fail);go_roundw
      case rel=>exact ⟨k + 1,by omega,by go_num,Hst.out⟩
      case measure=>simp [intOf];omega
    · have hkL : S.take k = S:=List.take_of_length_le (by omega);rw [hkL] at hw4;clear hkL;have hbr : Below w.heap.size w wr:=HbF.out _ hk4;have hV5:=h.below hbr;have hc2:=hV5.cell2;have cs:=c wr hbr;have hpl2 : (pre ++ S.flatMap zK.l).length ≤ 300000000:=by
        have:=xC zK.l 32 S (fun x _=>by rw [x.h];exact Nat.le_refl _);rw [List.length_append];omega
      obtain ⟨p1,hp1⟩ : ∃ p1,pre ++ S.flatMap zK.l = p1:=⟨_,rfl⟩
      have Hp1:=Lib.hid hp1;rw [hp1] at hw4 hpl2;clear hp1 hk4 hsub4;(go_wp2_with fail);refine cs.mono ?_;rintro e w6 ⟨rfl,hb6⟩;have hw6:=hw4.below hb6;have es : (⟨sb.toArray⟩ : ByteArray).size = sb.length:=by show sb.toArray.size = _;simp
      have es2 : (⟨sb.toArray⟩ : ByteArray).data.toList = sb:=by simp
      have cw:=fO _ _ _ _ _ _ hw6 ⟨sb.toArray⟩ (by rw [es];omega);rw [es2] at cw;have hb06:=yN hbr hb6;have hAb6 : ∀ x ∈ blk A4,gw < x:=fun x hx=>(by have:=(hw4.own.at_base hx).1;omega);clear es es2 hw4 hb6 hc2 hV5 cs;(go_wp2_with fail);refine cw.mono ?_;rintro e w7 ⟨rfl,A7,cap7,hw7,hk7,hsub7⟩;have hb07 : Below w.heap.size w w7:=hb06.trans (hk7.below (by have:=hb06.size;omega) (fun x hx=>by
        rcases List.mem_cons.1 hx with rfl | hx
        · omega
        · have:=hAb6 x hx;omega))
      clear hk7 hsub7;(go_wp2_with fail);refine (uX _ _ _ _ _ _ hw7).mono ?_;rintro e w' ⟨rfl,rfl⟩;(go_wp2_with fail);go_ret;exact ⟨kT (by rw [← Hp1.out,← Hpre.out,HS.out];simp [gV,List.append_assoc]),hb07⟩
set_option maxRecDepth 100000 in
set_option maxHeartbeats 4000000 in
theorem vput_s (w : World) (g : Nat) (t : ByteArray) (b : Nat) (I : List zK) (gs : Nat) (sb : List UInt8) (h0 : x7 w g t b I (.iface 106 (.pointer (some ⟨gs,0,none⟩)))) (hn : I.length ≤ 1000000) (hsb : sb.length ≤ 100000000)
    (c : ∀ w',Below w.heap.size w w' → Calls Tryz.prog 346 #[.pointer (some ⟨gs,0,none⟩)] w' fun e w''=>e = .returned (.string ⟨sb.toArray⟩) ∧ Below w'.heap.size w' w'') :
    Calls Tryz.prog 34 #[.pointer (some ⟨g,0,none⟩)] w fun e w'=>e = .returned (.string ⟨(gV (yA zO I) ++ sb).toArray⟩) ∧ Below w.heap.size w w':=by
  have h : x7 w g t b (yA zO I) (.iface 106 (.pointer (some ⟨gs,0,none⟩))):=⟨h0.blk,xA.congr h0.ids (fun x=>(xL xP).symm)⟩
  have hr : Ris zO (yA zO I):=xB xP _;have hO : (yA zO I).length ≤ 1000000:=Nat.le_trans (yS I) hn;obtain ⟨O,hOe⟩ : ∃ O,yA zO I = O:=⟨_,rfl⟩
  rw [hOe] at h hr hO;rw [hOe];clear hOe h0 hn;have hc1:=h.cell1;go_enter Tryz.func34,Tryz.ntmps34
  (go_wp2_with fail);refine (qL w g b hc1).mono ?_;rintro e w1 ⟨rfl,rfl⟩;(go_wp2_with fail);refine (XC w g t b O _ h hr hO).mono ?_;rintro e w2 ⟨IA,ic,rfl,hIo,hb02⟩;have hIs : SlR w2 IA O.length 32 (O.map idC):=hIo.slr;have hIb : ∀ x ∈ blk IA,x < w2.heap.size:=fun x hx=>(hIo.at_base hx).2;clear hc1 hIo;(go_wp2_with fail);refine (pQ w2).mono ?_;rintro e w3 ⟨rfl,hw3,hb3⟩;have hIs3:=hIs.below hb3;obtain ⟨gw,hgw⟩ : ∃ gw,w2.heap.size = gw:=⟨_,rfl⟩
  have hb03:=yN hb02 hb3;rw [hgw] at hw3 hIb ⊢;have hg3:=hw3.lt;have hszw : w.heap.size ≤ gw:=by have:=hb02.size;omega
  clear hIs hb3 hgw;(go_wp2_with fail);refine (gR _ _ _ _ _ _ hw3 O.length 4 (by omega) (by omega) (by simp)).mono ?_;rintro e W3 ⟨rfl,AW,capW,hwW,hkW,hsubW⟩;simp only [List.nil_append] at hwW;have hid : SlR W3 IA O.length 32 (O.map idC):=hIs3.kept hkW (fun x hx=>by have:=hIb x hx;simp [blk];omega);have hbF : Below w.heap.size w W3:=hb03.trans (hkW.below (by have:=hb03.size;omega) (by simp [blk];omega));have hAbW : ∀ x ∈ blk AW,gw < x:=fun x hx=>(by have:=(hwW.own.at_base hx).1;omega);have hdis : ∀ x ∈ blk IA,x ∉ gw :: blk AW:=fun x hx hm=>by
    have:=hIb x hx;rcases List.mem_cons.1 hm with e | hm
    · omega
    · have:=hAbW x hm;omega
  have hbF2 : ∀ w',zC (gw :: blk AW) W3 w' → Below w.heap.size w w':=fun w' hk=>hbF.trans (hk.below (by have:=hbF.size;omega) (fun x hx=>by
    rcases List.mem_cons.1 hx with rfl | hx
    · omega
    · have:=hAbW x hx;omega))
  have HbF:=Lib.hid hbF2;have hpl : (beL 4 O.length).length ≤ 200000000:=by rw [yC];omega
  obtain ⟨pre,hpre⟩ : ∃ pre,beL 4 O.length = pre:=⟨_,rfl⟩
  rw [hpre] at hwW hpl;have Hpre:=Lib.hid hpre;obtain ⟨S,hS⟩ : ∃ S,S = O:=⟨_,rfl⟩
  obtain ⟨Bw,hBw⟩ : ∃ Bw,Bw = gw + 1:=⟨_,rfl⟩
  have hBw2 : gw < Bw:=by omega
  rw [← hS] at hid hO Hpre;have hI2 : (Value.slice IA O.length ic) = .slice IA S.length ic:=by rw [hS]
  rw [← hBw] at hwW;have HS:=Lib.hid hS;rw [hI2];clear hpre hbF hbF2 hS hBw hkW hsubW hAbW hIs3 hb03 hb02 hw3 hg3 hIb hr hI2;(go_wp2_with fail);go_loopw [19] (fun i wr=>∃ k : Nat,k ≤ S.length ∧ i = .int .i64 (k : Nat) ∧ vL W3 Bw gw AW (pre ++ (S.take k).flatMap zK.l) wr) (fun i _=>S.length - (intOf i).toNat)
  case atStart=>exact ⟨0,Nat.zero_le _,rfl,AW,capW,by simpa using hwW,zC.refl _ _,fun x hx=>.inl hx⟩
  case round =>
    obtain ⟨k,hk,rfl,A4,cap4,hw4,hk4,hsub4⟩:=hrel;by_cases hlt : k < S.length
    · have hLr:=(show SlR W3 IA S.length 32 (S.map idC) from hid).kept hk4 hdis;obtain ⟨q,o,rfl,hr⟩:=y4.get hLr hlt hlt;have htk : (S.take (k + 1)).flatMap zK.l = (S.take k).flatMap zK.l ++ (S[k]).l:=by rw [List.take_add_one,List.getElem?_eq_getElem hlt,List.flatMap_append];simp only [Option.toList_some,List.flatMap_cons,List.flatMap_nil,List.append_nil]
      have hbl:=xC zK.l 32 (S.take k) (fun x hx=>by rw [x.h];exact Nat.le_refl _);have htl : (S.take k).length = k:=by simp;omega
      rw [htl] at hbl;obtain ⟨x,hx⟩ : ∃ x,S[k]'hlt = x:=⟨_,rfl⟩
      rw [hx] at hr htk;have Htk:=Lib.hid htk;clear hx htk hLr htl;have hbl0 : (pre ++ (S.take k).flatMap zK.l).length ≤ 300000000:=by rw [List.length_append];omega
      obtain ⟨bs0,hbs0⟩ : ∃ bs0,pre ++ (S.take k).flatMap zK.l = bs0:=⟨_,rfl⟩
      have Hbs0:=Lib.hid hbs0;rw [hbs0] at hw4 hbl0;clear hbs0 hbl;have hb5 : Below wr.heap.size wr (wr.alloc (.cells (idC x) 39)):=(Below.refl _ _).alloc (Nat.le_refl _) _;have hw5:=hw4.below hb5;have hk5 : zC [] wr (wr.alloc (.cells (idC x) 39)):=zC.alloc _ _;have hbox : zF (wr.alloc (.cells (idC x) 39)) wr.heap.size 0 32 = some (idC x):=by simp [go_sem]
      have hconv : ∀ c,(convert 37 9 (.slice (some ⟨wr.heap.size,0,none⟩) 32 c)).run Tryz.prog (wr.alloc (.cells (idC x) 39)) = .ok (.string ⟨x.l.toArray⟩) (wr.alloc (.cells (idC x) 39)):=fun c=>jV hbox;have e3 : (⟨x.l.toArray⟩ : ByteArray).size = 32:=by show x.l.toArray.size = 32;simp [x.h]
      have e4 : (⟨x.l.toArray⟩ : ByteArray).data.toList = x.l:=by simp
      have cw:=fO _ Bw gw A4 cap4 bs0 hw5 ⟨x.l.toArray⟩ (by rw [e3];omega);rw [e4] at cw;clear e3 e4 hbox;(go_wp2_with fail);refine cw.mono ?_;rintro e w6 ⟨rfl,hst⟩;have hst2:=y9 hw4 hk4 hsub4 (y9 hw5 (hk5.mono (S':=gw :: blk A4) (by simp)) (fun x hx=>.inl hx) hst);rw [← Hbs0.out,List.append_assoc,← Htk.out] at hst2;have Hst:=Lib.hid hst2;clear hst hst2 hconv cw hb5 hw5 hk5 hw4 hk4 hsub4;(go_wp2_with fail);go_roundw
      case rel=>exact ⟨k + 1,by omega,by go_num,Hst.out⟩
      case measure=>simp [intOf];omega
    · have hkL : S.take k = S:=List.take_of_length_le (by omega);rw [hkL] at hw4;clear hkL;have hbr : Below w.heap.size w wr:=HbF.out _ hk4;have hV5:=h.below hbr;have hc2:=hV5.cell2;have cs:=c wr hbr;have hpl2 : (pre ++ S.flatMap zK.l).length ≤ 300000000:=by
        have:=xC zK.l 32 S (fun x _=>by rw [x.h];exact Nat.le_refl _);rw [List.length_append];omega
      obtain ⟨p1,hp1⟩ : ∃ p1,pre ++ S.flatMap zK.l = p1:=⟨_,rfl⟩
      have Hp1:=Lib.hid hp1;rw [hp1] at hw4 hpl2;clear hp1 hk4 hsub4;(go_wp2_with fail);refine cs.mono ?_;rintro e w6 ⟨rfl,hb6⟩;have hw6:=hw4.below hb6;have es : (⟨sb.toArray⟩ : ByteArray).size = sb.length:=by show sb.toArray.size = _;simp
      have es2 : (⟨sb.toArray⟩ : ByteArray).data.toList = sb:=by simp
      have cw:=fO _ _ _ _ _ _ hw6 ⟨sb.toArray⟩ (by rw [es];omega);rw [es2] at cw;have hb06:=yN hbr hb6;have hAb6 : ∀ x ∈ blk A4,gw < x:=fun x hx=>(by have:=(hw4.own.at_base hx).1;omega);clear es es2 hw4 hb6 hc2 hV5 cs;(go_wp2_with fail);refine cw.mono ?_;rintro e w7 ⟨rfl,A7,cap7,hw7,hk7,hsub7⟩;have hb07 : Below w.heap.size w w7:=hb06.trans (hk7.below (by have:=hb06.size;omega) (fun x hx=>by
        rcases List.mem_cons.1 hx with rfl | hx
        · omega
        · have:=hAb6 x hx;omega))
      clear hk7 hsub7;(go_wp2_with fail);refine (uX _ _ _ _ _ _ hw7).mono ?_;rintro e w' ⟨rfl,rfl⟩;(go_wp2_with fail);go_ret;exact ⟨kT (by rw [← Hp1.out,← Hpre.out,HS.out];simp [gV,List.append_assoc]),hb07⟩
def stB : VSt → List UInt8
  | .t n=>d7 n
  | .b L G=>pX L G
  | .l L=>dW L
  | .m X O=>dV X O
  | .s N G=>gO N G
def YQ (I : List zK) (s : VSt) : List UInt8:=gV (yA zO I) ++ stB s
def VSt.big : VSt → Nat
  | .t _=>0
  | .b L G=>L.length + G.length
  | .l L=>L.length
  | .m X O=>X.length + O.length
  | .s N G=>N.length + G.length
theorem tN (O : List zK) : (gV O).length ≤ 4 + 32 * O.length:=by
  have:=xC zK.l 32 O (fun x _=>by rw [x.h];exact Nat.le_refl _);unfold gV;rw [List.length_append,yC];omega
def VSt.ris : VSt → Prop
  | .s _ G=>Ris zO G
  | _=>True
theorem JD (w : World) (g : Nat) (t : ByteArray) (b : Nat) (O : List Nat) (I : List zK) (v : Value) (s : VSt) (h : VAt w g t b O I v s) (hn : I.length ≤ 1000000) (hs : s.big ≤ 500000) (hr : s.ris) :
    Calls Tryz.prog 34 #[.pointer (some ⟨g,0,none⟩)] w fun e w'=>e = .returned (.string ⟨(YQ I s).toArray⟩) ∧ Below w.heap.size w w':=by
  have hv:=h.view;have hst:=fun w' (hb : Below w.heap.size w w')=>h.st.below hb;cases s with
  | t n =>
    obtain ⟨gs,rfl,h1,_⟩:=h.st;exact vput_t w g t b I gs (d7 n) hv hn (by unfold d7;rw [List.length_append,yC,yC];omega) (fun w' hb=>tput w' gs n (h1.kept (zC.of_below hb) (by simp)))
  | b L G =>
    obtain ⟨gs,bl,bg,rfl,h1,_⟩:=h.st;have hb1 : L.length + G.length ≤ 500000:=hs;have z1:=bB h1.smL;have z2:=bB h1.smG;exact vput_b w g t b I gs (pX L G) hv hn (by unfold pX;rw [List.length_append];omega) (fun w' hb=>bput w' gs bl bg L G (h1.below hb) (by omega) (by omega))
  | l L =>
    obtain ⟨gs,bl,rfl,h1,_⟩:=h.st;have hb1 : L.length ≤ 500000:=hs;have z1:=gK L h1.rows.2;exact vput_l w g t b I gs (dW L) hv hn (by unfold dW;rw [List.length_append,yC];omega) (fun w' hb=>lput w' gs bl L (h1.below hb) (by omega))
  | m X Ov =>
    obtain ⟨gs,bl,bo,rfl,h1,_⟩:=h.st;have hb1 : X.length + Ov.length ≤ 500000:=hs;have z1:=xC vI 66 X (fun x hx=>by rw [lD];have:=h1.sm x hx;unfold bX at this;omega);have z2:=tN Ov;exact vput_m w g t b I gs (dV X Ov) hv hn (by unfold dV;rw [List.length_append,List.length_append,yC];omega) (fun w' hb=>K3 w' gs bl bo X Ov (h1.below hb) (by omega) (by omega))
  | s N G =>
    obtain ⟨gs,bn,bb,bg,rfl,h1,_⟩:=h.st;have hb1 : N.length + G.length ≤ 500000:=hs;have z0:=f9 N;have z1:=xC vD 85 (vH N) (fun x hx=>by rw [lH];have:=kV (h1.ok x (fH.1 hx));omega);have z2:=tN G;exact vput_s w g t b I gs (gO N G) hv hn (by unfold gO;rw [List.length_append,List.length_append,yC];omega) (fun w' hb=>sqput w' _ gs bn bb bg N G (h1.below hb) hr (by omega) (by omega))
theorem vtopic (w : World) (g : Nat) (t : ByteArray) (b : Nat) (I : List zK) (v : Value) (h : x7 w g t b I v) :
    Calls Tryz.prog 37 #[.pointer (some ⟨g,0,none⟩)] w fun e w'=>e = .returned (.string t) ∧ w = w':=by
  have h0:=h.cell0;have h1:=h.cell1;clear h;go_enter Tryz.func37,Tryz.ntmps37
  (go_wp2_with fail);refine (qL w g b h1).mono ?_;rintro e w1 ⟨rfl,rfl⟩;(go_wp2_with fail);go_ret;exact ⟨rfl,rfl⟩
theorem doS_big (m : yR) (o : OpV) (s : VSt) (ho : o.refs.length ≤ 8) : (doS m o s).big ≤ s.big + 9:=by
  cases s with
  | t n=>exact Nat.zero_le _
  | b L G =>
    by_cases h : o.k = 2
    · rw [nZ m o L G h];show (uH L G ⟨m.id,o.val⟩).length + G.length ≤ L.length + G.length + 9;unfold uH;have:=jC (c:=yI) L ⟨m.id,o.val⟩
      repeat' split
      all_goals omega
    · rw [nY m o L G h];show (dJ L o.val o.refs).length + (dK G o.val o.refs).length ≤ L.length + G.length + 9;have h1:=n0 o.val o.refs L;have h2 : ∀ (T : List zK) (G : List yT),(dK G o.val T).length ≤ G.length + T.length:=by
        intro T;induction T with
        | nil=>intro G;exact Nat.le_refl _
        | cons x T ih=>intro G;have h3:=ih (xJ yI G ⟨x,o.val⟩);have h4:=jC (c:=yI) G ⟨x,o.val⟩;unfold dK at h3 ⊢;simp only [List.foldl_cons,List.length_cons];omega
      have h3:=h2 o.refs G;omega
  | l L=>exact Nat.le_trans (m4 _ _ _) (by show L.length + 1 ≤ L.length + 9;omega)
  | m X Ov =>
    show (pW X Ov ⟨m.id,o.key,o.val⟩ o.refs).length + (dM Ov o.refs).length ≤ X.length + Ov.length + 9;have h1 : (pW X Ov ⟨m.id,o.key,o.val⟩ o.refs).length ≤ X.length + 1:=by
      unfold pW g4;exact Nat.le_trans (List.length_filter_le _ _) (jC (c:=qN) X _)
    have h2 : ∀ (T G : List zK),(dM G T).length ≤ G.length + T.length:=by
      intro T;induction T with
      | nil=>intro G;exact Nat.le_refl _
      | cons x T ih=>intro G;have h3:=ih (xJ zO G x);have h4:=jC (c:=zO) G x;unfold dM at h3 ⊢;simp only [List.foldl_cons,List.length_cons];omega
    have h3:=h2 o.refs Ov;omega
  | s N G =>
    by_cases h : o.k = 6
    · rw [nW m o N G h];show (tZ N ⟨m.id,m.h,o.ref,o.val⟩).length + G.length ≤ N.length + G.length + 9;unfold tZ;repeat' split
      all_goals simp
      all_goals omega
    · rw [nV m o N G h];have:=jC (c:=zO) G o.ref;show N.length + (xJ zO G o.ref).length ≤ N.length + G.length + 9;omega
theorem QL (t : ByteArray) (m : yR) (s : VSt) : (g8 t m s).big ≤ s.big + 9:=by
  unfold g8;split
  · rename_i h;exact doS_big _ _ _ (dP _ h.1).2.2.2.2.2.1
  · omega
theorem doS_ris (m : yR) (o : OpV) (s : VSt) (h : s.ris) : (doS m o s).ris:=by
  cases s with
  | s N G =>
    by_cases hk : o.k = 6
    · rw [nW m o N G hk];exact h
    · rw [nV m o N G hk];exact jP xP h
  | b L G =>
    by_cases hk : o.k = 2
    · rw [nZ m o L G hk];trivial
    · rw [nY m o L G hk];trivial
  | t n=>trivial
  | l L=>trivial
  | m X Ov=>trivial
theorem QJ (t : ByteArray) (m : yR) (s : VSt) (h : s.ris) : (g8 t m s).ris:=by
  unfold g8;split
  · exact doS_ris _ _ _ h
  · exact h
end
section
open Go.RowKit
theorem Y2 (Z : List xT) (k : Nat) (hk : k < Z.length) : jY (Z.take (k + 1)) = xJ xK (jY (Z.take k)) (m6 Z[k]):=by
  unfold jY;rw [List.take_add_one,List.getElem?_eq_getElem hk,Option.toList_some,List.map_append,List.map_cons,List.map_nil,kF]
theorem YA (x y : j3) : xK x y < 0 ↔ xS x.key y.key < 0 ∨ (x.key = y.key ∧ xS x.val y.val < 0):=by
  unfold xK;rw [orL2,cP,fL]
set_option maxRecDepth 100000 in
set_option maxHeartbeats 4000000 in
theorem rmlist (w : World) (g : Nat) (X : List xT) (G : List zK) (h : RefM w g 6 X G) (hX : X.length ≤ 100000) (hG : G.length ≤ 100000) :
    Calls Tryz.prog 76 #[.pointer (some ⟨g,6,none⟩)] w fun e w'=>∃ A n cap,e = .returned (.slice A n cap) ∧ Own w' w.heap.size 98 2 A n cap ((jY (lvM X G)).map zV) ∧ Below w.heap.size w w':=by
  have c1:=VF w g X G h hX hG;have hll:=cU X G;obtain ⟨Z,hZ⟩ : ∃ Z,lvM X G = Z:=⟨_,rfl⟩
  rw [hZ] at c1 hll ⊢;clear hZ h;go_enter Tryz.func76,Tryz.ntmps76
  (go_wp2_with fail);refine c1.mono ?_;rintro e w1 ⟨RA,nz,rc,rfl,hrow,hb1⟩;have hslZ : vY w1 RA nz Z:=hrow.slr;have hnz : Z.length = nz:=hslZ.len;have Hnz:=Lib.hid hnz;have hnz1 : nz ≤ 100000:=by omega
  clear hrow c1 hnz;(go_wp2_with fail);go_loopw [3,5] (fun out i wr=>∃ (k : Nat) (A1 : Option Addr) (n1 cap1 : Nat),k ≤ nz ∧ i = .int .i64 k ∧ out = .slice A1 n1 cap1 ∧ Own wr w1.heap.size 98 2 A1 n1 cap1 ((jY (Z.take k)).map zV) ∧ Below w1.heap.size w1 wr) (fun _ i _=>nz - (intOf i).toNat)
  case atStart=>exact ⟨0,none,0,0,Nat.zero_le _,rfl,rfl,Own.nil _ _ _ _,Below.refl _ _⟩
  case round =>
    obtain ⟨k,A1,n,cap1,hk,rfl,rfl,hown,hb⟩:=hrel;by_cases hlt : k < nz
    · have hltZ : k < Z.length:=by rw [Hnz.out];exact hlt
      obtain ⟨q,o,rfl,_,_,hk0,hv0⟩:=vY.get (SlR.below hslZ hb) hlt hltZ;have htk:=Y2 Z k hltZ;have hOl : (jY (Z.take k)).length = n:=by simpa using hown.len
      have hol : n ≤ 100000:=by have:=rT (Z.take k);simp at this;omega
      have hris : Ris xK (jY (Z.take k)):=xB vT _;obtain ⟨O,hO⟩ : ∃ O,jY (Z.take k) = O:=⟨_,rfl⟩
      obtain ⟨⟨xi,xk,xv⟩,hx⟩ : ∃ x,Z[k]'hltZ = x:=⟨_,rfl⟩
      rw [hx] at hk0 hv0 htk;rw [hO] at htk hown hris hOl;dsimp only at hk0 hv0;have htk' : jY (Z.take (k + 1)) = xJ xK O ⟨xk,xv⟩:=htk;have Htk:=Lib.hid htk';have Hlen:=Lib.hid hOl;have Hris:=Lib.hid hris;clear hx hO htk htk' hOl hris;have hszr:=hb.size;go_upto_region 6 with fail
      refine qQ (Kp [] wr) false (by kernel_rfl) (by kernel_rfl) (by kernel_rfl) (by kernel_rfl) (yB [] wr) ?_;have hne:=xD [] wr;have hS:=yB [] wr;have b1:=zZ hk0 (S:=[]) (by simp);have b2:=zZ hv0 (S:=[]) (by simp);repeat (refine zB ?_ ?_;(focus (simp only [zA];done));intro K hK;go_simp;refine hK _ ?_;clear hK K)
      refine zH ?_ ?_ ?_;(focus (exact hS));(focus (simp only [zA];done));intro K hK;go_simp;refine zY (zC.trans (zC.trans (zC.refl [] wr) (zC.drew _) (by simp)) (zC.alloc _ _) (by simp)) (fun hS2=>?_);refine hK _ _ ?_;clear hK K;repeat (refine zB ?_ ?_;(focus (simp only [zA];done));intro K hK;go_simp;refine hK _ ?_;clear hK K)
      have hst : (stS 98 ⟨wr.heap.size,0,none⟩ (.agg (zV ⟨xk,xv⟩))).run Tryz.prog (wr.alloc (.cells (zV fY) 98)).drew = .ok () (wr.alloc (.cells (zV ⟨xk,xv⟩) 98)).drew:=pU wr.drew wr.heap.size rfl (zV fY) (kH _) ⟨xk,xv⟩ 98;refine kR ?_ ?_;(focus (simp only [zA];done));intro K hK;go_simp;refine hK _ _ ?_;clear hK K hst;have hbx : Below wr.heap.size wr (wr.alloc (.cells (zV ⟨xk,xv⟩) 98)).drew:=((Below.refl _ _).alloc (Nat.le_refl _) _).drew;have hown1:=hown.below hbx;have hb1r : Below w1.heap.size w1 (wr.alloc (.cells (zV ⟨xk,xv⟩) 98)).drew:=hb.trans (hbx.mono hszr);have hrx1 : zF (wr.alloc (.cells (zV ⟨xk,xv⟩) 98)).drew wr.heap.size 0 2 = some (zV ⟨xk,xv⟩):=by
        show zF (wr.alloc (.cells (zV ⟨xk,xv⟩) 98)) wr.heap.size 0 2 = _;simp [go_sem]
      clear hS hS2 hne b1 b2 hown hb hbx hk0 hv0 hszr;obtain ⟨d,hd⟩ : ∃ d : j3,d = ⟨xk,xv⟩:=⟨_,rfl⟩
      rw [← hd] at hrx1 hown1 hb1r Htk ⊢;have hdk : d.key = xk:=by rw [hd]
      have hdv : d.val = xv:=by rw [hd]
      clear hd hdk hdv;obtain ⟨gx,hgx⟩ : ∃ gx,wr.heap.size = gx:=⟨_,rfl⟩
      generalize (wr.alloc (.cells (zV d) 98)).drew = V at *;rw [hgx] at hrx1 ⊢;clear hgx;have hsw2:=hown1.slw;(go_wp2_with fail);go_loopw [7] (fun j wj=>∃ m : Nat,m ≤ n ∧ j = .int .i64 m ∧ Hid (∀ i (hi : i < O.length),i < m → xK O[i] d < 0) ∧ Below V.heap.size V wj) (fun j _=>n - (intOf j).toNat)
      case atStart=>exact ⟨0,Nat.zero_le _,rfl,(show ∀ i (hi : i < O.length),i < 0 → _ from fun i _ h=>absurd h (by omega)),Below.refl _ _⟩
      case round =>
        obtain ⟨m,hmO,rfl,hlow,hbj⟩:=hrel;have hrj : zF wr gx 0 2 = some (zV d):=(zI (hbj.block gx (zL hrx1)) _ _).trans hrx1;have hd0 : wr.cell? ⟨gx,0,none⟩ = some (.string d.key):=by have:=zD hrj (j:=0) (by omega);rwa [tJ] at this
        have hd1 : wr.cell? ⟨gx,1,none⟩ = some (.string d.val):=by have:=zD hrj (j:=1) (by omega);rwa [nD] at this
        have hswj:=hsw2.below hbj;by_cases hmlt : m < n
        · obtain ⟨q2,o2,rfl,hrO,hy0,hy1⟩:=v4.get hswj.rd hmlt (by rw [Hlen.out];exact hmlt);have hmem : O[m]'(by rw [Hlen.out];exact hmlt) ∈ O:=List.getElem_mem _;obtain ⟨y,hy⟩ : ∃ y,O[m]'(by rw [Hlen.out];exact hmlt) = y:=⟨_,rfl⟩
          rw [hy] at hrO hmem hy0 hy1;have Hy:=Lib.hid hy;have Hmem:=Lib.hid hmem;clear hy hmem;have hclt:=YA y d;have hs1:=kB y.key d.key;have hs2:=kB y.val d.val;have hse : (y.key.toList == d.key.toList) = decide (y.key = d.key):=by rw [Bool.eq_iff_iff,beq_iff_eq,toList_inj,decide_eq_true_eq]
          obtain ⟨sk,hsk⟩ : ∃ sk,Op.bytesLess y.key.toList d.key.toList = sk:=⟨_,rfl⟩
          obtain ⟨sv,hsv⟩ : ∃ sv,Op.bytesLess y.val.toList d.val.toList = sv:=⟨_,rfl⟩
          obtain ⟨se,hsee⟩ : ∃ se,(y.key.toList == d.key.toList) = se:=⟨_,rfl⟩
          have hk' : sk = decide (xS y.key d.key < 0):=hsk.symm.trans hs1;have hv' : sv = decide (xS y.val d.val < 0):=hsv.symm.trans hs2;have he' : se = decide (y.key = d.key):=hsee.symm.trans hse;have hD : xK y d < 0 ↔ (sk = true ∨ (se = true ∧ sv = true)):=by rw [hclt,hk',hv',he'];simp only [decide_eq_true_eq]
          have HD:=Lib.hid hD;clear hclt hs1 hs2 hse hk' hv' he' hD;cases sk with
          | true =>
            have Hyx : Hid (xK y d < 0):=(show _ from HD.out.2 (.inl rfl))
            go_upto_region 8 with fail
            refine zE (Bel wr) false (by kernel_rfl) (by kernel_rfl) (by kernel_rfl) (zG wr) ?_;have hne:=zX wr;have hS:=zG wr;have b1:=zT hd0;have b2:=zT hd1;have b3:=zT hy0;have b4:=zT hy1;repeat (refine zB ?_ ?_;(focus (simp only [zA];done));intro K hK;go_simp;refine hK _ ?_;clear hK K)
            refine zN ?_;intro hS;clear b1 b2 b3 b4 hne hS;(go_wp2_with fail);go_roundw
            case rel =>
              refine ⟨m + 1,by omega,by go_num,(show ∀ i (hi : i < O.length),i < m + 1 → xK O[i] d < 0 from fun i hi hlt=>?_),hbj.drew⟩;by_cases e : i = m
              · subst e;rw [Hy.out];exact Hyx.out
              · exact hlow.out i hi (by omega)
            case measure=>simp [intOf];omega
          | false =>
            by_cases hsev : se = true ∧ sv = true
            · obtain ⟨rfl,rfl⟩:=hsev;have Hyx : Hid (xK y d < 0):=(show _ from HD.out.2 (.inr ⟨rfl,rfl⟩))
              go_upto_region 8 with fail
              refine zE (Bel wr) false (by kernel_rfl) (by kernel_rfl) (by kernel_rfl) (zG wr) ?_;have hne:=zX wr;have hS:=zG wr;have b1:=zT hd0;have b2:=zT hd1;have b3:=zT hy0;have b4:=zT hy1;repeat (refine zB ?_ ?_;(focus (simp only [zA];done));intro K hK;go_simp;refine hK _ ?_;clear hK K)
              refine zN ?_;intro hS;clear b1 b2 b3 b4 hne hS;(go_wp2_with fail);go_roundw
              case rel =>
                refine ⟨m + 1,by omega,by go_num,(show ∀ i (hi : i < O.length),i < m + 1 → xK O[i] d < 0 from fun i hi hlt=>?_),hbj.drew⟩;by_cases e : i = m
                · subst e;rw [Hy.out];exact Hyx.out
                · exact hlow.out i hi (by omega)
              case measure=>simp [intOf];omega
            · have Hyx : Hid (¬ xK y d < 0):=(show _ from fun hh=>by rcases HD.out.1 hh with h1 | h1;cases h1;exact hsev h1)
              have heqb:=kG y d;obtain ⟨eb,heb⟩ : ∃ eb,bI y d = eb:=⟨_,rfl⟩
              rw [heb] at heqb;have Heqb:=Lib.hid heqb;have Heb:=Lib.hid heb;clear heqb heb;cases se with
              | false =>
                go_upto_region 8 with fail
                refine zE (Bel wr) false (by kernel_rfl) (by kernel_rfl) (by kernel_rfl) (zG wr) ?_;have hne:=zX wr;have hS:=zG wr;have b1:=zT hd0;have b2:=zT hd1;have b3:=zT hy0;have b4:=zT hy1;repeat (refine zB ?_ ?_;(focus (simp only [zA];done));intro K hK;go_simp;refine hK _ ?_;clear hK K)
                refine zN ?_;intro hS;clear b1 b2 b3 b4 hne hS;have hrj2 : zF wr.drew gx 0 2 = some (zV d):=hrj;have hrO2 : zF wr.drew q2 (o2 + m * 2) 2 = some (zV y):=hrO;have heb:=Heb.out;go_upto_region 10 with fail
                refine zE (Bel wr.drew) false (by kernel_rfl) (by kernel_rfl) (by kernel_rfl) (zG wr.drew) ?_;have hne:=zX wr.drew;have hS:=zG wr.drew;have b1:=yD hrj2;have b2:=yD hrO2;repeat (refine zB ?_ ?_;(focus (simp only [zA];done));intro K hK;go_simp;refine hK _ ?_;clear hK K)
                refine zN ?_;intro hS;have hbz2 : Below V.heap.size V wr.drew.drew:=hbj.drew.drew;have hrx : zF wr.drew.drew gx 0 2 = some (zV d):=hrj;have hsw:=hsw2.below hbz2;have hownw:=hown1.below hbz2;have hBw:=hb1r.trans (hbz2.mono hb1r.size);clear b1 b2 hne hS hrj2 hrO2 hbz2 hrj hrO hbj heb hd0 hd1 hy0 hy1 hswj;obtain ⟨W,hW⟩ : ∃ W,wr.drew.drew = W:=⟨_,rfl⟩
                rw [hW] at hrx hsw hownw hBw ⊢;clear hW;cases eb with
                | true =>
                  have e : y = d:=Heqb.out.1 rfl;have hat:=dA vT Hris.out (x:=d) (by rw [← e];exact Hmem.out);have Hat : Hid (jY (Z.take (k + 1)) = O):=(show _ = _ by rw [Htk.out,hat])
                  clear e hat;(go_wp2_with fail);go_roundw
                  case rel=>exact ⟨k + 1,_,n,cap1,by omega,by go_num,rfl,(by rw [Hat.out];exact hownw),hBw⟩
                  case measure=>simp [intOf];omega
                | false =>
                  have e : ¬ y = d:=fun e'=>(by have:=Heqb.out.2 e';cases this);have hat:=jQ (c:=xK) O d m (by rw [Hlen.out];exact hmO) hlow.out (fun hk'=>by
                    rw [Hy.out];have h1 : xK y d ≠ 0:=fun e'=>e ((vT.zero _ _).1 e');have:=Hyx.out;omega)
                  have Hat:=Lib.hid hat;clear e hat;obtain ⟨A,hA1⟩ : ∃ A,(some ⟨q2,o2,none⟩ : Option Addr) = A:=⟨_,rfl⟩
                  rw [hA1] at hsw hownw ⊢;clear hA1;obtain ⟨cap,hcap⟩ : ∃ cap,cap = cap1:=⟨_,rfl⟩
                  rw [← hcap] at hsw hownw ⊢;clear hcap;have hBx : Below W.heap.size W (W.alloc (.cells #[] 98)):=(Below.refl _ _).alloc (Nat.le_refl _) _;have hown0:=Own.empty W W.heap.size 98 2 (Nat.le_refl _);have hlo : ∀ w0 : World,(slS 23 (.slice A n cap) none (some (.int .i64 m)) none).run Tryz.prog w0 = .ok (.slice A m cap) w0:=fun w0=>SlW.lo yL hsw hmO w0;obtain ⟨Ah,ch,hhi,hhs,hhf⟩:=hsw.hi (P:=Tryz.prog) yL (m:=m) hmO;have hslo : SlR (W.alloc (.cells #[] 98)) A m 2 ((O.map zV).take m):=(hsw.rd.below hBx).take_ hmO;have hf1:=hsw.nil;have hrone : ∀ r ∈ (O.map zV).take m,∀ u ∈ r.toList,u.oneCell' = true:=fun r hr=>(by obtain ⟨y',_,rfl⟩:=List.mem_map.1 (List.mem_of_mem_take hr);exact xU _);have hrone2 : ∀ r ∈ (O.map zV).drop m,∀ u ∈ r.toList,u.oneCell' = true:=fun r hr=>(by obtain ⟨y',_,rfl⟩:=List.mem_map.1 (List.mem_of_mem_drop hr);exact xU _);go_upto_region 12 with (at_builtin;refine yF yL rfl hown0 rfl hslo hf1 hrone (by omega) (by omega) (by simp) ?_;intro A2 cap2 w2 hown2 hk2 hsub2)
                  simp only [Nat.zero_add,List.nil_append] at hown2;have hwW : Below W.heap.size W w2:=hBx.trans (hk2.below (by simp) (by simp [blk]));have hrw2 : zF w2 gx (0) 2 = some (zV d):=(zI (hwW.block gx (zL hrx)) _ _).trans hrx;have hB3 : Below w2.heap.size w2 (w2.alloc (.cells (zV d) 98)):=(Below.refl _ _).alloc (Nat.le_refl _) _;have hown3:=hown2.below hB3;have hrow3 : zF (w2.alloc (.cells (zV d) 98)) w2.heap.size 0 2 = some (zV d):=by simp [go_sem]
                  have hsz2:=hwW.size;go_upto_region 13 with (at_builtin;refine x8 yL rfl hown3 rfl hrow3 (xU _) (by omega) (by omega) (by simp;omega) ?_;intro A4 cap4 w4 hown4 hk4 hsub4)
                  have hwW4 : Below W.heap.size W w4:=(hwW.trans (hB3.mono hsz2)).trans (hk4.below (by simp;omega) (fun x hx=>(hown2.at_base hx).1));have hs4:=hhs w4 (hsw.rd.below hwW4);have hsz4:=hwW4.size;clear hown3 hrow3 hB3 hown0 hBx hslo hrw2 hlo;go_upto_region 14 with (at_builtin;refine yF yL rfl hown4 rfl hs4 hhf hrone2 (by omega) (by omega) (by omega) ?_;intro A5 cap5 w5 hown5 hk5 hsub5)
                  have hwW5 : Below W.heap.size W w5:=hwW4.trans (hk5.below (by omega) (fun x hx=>(hown4.at_base hx).1));have hO5 : (O.map zV).take m ++ [zV d] ++ (O.map zV).drop m = (O.take m ++ d :: O.drop m).map zV:=by simp [List.map_take,List.map_drop]
                  rw [hO5] at hown5;clear hown4 hown2 hO5 hs4 hhi hhs hrone hrone2 hf1;have hBw5:=hBw.trans (hwW5.mono hBw.size);have hL5 : (O.take m ++ d :: O.drop m).length = m + 1 + (n - m):=by simp [Hlen.out];omega
                  have hOe : O.take m ++ d :: O.drop m = jY (Z.take (k + 1)):=by rw [Htk.out,Hat.out]
                  rw [hOe] at hown5 hL5;have hown6:=hown5.mono hBw.size;have HL:=Lib.hid hL5;clear hown5 hOe hL5;(go_wp2_with fail);go_roundw
                  case rel=>exact ⟨k + 1,A5,m + 1 + (n - m),cap5,by omega,by go_num,rfl,hown6,hBw5⟩
                  case measure=>simp [intOf];omega
              | true =>
                cases sv with
                | true=>exact absurd ⟨rfl,rfl⟩ hsev
                | false =>
                  go_upto_region 8 with fail
                  refine zE (Bel wr) false (by kernel_rfl) (by kernel_rfl) (by kernel_rfl) (zG wr) ?_;have hne:=zX wr;have hS:=zG wr;have b1:=zT hd0;have b2:=zT hd1;have b3:=zT hy0;have b4:=zT hy1;repeat (refine zB ?_ ?_;(focus (simp only [zA];done));intro K hK;go_simp;refine hK _ ?_;clear hK K)
                  refine zN ?_;intro hS;clear b1 b2 b3 b4 hne hS;have hrj2 : zF wr.drew gx 0 2 = some (zV d):=hrj;have hrO2 : zF wr.drew q2 (o2 + m * 2) 2 = some (zV y):=hrO;have heb:=Heb.out;go_upto_region 10 with fail
                  refine zE (Bel wr.drew) false (by kernel_rfl) (by kernel_rfl) (by kernel_rfl) (zG wr.drew) ?_;have hne:=zX wr.drew;have hS:=zG wr.drew;have b1:=yD hrj2;have b2:=yD hrO2;repeat (refine zB ?_ ?_;(focus (simp only [zA];done));intro K hK;go_simp;refine hK _ ?_;clear hK K)
                  refine zN ?_;intro hS;have hbz2 : Below V.heap.size V wr.drew.drew:=hbj.drew.drew;have hrx : zF wr.drew.drew gx 0 2 = some (zV d):=hrj;have hsw:=hsw2.below hbz2;have hownw:=hown1.below hbz2;have hBw:=hb1r.trans (hbz2.mono hb1r.size);clear b1 b2 hne hS hrj2 hrO2 hbz2 hrj hrO hbj heb hd0 hd1 hy0 hy1 hswj;obtain ⟨W,hW⟩ : ∃ W,wr.drew.drew = W:=⟨_,rfl⟩
                  rw [hW] at hrx hsw hownw hBw ⊢;clear hW;cases eb with
                  | true =>
                    have e : y = d:=Heqb.out.1 rfl;have hat:=dA vT Hris.out (x:=d) (by rw [← e];exact Hmem.out);have Hat : Hid (jY (Z.take (k + 1)) = O):=(show _ = _ by rw [Htk.out,hat])
                    clear e hat;(go_wp2_with fail);go_roundw
                    case rel=>exact ⟨k + 1,_,n,cap1,by omega,by go_num,rfl,(by rw [Hat.out];exact hownw),hBw⟩
                    case measure=>simp [intOf];omega
                  | false =>
                    have e : ¬ y = d:=fun e'=>(by have:=Heqb.out.2 e';cases this);have hat:=jQ (c:=xK) O d m (by rw [Hlen.out];exact hmO) hlow.out (fun hk'=>by
                      rw [Hy.out];have h1 : xK y d ≠ 0:=fun e'=>e ((vT.zero _ _).1 e');have:=Hyx.out;omega)
                    have Hat:=Lib.hid hat;clear e hat;obtain ⟨A,hA1⟩ : ∃ A,(some ⟨q2,o2,none⟩ : Option Addr) = A:=⟨_,rfl⟩
                    rw [hA1] at hsw hownw ⊢;clear hA1;obtain ⟨cap,hcap⟩ : ∃ cap,cap = cap1:=⟨_,rfl⟩
                    rw [← hcap] at hsw hownw ⊢;clear hcap;have hBx : Below W.heap.size W (W.alloc (.cells #[] 98)):=(Below.refl _ _).alloc (Nat.le_refl _) _;have hown0:=Own.empty W W.heap.size 98 2 (Nat.le_refl _);have hlo : ∀ w0 : World,(slS 23 (.slice A n cap) none (some (.int .i64 m)) none).run Tryz.prog w0 = .ok (.slice A m cap) w0:=fun w0=>SlW.lo yL hsw hmO w0;obtain ⟨Ah,ch,hhi,hhs,hhf⟩:=hsw.hi (P:=Tryz.prog) yL (m:=m) hmO;have hslo : SlR (W.alloc (.cells #[] 98)) A m 2 ((O.map zV).take m):=(hsw.rd.below hBx).take_ hmO;have hf1:=hsw.nil;have hrone : ∀ r ∈ (O.map zV).take m,∀ u ∈ r.toList,u.oneCell' = true:=fun r hr=>(by obtain ⟨y',_,rfl⟩:=List.mem_map.1 (List.mem_of_mem_take hr);exact xU _);have hrone2 : ∀ r ∈ (O.map zV).drop m,∀ u ∈ r.toList,u.oneCell' = true:=fun r hr=>(by obtain ⟨y',_,rfl⟩:=List.mem_map.1 (List.mem_of_mem_drop hr);exact xU _);go_upto_region 12 with (at_builtin;refine yF yL rfl hown0 rfl hslo hf1 hrone (by omega) (by omega) (by simp) ?_;intro A2 cap2 w2 hown2 hk2 hsub2)
                    simp only [Nat.zero_add,List.nil_append] at hown2;have hwW : Below W.heap.size W w2:=hBx.trans (hk2.below (by simp) (by simp [blk]));have hrw2 : zF w2 gx (0) 2 = some (zV d):=(zI (hwW.block gx (zL hrx)) _ _).trans hrx;have hB3 : Below w2.heap.size w2 (w2.alloc (.cells (zV d) 98)):=(Below.refl _ _).alloc (Nat.le_refl _) _;have hown3:=hown2.below hB3;have hrow3 : zF (w2.alloc (.cells (zV d) 98)) w2.heap.size 0 2 = some (zV d):=by simp [go_sem]
                    have hsz2:=hwW.size;go_upto_region 13 with (at_builtin;refine x8 yL rfl hown3 rfl hrow3 (xU _) (by omega) (by omega) (by simp;omega) ?_;intro A4 cap4 w4 hown4 hk4 hsub4)
                    have hwW4 : Below W.heap.size W w4:=(hwW.trans (hB3.mono hsz2)).trans (hk4.below (by simp;omega) (fun x hx=>(hown2.at_base hx).1));have hs4:=hhs w4 (hsw.rd.below hwW4);have hsz4:=hwW4.size;clear hown3 hrow3 hB3 hown0 hBx hslo hrw2 hlo;go_upto_region 14 with (at_builtin;refine yF yL rfl hown4 rfl hs4 hhf hrone2 (by omega) (by omega) (by omega) ?_;intro A5 cap5 w5 hown5 hk5 hsub5)
                    have hwW5 : Below W.heap.size W w5:=hwW4.trans (hk5.below (by omega) (fun x hx=>(hown4.at_base hx).1));have hO5 : (O.map zV).take m ++ [zV d] ++ (O.map zV).drop m = (O.take m ++ d :: O.drop m).map zV:=by simp [List.map_take,List.map_drop]
                    rw [hO5] at hown5;clear hown4 hown2 hO5 hs4 hhi hhs hrone hrone2 hf1;have hBw5:=hBw.trans (hwW5.mono hBw.size);have hL5 : (O.take m ++ d :: O.drop m).length = m + 1 + (n - m):=by simp [Hlen.out];omega
                    have hOe : O.take m ++ d :: O.drop m = jY (Z.take (k + 1)):=by rw [Htk.out,Hat.out]
                    rw [hOe] at hown5 hL5;have hown6:=hown5.mono hBw.size;have HL:=Lib.hid hL5;clear hown5 hOe hL5;(go_wp2_with fail);go_roundw
                    case rel=>exact ⟨k + 1,A5,m + 1 + (n - m),cap5,by omega,by go_num,rfl,hown6,hBw5⟩
                    case measure=>simp [intOf];omega
        · have hd : decide (m < n) = false:=by simpa using hmlt
          have hat:=jQ (c:=xK) O d m (by rw [Hlen.out];exact hmO) hlow.out (fun hk'=>absurd (by rw [← Hlen.out];exact hk') hmlt);have Hat:=Lib.hid hat;clear hat;go_upto_region 8 with fail
          refine zE (Bel wr) false (by kernel_rfl) (by kernel_rfl) (by kernel_rfl) (zG wr) ?_;have hne:=zX wr;have hS:=zG wr;repeat (refine zB ?_ ?_;(focus (simp only [zA];done));intro K hK;go_simp;refine hK _ ?_;clear hK K)
          refine zN ?_;intro hS;clear hne hS;go_upto_region 10 with fail
          refine zE (Bel wr.drew) false (by kernel_rfl) (by kernel_rfl) (by kernel_rfl) (zG wr.drew) ?_;have hne:=zX wr.drew;have hS:=zG wr.drew;repeat (refine zB ?_ ?_;(focus (simp only [zA];done));intro K hK;go_simp;refine hK _ ?_;clear hK K)
          refine zN ?_;intro hS;have hbz2 : Below V.heap.size V wr.drew.drew:=hbj.drew.drew;have hrx : zF wr.drew.drew gx 0 2 = some (zV d):=hrj;have hsw:=hsw2.below hbz2;have hownw:=hown1.below hbz2;have hBw:=hb1r.trans (hbz2.mono hb1r.size);clear hne hS hbz2 hrj hbj hmlt hd hswj hd0 hd1;obtain ⟨W,hW⟩ : ∃ W,wr.drew.drew = W:=⟨_,rfl⟩
          rw [hW] at hrx hsw hownw hBw ⊢;clear hW;obtain ⟨A,hA1⟩ : ∃ A,A = A1:=⟨_,rfl⟩
          rw [← hA1] at hsw hownw ⊢;clear hA1;obtain ⟨cap,hcap⟩ : ∃ cap,cap = cap1:=⟨_,rfl⟩
          rw [← hcap] at hsw hownw ⊢;clear hcap;have hBx : Below W.heap.size W (W.alloc (.cells #[] 98)):=(Below.refl _ _).alloc (Nat.le_refl _) _;have hown0:=Own.empty W W.heap.size 98 2 (Nat.le_refl _);have hlo : ∀ w0 : World,(slS 23 (.slice A n cap) none (some (.int .i64 m)) none).run Tryz.prog w0 = .ok (.slice A m cap) w0:=fun w0=>SlW.lo yL hsw hmO w0;obtain ⟨Ah,ch,hhi,hhs,hhf⟩:=hsw.hi (P:=Tryz.prog) yL (m:=m) hmO;have hslo : SlR (W.alloc (.cells #[] 98)) A m 2 ((O.map zV).take m):=(hsw.rd.below hBx).take_ hmO;have hf1:=hsw.nil;have hrone : ∀ r ∈ (O.map zV).take m,∀ u ∈ r.toList,u.oneCell' = true:=fun r hr=>(by obtain ⟨y',_,rfl⟩:=List.mem_map.1 (List.mem_of_mem_take hr);exact xU _);have hrone2 : ∀ r ∈ (O.map zV).drop m,∀ u ∈ r.toList,u.oneCell' = true:=fun r hr=>(by obtain ⟨y',_,rfl⟩:=List.mem_map.1 (List.mem_of_mem_drop hr);exact xU _);go_upto_region 12 with (at_builtin;refine yF yL rfl hown0 rfl hslo hf1 hrone (by omega) (by omega) (by simp) ?_;intro A2 cap2 w2 hown2 hk2 hsub2)
          simp only [Nat.zero_add,List.nil_append] at hown2;have hwW : Below W.heap.size W w2:=hBx.trans (hk2.below (by simp) (by simp [blk]));have hrw2 : zF w2 gx (0) 2 = some (zV d):=(zI (hwW.block gx (zL hrx)) _ _).trans hrx;have hB3 : Below w2.heap.size w2 (w2.alloc (.cells (zV d) 98)):=(Below.refl _ _).alloc (Nat.le_refl _) _;have hown3:=hown2.below hB3;have hrow3 : zF (w2.alloc (.cells (zV d) 98)) w2.heap.size 0 2 = some (zV d):=by simp [go_sem]
          have hsz2:=hwW.size;go_upto_region 13 with (at_builtin;refine x8 yL rfl hown3 rfl hrow3 (xU _) (by omega) (by omega) (by simp;omega) ?_;intro A4 cap4 w4 hown4 hk4 hsub4)
          have hwW4 : Below W.heap.size W w4:=(hwW.trans (hB3.mono hsz2)).trans (hk4.below (by simp;omega) (fun x hx=>(hown2.at_base hx).1));have hs4:=hhs w4 (hsw.rd.below hwW4);have hsz4:=hwW4.size;clear hown3 hrow3 hB3 hown0 hBx hslo hrw2 hlo;go_upto_region 14 with (at_builtin;refine yF yL rfl hown4 rfl hs4 hhf hrone2 (by omega) (by omega) (by omega) ?_;intro A5 cap5 w5 hown5 hk5 hsub5)
          have hwW5 : Below W.heap.size W w5:=hwW4.trans (hk5.below (by omega) (fun x hx=>(hown4.at_base hx).1));have hO5 : (O.map zV).take m ++ [zV d] ++ (O.map zV).drop m = (O.take m ++ d :: O.drop m).map zV:=by simp [List.map_take,List.map_drop]
          rw [hO5] at hown5;clear hown4 hown2 hO5 hs4 hhi hhs hrone hrone2 hf1;have hBw5:=hBw.trans (hwW5.mono hBw.size);have hL5 : (O.take m ++ d :: O.drop m).length = m + 1 + (n - m):=by simp [Hlen.out];omega
          have hOe : O.take m ++ d :: O.drop m = jY (Z.take (k + 1)):=by rw [Htk.out,Hat.out]
          rw [hOe] at hown5 hL5;have hown6:=hown5.mono hBw.size;have HL:=Lib.hid hL5;clear hown5 hOe hL5;(go_wp2_with fail);go_roundw
          case rel=>exact ⟨k + 1,A5,m + 1 + (n - m),cap5,by omega,by go_num,rfl,hown6,hBw5⟩
          case measure=>simp [intOf];omega
    · have e : Z.take k = Z:=List.take_of_length_le (by rw [Hnz.out];omega);rw [e] at hown;clear e;(go_wp2_with fail);go_ret;exact ⟨A1,n,cap1,rfl,hown.mono hb1.size,yN hb1 hb⟩
end
section
open Go.RowKit
def wH (x : Row) : j3:=⟨x.key,x.val⟩
abbrev OwnP (w : World) (B : Nat) (A : Option Addr) (cap : Nat) (L : List j3) : Prop:=Own w B 98 2 A L.length cap (L.map zV)
set_option maxRecDepth 100000 in
set_option maxHeartbeats 1000000 in
theorem rlistL (w : World) (A : Option Addr) (n cap : Nat) (R : List Row) (h : jT w A n R) (hn : n ≤ 1000000) :
    Calls Tryz.prog 75 #[.slice A n cap] w fun e w'=>∃ A' cap',e = .returned (.slice A' ((xH R).map wH).length cap') ∧ OwnP w' w.heap.size A' cap' ((xH R).map wH) ∧ Below w.heap.size w w':=by
  have hol : (xH R).length ≤ 1000000:=by have:=g6 R;have:=jT.len h;omega
  obtain ⟨O,hO⟩ : ∃ O,xH R = O:=⟨_,rfl⟩
  have c1:=YK w A n cap R h hn;rw [hO] at c1 hol ⊢;clear hO;go_enter Tryz.func75,Tryz.ntmps75
  (go_wp2_with fail);refine c1.mono ?_;rintro e w1 ⟨A1,cap1,rfl,hown1,hb1⟩;have hs1 : jT w1 A1 O.length O:=hown1.slr;clear c1;(go_wp2_with fail);go_loopw [3,5] (fun out i wr=>∃ (k : Nat) (A2 : Option Addr) (cap2 : Nat),k ≤ O.length ∧ i = .int .i64 k ∧ out = .slice A2 k cap2 ∧ Own wr w1.heap.size 98 2 A2 k cap2 (((O.take k).map wH).map zV) ∧ Below w1.heap.size w1 wr) (fun _ i _=>O.length - (intOf i).toNat)
  case atStart=>exact ⟨0,none,0,Nat.zero_le _,rfl,rfl,Own.nil _ _ _ _,Below.refl _ _⟩
  case round =>
    obtain ⟨k,A2,cap2,hk,rfl,rfl,hown,hb⟩:=hrel;by_cases hlt : k < O.length
    · obtain ⟨q,o,rfl,hr,hkey,hval,_,_⟩:=jT.get (SlR.below hs1 hb) hlt hlt;have hq : q < w1.heap.size:=SlR.old hs1 rfl (by omega);have hqb : q ∉ blk A2:=fun hx=>(by have:=(hown.at_base hx).1;omega);have htk : ((O.take (k + 1)).map wH).map zV = ((O.take k).map wH).map zV ++ [zV (wH O[k])]:=by
        have e : O.take (k + 1) = O.take k ++ [O[k]]:=by rw [List.take_add_one,List.getElem?_eq_getElem hlt];rfl
        rw [e,List.map_append,List.map_append];rfl
      obtain ⟨x,hx⟩ : ∃ x,O[k]'hlt = x:=⟨_,rfl⟩
      rw [hx] at hkey hval htk;have Htk:=Lib.hid htk;have hsz:=hb.size;clear hx hr htk;go_upto_region 6 with fail
      refine zE (Kp (blk A2) wr) false (by kernel_rfl) (by kernel_rfl) (by kernel_rfl) (yB (blk A2) wr) ?_;have hne:=xD (blk A2) wr;have hS:=yB (blk A2) wr;have b1:=zZ hkey hqb;have b2:=zZ hval hqb;repeat (refine zB ?_ ?_;(focus (simp only [zA];done));intro K hK;go_simp;refine hK _ ?_;clear hK K)
      refine zH ?_ ?_ ?_;(focus (exact hS));(focus (simp only [zA];done));intro K hK;go_simp;refine zY (zC.trans (zC.trans (zC.refl (blk A2) wr) (zC.drew _) (by simp)) (zC.alloc _ _) (by simp)) (fun hS2=>?_);refine hK _ _ ?_;clear hK K;have hk0 : zC [] wr (wr.drew.alloc (.cells (zV ⟨x.key,x.val⟩) 98)):=zC.trans (zC.drew wr) (zC.alloc _ _) (by simp);have hownr:=hown.kept hk0 (by simp);have hrow2 : zF (wr.drew.alloc (.cells (zV ⟨x.key,x.val⟩) 98)) wr.heap.size 0 2 = some (zV ⟨x.key,x.val⟩):=by simp [go_sem]
      refine fN yL rfl hownr rfl hrow2 (xU _) (by omega) (by omega) (by simp;omega) ?_;intro A3 cap3 w3 hown3 hk3 hsub3;refine zY (zC.trans (hk0.mono (S':=blk A2) (by simp)) hk3 (fun x hx=>.inl hx)) (fun hS3=>?_);repeat (refine zB ?_ ?_;(focus (simp only [zA];done));intro K hK;go_simp;refine hK _ ?_;clear hK K)
      refine zN ?_;intro hS;have hb3 : Below w1.heap.size w1 w3:=hb.trans ((zC.trans (hk0.mono (S':=blk A2) (by simp)) hk3 (fun x hx=>.inl hx)).below hsz (fun x hx=>(hown.at_base hx).1));clear hne hS hS2 hS3 b1 b2;(go_wp2_with fail);go_roundw
      case rel=>exact ⟨k + 1,A3,cap3,by omega,by go_num,rfl,by rw [Htk.out];exact hown3,hb3⟩
      case measure=>simp [intOf];omega
    · have e : k = O.length:=by omega
      have e2 : O.take k = O:=List.take_of_length_le (by omega);have hown' : OwnP wr w.heap.size A2 cap2 (O.map wH):=by rw [e2] at hown;show Own _ _ _ _ _ _ _ _;rw [List.length_map,← e];exact hown.mono hb1.size
      have Ho:=Lib.hid hown';have El:=Lib.hid e;clear e e2 hown hown';(go_wp2_with fail);go_ret;refine ⟨A2,cap2,?_,Ho.out,yN hb1 hb⟩;rw [List.length_map,← El.out];rfl
end
section
open Go.RowKit
def numR (k : Int) (x : RV) : Int:=if k = 1 then x.tal else 0
def VW (k : Int) (x : RV) : List j3 :=
  if k = 1 then [] else if k = 2 then (jU (kM x.adds x.gone)).map wG else if k = 3 then (xH x.last).map wH
  else if k = 4 then jY (lvM x.mL x.mO) else g5 x.sL x.sG
def eH (k : Int) (x : RV) : List UInt8 :=
  if k = 1 then d7 x.tal else if k = 2 then pX (kM x.adds x.gone) (yA yI x.gone) else if k = 3 then dW ((xH x.last).map uV)
  else if k = 4 then dV (lvM x.mL x.mO) (yA zO x.mO) else gO x.sL x.sG
theorem Q7 {X G : List yT} {z : yT} : z ∈ kM X G ↔ z ∈ X ∧ z ∉ G:=by
  unfold kM;rw [List.mem_filter,xL qV];simp
theorem mem_lvM {X : List xT} {G : List zK} {z : xT} : z ∈ lvM X G ↔ z ∈ X ∧ z.id ∉ G:=by
  unfold lvM;rw [xL fS,List.mem_filter];simp
theorem VM {x : RV} {L G : List yT} (h : pG x (.b L G)) : kM x.adds x.gone = L ∧ yA yI x.gone = G:=by
  obtain ⟨a1,a2,a3,a4⟩:=h;refine ⟨kC qV ((xB qV _).filter _) a1 fun z=>?_,kC qV (xB qV _) a2 fun z=>?_⟩
  · rw [Q7,a4]
  · rw [xL qV,a3]
theorem VK {x : RV} {X : List xT} {O : List zK} (h : pG x (.m X O)) : lvM x.mL x.mO = X ∧ yA zO x.mO = O:=by
  obtain ⟨a1,a2,a3,a4⟩:=h;subst a3;refine ⟨kC fS (xB fS _) a1 fun z=>?_,uK xP a2⟩;rw [mem_lvM,a4]
theorem rel_num {x : RV} {s : VSt} (h : pG x s) : numR s.kind x = s.num:=by
  cases s with
  | t n=>exact h
  | b L G=>rfl
  | l L=>rfl
  | m X O=>rfl
  | s N G=>rfl
theorem XT {x : RV} {s : VSt} (h : pG x s) : VW s.kind x = s.pairs:=by
  cases s with
  | t n=>rfl
  | b L G=>show (jU (kM x.adds x.gone)).map wG = _;rw [(VM h).1];rfl
  | l L =>
    obtain ⟨a1,_,_⟩:=h;show (xH x.last).map wH = L.map nC;rw [a1,List.map_map];rfl
  | m X O=>show jY (lvM x.mL x.mO) = _;rw [(VK h).1];rfl
  | s N G =>
    obtain ⟨a1,a2,a3,a4⟩:=h;show g5 x.sL x.sG = g5 N G;rw [a2];have e : qW x.sL = qW N:=cN (fun n=>(a4 n).symm) a3.forest;show pS (qW x.sL) x.sG = pS (qW N) x.sG;rw [e]
theorem rL {x : RV} {s : VSt} (h : pG x s) : eH s.kind x = stB s:=by
  cases s with
  | t n=>show d7 x.tal = d7 n;rw [show x.tal = n from h]
  | b L G=>show pX (kM x.adds x.gone) (yA yI x.gone) = _;rw [(VM h).1,(VM h).2];rfl
  | l L =>
    obtain ⟨a1,_,_⟩:=h;show dW ((xH x.last).map uV) = dW L;rw [a1]
  | m X O=>show dV (lvM x.mL x.mO) (yA zO x.mO) = _;rw [(VK h).1,(VK h).2];rfl
  | s N G =>
    obtain ⟨a1,a2,a3,a4⟩:=h;show gO x.sL x.sG = gO N G;unfold gO;rw [a2,eU a4]
theorem KJ (I : List zK) (d : zK) : xJ zO (yA zO I) d = yA zO (d :: I):=kC xP (jP xP (xB xP _)) (xB xP _) fun z=>by
  rw [qA xP,xL xP,xL xP,List.mem_cons]
theorem ids_mem (I : List zK) (d : zK) : (d ∈ yA zO I) = (d ∈ I):=propext (xL xP)
end
section
open Go.RowKit
theorem iW {L : List zW} {r : zK} : (xV L r).length ≤ L.length:=gQ L r
theorem VJ {L : List zW} {out row : List zW} (hf : bF L) (h : out ++ bL (xV L) zW.id (L.length + 1) row = qW L) : out.length + (bL (xV L) zW.id (L.length + 1) row).length ≤ L.length:=by
  have h1:=k6 hf;rw [← h,List.length_append] at h1;exact h1
theorem iB (L : List zW) (k : Nat) : ∀ row : List zW,row.length ≤ (bL (xV L) zW.id k row).length
  | []=>Nat.zero_le _
  | n :: row=>by
    have h:=iB L k row;unfold bL at h ⊢;rw [List.flatMap_cons,List.length_append,List.length_cons,List.length_cons];omega
set_option maxRecDepth 100000 in
set_option maxHeartbeats 4000000 in
theorem rsorder (w : World) (g : Nat) (L : List zW) (G : List zK) (h : YF w g 8 L G) (hok : jS L) (hX : L.length ≤ 100000) :
    Calls Tryz.prog 153 #[.pointer (some ⟨g,8,none⟩)] w fun e w'=>∃ A n cap,e = .returned (.slice A n cap) ∧ Own w' w.heap.size 213 66 A n cap ((qW L).map yO) ∧ Below w.heap.size w w':=by
  have hbh:=fun (w' : World) (hb : Below w.heap.size w w') (r : zK)=>VA w' g L G r (h.below hb) hok hX;have hf:=hok.forest;have hdeep:=hf.deep;have hord : qW L = bL (xV L) zW.id (L.length + 1) (xV L id0):=iC hdeep;have hD0 : ∀ c ∈ xV L id0,Deep (xV L) zW.id (L.length + 1) c.id:=fun c hc=>tV (hdeep c hc);have Hbh:=Lib.hid hbh;have Hf:=Lib.hid hf;have Hord:=Lib.hid hord;have HD0:=Lib.hid hD0;have c0:=hbh w (Below.refl _ _) id0;clear hbh hf hdeep hord hD0 h hok;go_enter Tryz.func153,Tryz.ntmps153
  (go_wp2_with fail);refine c0.mono ?_;rintro e w1 ⟨RA,nr,rc,rfl,hrow,hb1⟩;clear c0;(go_wp2_with fail);go_loopw [3,4] (fun out row wr=>∃ (X R : List zW) (A1 : Option Addr) (n1 cap1 : Nat) (A2 : Option Addr) (n2 cap2 : Nat),out = .slice A1 n1 cap1 ∧ row = .slice A2 n2 cap2 ∧ Own wr w.heap.size 213 66 A1 n1 cap1 (X.map yO) ∧ SlW wr A2 n2 cap2 66 (R.map yO) ∧ (∀ x ∈ blk A2,x ∉ blk A1) ∧ Hid (X ++ bL (xV L) zW.id (L.length + 1) R = qW L) ∧ Hid (∀ c ∈ R,Deep (xV L) zW.id (L.length + 1) c.id) ∧ Below w.heap.size w wr) (fun out _ _=>L.length - (match out with | .slice _ n _=>n | _=>0))
  case atStart=>exact ⟨[],xV L id0,none,0,0,RA,nr,rc,rfl,rfl,Own.nil _ _ _ _,hrow.slw,(by simp [blk]),(show _ = _ by rw [Hord.out];rfl),HD0,hb1⟩
  case round =>
    obtain ⟨X,R,A1,n1,cap1,A2,n2,cap2,rfl,rfl,hown,hsw,hdis,hinv,hdp,hb⟩:=hrel;have hn1 : X.length = n1:=by simpa using hown.len
    have hn2 : R.length = n2:=by simpa using hsw.len
    have hrl:=VJ Hf.out hinv.out;have hrr:=iB L (L.length + 1) R;have h1L : n1 + n2 ≤ L.length:=by omega
    have Hn1:=Lib.hid hn1;cases R with
    | nil =>
      have hn0 : n2 = 0:=by simpa using hn2.symm
      subst hn0;have hX2 : X = qW L:=by have:=hinv.out;simpa [bL] using this
      subst hX2;clear hinv hdp hrl hrr hn1 hn2;(go_wp2_with fail);go_ret;exact ⟨A1,n1,cap1,rfl,hown,hb⟩
    | cons d R' =>
      have hn2p : n2 = R'.length + 1:=by simpa using hn2.symm
      subst hn2p;obtain ⟨q,o,rfl,hr⟩:=vX.get hsw.rd (i:=0) (by omega) (by simp);rw [Nat.zero_mul,Nat.add_zero,List.getElem_cons_zero] at hr;have hdd:=hdp.out d (by simp);have hinv2 : X ++ [d] ++ bL (xV L) zW.id (L.length + 1) (xV L d.id ++ R') = qW L:=by
        have:=hinv.out;rw [lF hdd] at this;simpa using this
      have hdp2 : ∀ c ∈ xV L d.id ++ R',Deep (xV L) zW.id (L.length + 1) c.id:=fun c hc=>by
        rcases List.mem_append.1 hc with hc | hc
        · exact sM hdd c hc
        · exact hdp.out c (by simp [hc])
      have Hinv2:=Lib.hid hinv2;have Hdp2:=Lib.hid hdp2;clear hinv hdp hdd hinv2 hdp2 hrl hrr hn1 hn2;have hszr:=hb.size;have hbx : Below wr.heap.size wr ((wr.alloc (.cells (yK (k8 d)) 213)).alloc (.cells (yK (k8 d)) 213)):=((Below.refl _ _).alloc (Nat.le_refl _) _).alloc (by simp) _;have hown1:=hown.below hbx;have hrow2 : zF ((wr.alloc (.cells (yK (k8 d)) 213)).alloc (.cells (yK (k8 d)) 213)) (wr.heap.size + 1) 0 66 = some (yO d):=by simp [go_sem]
      have hbox : zF ((wr.alloc (.cells (yK (k8 d)) 213)).alloc (.cells (yK (k8 d)) 213)) wr.heap.size 0 66 = some (yO d):=by simp [go_sem]
      have hsz2 : ((wr.alloc (.cells (yK (k8 d)) 213)).alloc (.cells (yK (k8 d)) 213)).heap.size = wr.heap.size + 2:=by simp
      have hA1 : ∀ x ∈ blk A1,w.heap.size ≤ x ∧ x < wr.heap.size:=fun x hx=>hown.at_base hx;have HA1:=Lib.hid hA1;have Hdis:=Lib.hid hdis;clear hA1 hdis;go_upto_region 6 with (at_builtin;refine x8 qI rfl hown1 rfl hrow2 (qX _) (by omega) (by omega) (by simp;omega) ?_;intro A3 cap3 w3 hown3 hk3 hsub3)
      have hboxS : wr.heap.size ∉ blk A1:=fun hx=>(by have:=(HA1.out _ hx).2;omega);have hbox3 : zF w3 wr.heap.size 0 66 = some (yO d):=(hk3.row (by omega) hboxS 0 66).trans hbox;obtain ⟨f1,_,_,_⟩:=vO hbox3;have hsw3:=(hsw.below hbx).kept hk3 Hdis.out;have hb3 : Below w.heap.size w w3:=hb.trans ((hbx.mono hszr).trans (hk3.below (by omega) fun x hx=>(HA1.out x hx).1));have hA3 : ∀ x ∈ blk A3,x < w3.heap.size:=fun x hx=>(hown3.at_base hx).2;have HA3:=Lib.hid hA3;obtain ⟨gx,hgx⟩ : ∃ gx,wr.heap.size = gx:=⟨_,rfl⟩
      have hrows3 : (X.map yO) ++ [yO d] = (X ++ [d]).map yO:=by simp
      rw [hrows3] at hown3;rw [hgx] at f1 ⊢;have hgx3 : gx < w3.heap.size:=zL f1;clear hown hown1 hrow2 hbox hbox3 hboxS hbx hsz2 hk3 hsub3 hgx hA3 hsw hr hrows3 hb;have hbe : Below w3.heap.size w3 (w3.alloc (.cells #[] 213)):=(Below.refl _ _).alloc (Nat.le_refl _) _;have hb3e : Below w.heap.size w (w3.alloc (.cells #[] 213)):=hb3.trans (hbe.mono hb3.size);have f1e:=(zI (hbe.block gx hgx3) 0 32).trans f1;have hownE:=Own.empty w3 w3.heap.size 213 66 (Nat.le_refl _);have c4:=Hbh.out _ hb3e d.id;(go_wp2_with fail);refine c4.mono ?_;rintro e w4 ⟨KA,nk,kc,rfl,hkr,hb4⟩;have hnk : (xV L d.id).length = nk:=by simpa using hkr.len
      have hnkL:=iW (L:=L) (r:=d.id);have hownE4:=hownE.below hb4;have hbe4 : Below w3.heap.size w3 w4:=yN hbe hb4;have hsw4:=hsw3.below hbe4;have hsz4:=hbe4.size;have hf4 : KA = none → kc = 0:=fun e=>(hkr.cap_le.2 e).2;have hks:=hkr.slr;have hE4 : w3.heap.size + 1 ≤ w4.heap.size:=by have:=hb4.size;simpa using this
      have hnkb : nk ≤ 100000:=by omega
      have Hnk:=Lib.hid hnk;clear c4 hownE hbe f1e f1 hkr hnk hnkL hb4 hb3e;go_upto_region 7 with (at_builtin;refine yF qI rfl hownE4 rfl hks hf4 (onesN _) (by omega) (by omega) (by omega) ?_;intro A5 cap5 w5 hown5 hk5 hsub5)
      simp only [Nat.zero_add,List.nil_append] at hown5;have hbe5 : Below w3.heap.size w3 w5:=hbe4.trans (hk5.below (by omega) (by simp [blk]));have hsw5:=hsw3.below hbe5;have hsz5:=hbe5.size;obtain ⟨Ah,ch,hhi,hhs,hhf⟩:=hsw5.hi (P:=Tryz.prog) qI (m:=1) (by omega);have hhi2 : ∀ w0 : World,(slS 65 (.slice (some ⟨q,o,none⟩) (R'.length + 1) cap2) (some (.int .i64 1)) none none).run Tryz.prog w0 = .ok (.slice Ah R'.length ch) w0:=hhi;have hs5 : SlR w5 Ah R'.length 66 (((d :: R').map yO).drop 1):=hhs w5 hsw5.rd;have hone2 : ∀ r ∈ ((d :: R').map yO).drop 1,∀ u ∈ r.toList,u.oneCell' = true:=fun r hr=>(by obtain ⟨y',_,rfl⟩:=List.mem_map.1 (List.mem_of_mem_drop hr);exact qX _);have hA5 : ∀ x ∈ blk A5,w3.heap.size ≤ x:=fun x hx=>(hown5.at_base hx).1;have HA5:=Lib.hid hA5;clear hA5 hk5 hsub5 hownE4 hks hf4 hsw4 hbe4 hsw3 hsw5 hhs hhi;go_upto_region 8 with (at_builtin;refine yF qI rfl hown5 rfl hs5 hhf hone2 (by omega) (by omega) (by omega) ?_;intro A6 cap6 w6 hown6 hk6 hsub6)
      have hbe6 : Below w3.heap.size w3 w6:=hbe5.trans (hk6.below hsz5 HA5.out);have hown36:=hown3.below hbe6;have hrows6 : ((xV L d.id).map yO) ++ ((d :: R').map yO).drop 1 = (xV L d.id ++ R').map yO:=by simp
      rw [hrows6] at hown6;have hsw6:=hown6.slw;have hdis6 : ∀ x ∈ blk A6,x ∉ blk A3:=fun x hx hm=>by
        have h1:=(hown6.at_base hx).1;have h2:=HA3.out x hm;omega
      have hbF:=hb3.trans (hbe6.mono hb3.size);have Hdis6:=Lib.hid hdis6;have Hsw6:=Lib.hid hsw6;have HbF:=Lib.hid hbF;have Hown36:=Lib.hid hown36;clear hown6 hrows6 hk6 hsub6 hown3 hs5 hhi2 hhf hone2 hown5 hdis6 hsw6 hbF hown36 hbe5 hbe6;(go_wp2_with fail);go_roundw
      case rel=>exact ⟨X ++ [d],xV L d.id ++ R',A3,n1 + 1,cap3,A6,_,cap6,rfl,rfl,Hown36.out,Hsw6.out,Hdis6.out,Hinv2,Hdp2,HbF.out⟩
      case measure=>simp only [];omega
end
section
open Go.RowKit
set_option maxRecDepth 100000 in
set_option maxHeartbeats 4000000 in
theorem rslist (w : World) (g : Nat) (L : List zW) (G : List zK) (h : YF w g 8 L G) (hok : jS L) (hX : L.length ≤ 100000) (hG : G.length ≤ 100000) :
    Calls Tryz.prog 77 #[.pointer (some ⟨g,8,none⟩)] w fun e w'=>∃ A n cap,e = .returned (.slice A n cap) ∧ Own w' w.heap.size 98 2 A n cap ((g5 L G).map zV) ∧ Below w.heap.size w w':=by
  have c1:=rsorder w g L G h hok hX;have hlo:=k6 hok.forest;have hls : g5 L G = pS (qW L) G:=rfl;rw [hls];obtain ⟨Z,hZ⟩ : ∃ Z,qW L = Z:=⟨_,rfl⟩
  rw [hZ] at c1 hlo ⊢;clear hZ hls hok;obtain ⟨XA,nx,xc,GA,ng,gc,hc0,hc1,hXr,hGr⟩:=h;have hng : G.length = ng:=by simpa using hGr.len
  have hng1 : ng ≤ 100000:=by omega
  clear hng hc0 hXr;go_enter Tryz.func77,Tryz.ntmps77
  (go_wp2_with fail);refine c1.mono ?_;rintro e w1 ⟨RA,nz,rc,rfl,hrow,hb1⟩;have hslZ : vX w1 RA nz Z:=hrow.slr;have hnz : Z.length = nz:=hslZ.len;have Hnz:=Lib.hid hnz;have hnz1 : nz ≤ 100000:=by omega
  have hc91:=(hb1.cell (p:=⟨g,9,none⟩) (World.block_lt_of_cell? w _ hc1)).trans hc1;have hG1:=SlR.below hGr hb1;clear hrow c1 hnz hc1 hGr;(go_wp2_with fail);go_loopw [3,5] (fun out i wr=>∃ (k : Nat) (A1 : Option Addr) (n1 cap1 : Nat),k ≤ nz ∧ i = .int .i64 k ∧ out = .slice A1 n1 cap1 ∧ Own wr w1.heap.size 98 2 A1 n1 cap1 ((pS (Z.take k) G).map zV) ∧ Below w1.heap.size w1 wr) (fun _ i _=>nz - (intOf i).toNat)
  case atStart=>exact ⟨0,none,0,0,Nat.zero_le _,rfl,rfl,Own.nil _ _ _ _,Below.refl _ _⟩
  case round =>
    obtain ⟨k,A1,n,cap1,hk,rfl,rfl,hown,hb⟩:=hrel;by_cases hlt : k < nz
    · have hltZ : k < Z.length:=by rw [Hnz.out];exact hlt
      obtain ⟨q,o,rfl,hr0⟩:=vX.get (SlR.below hslZ hb) hlt hltZ;have htk : pS (Z.take (k + 1)) G = if (Z[k]'hltZ).id ∈ G then pS (Z.take k) G else pS (Z.take k) G ++ [⟨⟨#[]⟩,(Z[k]'hltZ).val⟩]:=by
        rw [List.take_add_one,List.getElem?_eq_getElem hltZ,Option.toList_some,YS]
      have hOl : (pS (Z.take k) G).length = n:=by simpa using hown.len
      have hol : n ≤ 100000:=by have:=VX (Z.take k) G;simp at this;omega
      obtain ⟨c,hc⟩ : ∃ c,Z[k]'hltZ = c:=⟨_,rfl⟩
      rw [hc] at hr0 htk;obtain ⟨T0,hT0⟩ : ∃ T0,pS (Z.take k) G = T0:=⟨_,rfl⟩
      rw [hT0] at htk hown;have Htk:=Lib.hid htk;obtain ⟨f1,_,_,f4⟩:=vO hr0;clear hc hT0 htk hOl hr0;have hszr:=hb.size;have hcr:=(hb.cell (p:=⟨g,9,none⟩) (World.block_lt_of_cell? w1 _ hc91)).trans hc91;have c2:=rK wr.drew GA ng gc G c.id (SlR.below hG1 hb.drew) (by omega);obtain ⟨rr,hrr⟩ : ∃ rr,decide (c.id ∈ G) = rr:=⟨_,rfl⟩
      rw [hrr] at c2;have Hrr:=Lib.hid hrr;clear hrr;go_upto_region 6 with fail
      refine zE (Bel wr) false (by kernel_rfl) (by kernel_rfl) (by kernel_rfl) (zG wr) ?_;have hne:=zX wr;have hS:=zG wr;have b1:=yD f1;have b2:=zT hcr;repeat (refine zB ?_ ?_;(focus (simp only [zA];done));intro K hK;go_simp;refine hK _ ?_;clear hK K)
      refine zH ?_ ?_ ?_;(focus (exact hS));(focus (simp only [zA];done));intro K hK;go_simp;refine (c2).mono ?_;rintro e w' ⟨rfl,hb⟩;replace hS:=yJ hS hb;refine ⟨_,rfl,hS,hK _ _ ?_⟩;clear hK K hb;repeat (refine zB ?_ ?_;(focus (simp only [zA];done));intro K hK;go_simp;refine hK _ ?_;clear hK K)
      refine zN ?_;intro hS;have hS' : Below wr.heap.size wr w':=hS;have hbz:=yN hb hS';have hown1:=hown.below hS';have f4':=(hS'.cell (World.block_lt_of_cell? wr _ f4)).trans f4;have hsz':=hS'.size;clear b1 b2 hne hS c2 f1 f4 hcr hown hS' hb;cases rr with
      | true =>
        have e5:=Htk.out;rw [if_pos (of_decide_eq_true Hrr.out)] at e5;have E5:=Lib.hid e5;clear e5;(go_wp2_with fail);go_roundw
        case rel=>exact ⟨k + 1,A1,n,cap1,by omega,by go_num,rfl,(by rw [E5.out];exact hown1),hbz⟩
        case measure=>simp [intOf];omega
      | false =>
        have e5:=Htk.out;rw [if_neg (of_decide_eq_false Hrr.out)] at e5;have E5:=Lib.hid e5;clear e5;have hbx : Below w'.heap.size w' (w'.alloc (.cells (zV ⟨⟨#[]⟩,c.val⟩) 98)):=(Below.refl _ _).alloc (Nat.le_refl _) _;have hown2:=hown1.below hbx;have hrow2 : zF (w'.alloc (.cells (zV ⟨⟨#[]⟩,c.val⟩) 98)) w'.heap.size 0 2 = some (zV ⟨⟨#[]⟩,c.val⟩):=by simp [go_sem]
        go_wp2_with (at_builtin;refine x8 yL rfl hown2 rfl hrow2 (xU _) (by omega) (by omega) (by simp;omega) ?_;intro A2 cap2 w2 hownA hkA hsubA)
        have hbA : Below w1.heap.size w1 w2:=hbz.trans ((hbx.mono (by omega)).trans (hkA.below (B:=w1.heap.size) (by simp;omega) fun y hy=>(hown1.at_base hy).1));(go_wp2_with fail);go_roundw
        case rel=>exact ⟨k + 1,A2,n + 1,cap2,by omega,by go_num,rfl,(by rw [E5.out];simpa using hownA),hbA⟩
        case measure=>simp [intOf];omega
    · have e : Z.take k = Z:=List.take_of_length_le (by rw [Hnz.out];omega);rw [e] at hown;clear e;(go_wp2_with fail);go_ret;exact ⟨A1,n,cap1,rfl,hown.mono hb1.size,yN hb1 hb⟩
end
section
open Go.RowKit
def JR (k n : Int) (A : Option Addr) (m c : Nat) : Array Value:=zS ⟨k,n,.slice A m c⟩
set_option maxRecDepth 100000 in
set_option maxHeartbeats 1000000 in
theorem rsame26 (w : World) (k n k' n' : Int) (A B : Option Addr) (m m' c c' : Nat) (X Y : List j3) (hx : v4 w A m X) (hy : v4 w B m' Y) (hm : m ≤ 1000000) (hm' : m' ≤ 1000000) :
    Calls Tryz.prog 15 #[.agg (JR k n A m c),.agg (JR k' n' B m' c')] w fun e w'=>e = .returned (.bool (decide (k = k' ∧ n = n' ∧ X = Y))) ∧ Below w.heap.size w w':=by
  have hB : Below w.heap.size w ((w.alloc (.cells (JR k n A m c) 25)).alloc (.cells (JR k' n' B m' c') 25)):=((Below.refl _ _).alloc (Nat.le_refl _) _).alloc (by simp) _;have hx1:=SlR.below hx hB;have hy1:=SlR.below hy hB;have cp:=rpairs _ A B m m' c c' X Y hx1 hy1 hm hm';unfold JR at hB cp ⊢;have hd : decide (k = k' ∧ n = n' ∧ X = Y) = ((k == k') && (n == n') && decide (X = Y)):=by
    rw [Bool.eq_iff_iff];simp [and_assoc]
  obtain ⟨b,hb⟩ : ∃ b,decide (X = Y) = b:=⟨_,rfl⟩
  rw [hb] at cp hd;have Hd:=Lib.hid hd;clear hd hx1 hy1 hb hx hy;obtain ⟨b1,h1⟩ : ∃ b1,(k == k') = b1:=⟨_,rfl⟩
  obtain ⟨b2,h2⟩ : ∃ b2,(n == n') = b2:=⟨_,rfl⟩
  have Hd2 : Hid (decide (k = k' ∧ n = n' ∧ X = Y) = (b1 && b2 && b)):=by show _ = _;rw [Hd.out,h1,h2]
  clear Hd;cases b1 <;> cases b2
  all_goals
    go_enter Tryz.func15,Tryz.ntmps15
    go_wp2_with fail
    first
    | (go_ret;exact ⟨yG (by rw [Hd2.out];rfl),hB⟩)
    | (refine cp.mono ?_;rintro e w1 ⟨rfl,hb1⟩
       have hBB:=yN hB hb1;clear cp hb1 hB;(go_wp2_with fail);go_ret;exact ⟨yG (by rw [Hd2.out];rfl),hBB⟩)
end
section
open Go.RowKit
@[go_sem] theorem buildValV_kn (k n : Int) (w : World) : (bdS 25 #[(0,.int .i64 k),(1,.int .i64 n)]).run Tryz.prog w = .ok (.agg (zS ⟨k,n,.slice none 0 0⟩)) w:=by kernel_rfl
@[go_sem] theorem buildValV_kl (k : Int) (A : Option Addr) (n c : Nat) (w : World) : (bdS 25 #[(0,.int .i64 k),(2,.slice A n c)]).run Tryz.prog w = .ok (.agg (zS ⟨k,0,.slice A n c⟩)) w:=by kernel_rfl
set_option maxRecDepth 100000 in
set_option maxHeartbeats 2000000 in
theorem XO (w : World) (g : Nat) (t : ByteArray) (I : List zK) (x : RV) (L : List j3) (h : qJ w g t I x) (ht : t.size ≤ 9223372036854775807) (hk : yU t = 2)
    (cl : ∀ w' si sa sg sl sm so ss sd,gW w' g t I x si sa sg sl sm so ss sd → Calls Tryz.prog 74 #[.pointer (some ⟨g,3,none⟩)] w' fun e w''=>∃ A n cap,e = .returned (.slice A n cap) ∧ Own w'' w'.heap.size 98 2 A n cap (L.map zV) ∧ Below w'.heap.size w' w'') :
    Calls Tryz.prog 31 #[.pointer (some ⟨g,0,none⟩)] w fun e w'=>∃ A n cap,e = .returned (.agg (zS ⟨2,0,.slice A n cap⟩)) ∧ Own w' w.heap.size 98 2 A n cap (L.map zV) ∧ Below w.heap.size w w':=by
  obtain ⟨si,sa,sg,sl,sm,so,ss,sd,h⟩:=h;have c1:=fun w=>jO t w ht;rw [hk] at c1;have hB : Below w.heap.size w (w.alloc (.cells (zS xN) 25)):=(Below.refl _ _).alloc (Nat.le_refl _) _;have h1:=h.below hB;have hg1 : (w.alloc (.cells (zS xN) 25)).heap[w.heap.size]? = some (.cells (zS xN) 25 (0,0)):=heap_alloc_new w _;go_enter Tryz.func31,Tryz.ntmps31
  go_upto_region 1 with fail
  obtain ⟨ga,hga⟩ : ∃ ga,w.heap.size = ga:=⟨_,rfl⟩
  have Hga:=Lib.hid hga;rw [hga] at hg1 hB ⊢;obtain ⟨W,hW⟩ : ∃ W,W = w.alloc (.cells (zS xN) 25):=⟨_,rfl⟩
  rw [← hW] at h1 hg1 hB ⊢;clear hW hga h;have hc0 : W.cell? ⟨g,0,none⟩ = some (.string t):=h1.cell 0 rfl;(go_wp2_with fail);refine (c1 _).mono ?_;rintro e w2 ⟨rfl,hb2⟩;have h2:=h1.below hb2;have hg2:=(hb2.block ga (Array.getElem?_eq_some_iff.1 hg1).1).trans hg1;have hB2 : Below ga w w2:=hB.trans (hb2.mono (by have:=hB.size;have:=Hga.out;omega));have hs2 : ga < w2.heap.size:=(Array.getElem?_eq_some_iff.1 hg2).1;clear hc0 h1 hg1 hB hb2 c1;have cl2:=cl w2 si sa sg sl sm so ss sd h2;have hgv : w2.cell? ⟨g,5,none⟩ = some (.slice sl.A sl.n sl.c):=h2.cell 5 rfl;clear cl h2;(go_wp2_with fail);refine cl2.mono ?_;rintro e w3 ⟨A,n,cap,rfl,hown,hb3⟩;have hg3:=(hb3.block ga hs2).trans hg2;have hB3 : Below ga w w3:=hB2.trans (hb3.mono (by omega));clear hg2 hB2 cl2 hgv;have hsto:=yY (P:=Tryz.prog) qF w3 ga (zS xN) (zS ⟨2,0,.slice A n cap⟩) _ hg3 (by simp) (by simp) (v6 _ rfl);have hkf : zC [ga] w3 (w3.setRow ga (zS ⟨2,0,.slice A n cap⟩)):=⟨rfl,rfl,rfl,by simp [World.setRow],fun x _ hx=>setRow_other w3 ga x _ (by simpa using hx)⟩
  have Hfin:=Lib.hid (setRow_heap w3 ga _ (zS ⟨2,0,.slice A n cap⟩) _ _ hg3);have HBf:=Lib.hid (hB3.trans (hkf.below (by have:=hB3.size;have:=Hga.out;omega) (by simp)));have HO:=Lib.hid ((hown.kept hkf (fun x hx=>by have:=hown.at_base hx;simp;omega)).mono (B':=w.heap.size) (by have:=Hga.out;omega));clear hkf hg3 hB3 hown hb3;(go_wp2_with fail);refine bodyPost_ret (results_cell_row Tryz.results31 _ _ ga 25 (zS ⟨2,0,.slice A n cap⟩) (0,0) _ rfl Hfin.out Tryz.underlying25 rfl (by rw [jH];exact qF)) rfl ?_;exact ⟨A,n,cap,rfl,HO.out,by rw [Hga.out];exact HBf.out⟩
set_option maxRecDepth 100000 in
set_option maxHeartbeats 2000000 in
theorem XN (w : World) (g : Nat) (t : ByteArray) (I : List zK) (x : RV) (L : List j3) (h : qJ w g t I x) (ht : t.size ≤ 9223372036854775807) (hk : yU t = 3)
    (cl : ∀ w' si sa sg sl sm so ss sd,gW w' g t I x si sa sg sl sm so ss sd → Calls Tryz.prog 75 #[.slice sl.A sl.n sl.c] w' fun e w''=>∃ A n cap,e = .returned (.slice A n cap) ∧ Own w'' w'.heap.size 98 2 A n cap (L.map zV) ∧ Below w'.heap.size w' w'') :
    Calls Tryz.prog 31 #[.pointer (some ⟨g,0,none⟩)] w fun e w'=>∃ A n cap,e = .returned (.agg (zS ⟨3,0,.slice A n cap⟩)) ∧ Own w' w.heap.size 98 2 A n cap (L.map zV) ∧ Below w.heap.size w w':=by
  obtain ⟨si,sa,sg,sl,sm,so,ss,sd,h⟩:=h;have c1:=fun w=>jO t w ht;rw [hk] at c1;have hB : Below w.heap.size w (w.alloc (.cells (zS xN) 25)):=(Below.refl _ _).alloc (Nat.le_refl _) _;have h1:=h.below hB;have hg1 : (w.alloc (.cells (zS xN) 25)).heap[w.heap.size]? = some (.cells (zS xN) 25 (0,0)):=heap_alloc_new w _;go_enter Tryz.func31,Tryz.ntmps31
  go_upto_region 1 with fail
  obtain ⟨ga,hga⟩ : ∃ ga,w.heap.size = ga:=⟨_,rfl⟩
  have Hga:=Lib.hid hga;rw [hga] at hg1 hB ⊢;obtain ⟨W,hW⟩ : ∃ W,W = w.alloc (.cells (zS xN) 25):=⟨_,rfl⟩
  rw [← hW] at h1 hg1 hB ⊢;clear hW hga h;have hc0 : W.cell? ⟨g,0,none⟩ = some (.string t):=h1.cell 0 rfl;(go_wp2_with fail);refine (c1 _).mono ?_;rintro e w2 ⟨rfl,hb2⟩;have h2:=h1.below hb2;have hg2:=(hb2.block ga (Array.getElem?_eq_some_iff.1 hg1).1).trans hg1;have hB2 : Below ga w w2:=hB.trans (hb2.mono (by have:=hB.size;have:=Hga.out;omega));have hs2 : ga < w2.heap.size:=(Array.getElem?_eq_some_iff.1 hg2).1;clear hc0 h1 hg1 hB hb2 c1;have cl2:=cl w2 si sa sg sl sm so ss sd h2;have hgv : w2.cell? ⟨g,5,none⟩ = some (.slice sl.A sl.n sl.c):=h2.cell 5 rfl;clear cl h2;(go_wp2_with fail);refine cl2.mono ?_;rintro e w3 ⟨A,n,cap,rfl,hown,hb3⟩;have hg3:=(hb3.block ga hs2).trans hg2;have hB3 : Below ga w w3:=hB2.trans (hb3.mono (by omega));clear hg2 hB2 cl2 hgv;have hsto:=yY (P:=Tryz.prog) qF w3 ga (zS xN) (zS ⟨3,0,.slice A n cap⟩) _ hg3 (by simp) (by simp) (v6 _ rfl);have hkf : zC [ga] w3 (w3.setRow ga (zS ⟨3,0,.slice A n cap⟩)):=⟨rfl,rfl,rfl,by simp [World.setRow],fun x _ hx=>setRow_other w3 ga x _ (by simpa using hx)⟩
  have Hfin:=Lib.hid (setRow_heap w3 ga _ (zS ⟨3,0,.slice A n cap⟩) _ _ hg3);have HBf:=Lib.hid (hB3.trans (hkf.below (by have:=hB3.size;have:=Hga.out;omega) (by simp)));have HO:=Lib.hid ((hown.kept hkf (fun x hx=>by have:=hown.at_base hx;simp;omega)).mono (B':=w.heap.size) (by have:=Hga.out;omega));clear hkf hg3 hB3 hown hb3;(go_wp2_with fail);refine bodyPost_ret (results_cell_row Tryz.results31 _ _ ga 25 (zS ⟨3,0,.slice A n cap⟩) (0,0) _ rfl Hfin.out Tryz.underlying25 rfl (by rw [jH];exact qF)) rfl ?_;exact ⟨A,n,cap,rfl,HO.out,by rw [Hga.out];exact HBf.out⟩
set_option maxRecDepth 100000 in
set_option maxHeartbeats 2000000 in
theorem XM (w : World) (g : Nat) (t : ByteArray) (I : List zK) (x : RV) (L : List j3) (h : qJ w g t I x) (ht : t.size ≤ 9223372036854775807) (hk : yU t = 4)
    (cl : ∀ w' si sa sg sl sm so ss sd,gW w' g t I x si sa sg sl sm so ss sd → Calls Tryz.prog 76 #[.pointer (some ⟨g,6,none⟩)] w' fun e w''=>∃ A n cap,e = .returned (.slice A n cap) ∧ Own w'' w'.heap.size 98 2 A n cap (L.map zV) ∧ Below w'.heap.size w' w'') :
    Calls Tryz.prog 31 #[.pointer (some ⟨g,0,none⟩)] w fun e w'=>∃ A n cap,e = .returned (.agg (zS ⟨4,0,.slice A n cap⟩)) ∧ Own w' w.heap.size 98 2 A n cap (L.map zV) ∧ Below w.heap.size w w':=by
  obtain ⟨si,sa,sg,sl,sm,so,ss,sd,h⟩:=h;have c1:=fun w=>jO t w ht;rw [hk] at c1;have hB : Below w.heap.size w (w.alloc (.cells (zS xN) 25)):=(Below.refl _ _).alloc (Nat.le_refl _) _;have h1:=h.below hB;have hg1 : (w.alloc (.cells (zS xN) 25)).heap[w.heap.size]? = some (.cells (zS xN) 25 (0,0)):=heap_alloc_new w _;go_enter Tryz.func31,Tryz.ntmps31
  go_upto_region 1 with fail
  obtain ⟨ga,hga⟩ : ∃ ga,w.heap.size = ga:=⟨_,rfl⟩
  have Hga:=Lib.hid hga;rw [hga] at hg1 hB ⊢;obtain ⟨W,hW⟩ : ∃ W,W = w.alloc (.cells (zS xN) 25):=⟨_,rfl⟩
  rw [← hW] at h1 hg1 hB ⊢;clear hW hga h;have hc0 : W.cell? ⟨g,0,none⟩ = some (.string t):=h1.cell 0 rfl;(go_wp2_with fail);refine (c1 _).mono ?_;rintro e w2 ⟨rfl,hb2⟩;have h2:=h1.below hb2;have hg2:=(hb2.block ga (Array.getElem?_eq_some_iff.1 hg1).1).trans hg1;have hB2 : Below ga w w2:=hB.trans (hb2.mono (by have:=hB.size;have:=Hga.out;omega));have hs2 : ga < w2.heap.size:=(Array.getElem?_eq_some_iff.1 hg2).1;clear hc0 h1 hg1 hB hb2 c1;have cl2:=cl w2 si sa sg sl sm so ss sd h2;have hgv : w2.cell? ⟨g,5,none⟩ = some (.slice sl.A sl.n sl.c):=h2.cell 5 rfl;clear cl h2;(go_wp2_with fail);refine cl2.mono ?_;rintro e w3 ⟨A,n,cap,rfl,hown,hb3⟩;have hg3:=(hb3.block ga hs2).trans hg2;have hB3 : Below ga w w3:=hB2.trans (hb3.mono (by omega));clear hg2 hB2 cl2 hgv;have hsto:=yY (P:=Tryz.prog) qF w3 ga (zS xN) (zS ⟨4,0,.slice A n cap⟩) _ hg3 (by simp) (by simp) (v6 _ rfl);have hkf : zC [ga] w3 (w3.setRow ga (zS ⟨4,0,.slice A n cap⟩)):=⟨rfl,rfl,rfl,by simp [World.setRow],fun x _ hx=>setRow_other w3 ga x _ (by simpa using hx)⟩
  have Hfin:=Lib.hid (setRow_heap w3 ga _ (zS ⟨4,0,.slice A n cap⟩) _ _ hg3);have HBf:=Lib.hid (hB3.trans (hkf.below (by have:=hB3.size;have:=Hga.out;omega) (by simp)));have HO:=Lib.hid ((hown.kept hkf (fun x hx=>by have:=hown.at_base hx;simp;omega)).mono (B':=w.heap.size) (by have:=Hga.out;omega));clear hkf hg3 hB3 hown hb3;(go_wp2_with fail);refine bodyPost_ret (results_cell_row Tryz.results31 _ _ ga 25 (zS ⟨4,0,.slice A n cap⟩) (0,0) _ rfl Hfin.out Tryz.underlying25 rfl (by rw [jH];exact qF)) rfl ?_;exact ⟨A,n,cap,rfl,HO.out,by rw [Hga.out];exact HBf.out⟩
set_option maxRecDepth 100000 in
set_option maxHeartbeats 2000000 in
theorem XL (w : World) (g : Nat) (t : ByteArray) (I : List zK) (x : RV) (L : List j3) (h : qJ w g t I x) (ht : t.size ≤ 9223372036854775807) (hk : yU t = 5)
    (cl : ∀ w' si sa sg sl sm so ss sd,gW w' g t I x si sa sg sl sm so ss sd → Calls Tryz.prog 77 #[.pointer (some ⟨g,8,none⟩)] w' fun e w''=>∃ A n cap,e = .returned (.slice A n cap) ∧ Own w'' w'.heap.size 98 2 A n cap (L.map zV) ∧ Below w'.heap.size w' w'') :
    Calls Tryz.prog 31 #[.pointer (some ⟨g,0,none⟩)] w fun e w'=>∃ A n cap,e = .returned (.agg (zS ⟨5,0,.slice A n cap⟩)) ∧ Own w' w.heap.size 98 2 A n cap (L.map zV) ∧ Below w.heap.size w w':=by
  obtain ⟨si,sa,sg,sl,sm,so,ss,sd,h⟩:=h;have c1:=fun w=>jO t w ht;rw [hk] at c1;have hB : Below w.heap.size w (w.alloc (.cells (zS xN) 25)):=(Below.refl _ _).alloc (Nat.le_refl _) _;have h1:=h.below hB;have hg1 : (w.alloc (.cells (zS xN) 25)).heap[w.heap.size]? = some (.cells (zS xN) 25 (0,0)):=heap_alloc_new w _;go_enter Tryz.func31,Tryz.ntmps31
  go_upto_region 1 with fail
  obtain ⟨ga,hga⟩ : ∃ ga,w.heap.size = ga:=⟨_,rfl⟩
  have Hga:=Lib.hid hga;rw [hga] at hg1 hB ⊢;obtain ⟨W,hW⟩ : ∃ W,W = w.alloc (.cells (zS xN) 25):=⟨_,rfl⟩
  rw [← hW] at h1 hg1 hB ⊢;clear hW hga h;have hc0 : W.cell? ⟨g,0,none⟩ = some (.string t):=h1.cell 0 rfl;(go_wp2_with fail);refine (c1 _).mono ?_;rintro e w2 ⟨rfl,hb2⟩;have h2:=h1.below hb2;have hg2:=(hb2.block ga (Array.getElem?_eq_some_iff.1 hg1).1).trans hg1;have hB2 : Below ga w w2:=hB.trans (hb2.mono (by have:=hB.size;have:=Hga.out;omega));have hs2 : ga < w2.heap.size:=(Array.getElem?_eq_some_iff.1 hg2).1;clear hc0 h1 hg1 hB hb2 c1;have cl2:=cl w2 si sa sg sl sm so ss sd h2;have hgv : w2.cell? ⟨g,5,none⟩ = some (.slice sl.A sl.n sl.c):=h2.cell 5 rfl;clear cl h2;(go_wp2_with fail);refine cl2.mono ?_;rintro e w3 ⟨A,n,cap,rfl,hown,hb3⟩;have hg3:=(hb3.block ga hs2).trans hg2;have hB3 : Below ga w w3:=hB2.trans (hb3.mono (by omega));clear hg2 hB2 cl2 hgv;have hsto:=yY (P:=Tryz.prog) qF w3 ga (zS xN) (zS ⟨5,0,.slice A n cap⟩) _ hg3 (by simp) (by simp) (v6 _ rfl);have hkf : zC [ga] w3 (w3.setRow ga (zS ⟨5,0,.slice A n cap⟩)):=⟨rfl,rfl,rfl,by simp [World.setRow],fun x _ hx=>setRow_other w3 ga x _ (by simpa using hx)⟩
  have Hfin:=Lib.hid (setRow_heap w3 ga _ (zS ⟨5,0,.slice A n cap⟩) _ _ hg3);have HBf:=Lib.hid (hB3.trans (hkf.below (by have:=hB3.size;have:=Hga.out;omega) (by simp)));have HO:=Lib.hid ((hown.kept hkf (fun x hx=>by have:=hown.at_base hx;simp;omega)).mono (B':=w.heap.size) (by have:=Hga.out;omega));clear hkf hg3 hB3 hown hb3;(go_wp2_with fail);refine bodyPost_ret (results_cell_row Tryz.results31 _ _ ga 25 (zS ⟨5,0,.slice A n cap⟩) (0,0) _ rfl Hfin.out Tryz.underlying25 rfl (by rw [jH];exact qF)) rfl ?_;exact ⟨A,n,cap,rfl,HO.out,by rw [Hga.out];exact HBf.out⟩
set_option maxRecDepth 100000 in
set_option maxHeartbeats 2000000 in
theorem XK (w : World) (g : Nat) (t : ByteArray) (I : List zK) (x : RV) (h : qJ w g t I x) (ht : t.size ≤ 9223372036854775807) (hk : yU t = 1) :
    Calls Tryz.prog 31 #[.pointer (some ⟨g,0,none⟩)] w fun e w'=>e = .returned (.agg (zS ⟨1,x.tal,.slice none 0 0⟩)) ∧ Below w.heap.size w w':=by
  obtain ⟨si,sa,sg,sl,sm,so,ss,sd,h⟩:=h;have c1:=fun w=>jO t w ht;rw [hk] at c1;have hB : Below w.heap.size w (w.alloc (.cells (zS xN) 25)):=(Below.refl _ _).alloc (Nat.le_refl _) _;have h1:=h.below hB;have hg1 : (w.alloc (.cells (zS xN) 25)).heap[w.heap.size]? = some (.cells (zS xN) 25 (0,0)):=heap_alloc_new w _;go_enter Tryz.func31,Tryz.ntmps31
  go_upto_region 1 with fail
  obtain ⟨ga,hga⟩ : ∃ ga,w.heap.size = ga:=⟨_,rfl⟩
  have Hga:=Lib.hid hga;rw [hga] at hg1 hB ⊢;obtain ⟨W,hW⟩ : ∃ W,W = w.alloc (.cells (zS xN) 25):=⟨_,rfl⟩
  rw [← hW] at h1 hg1 hB ⊢;clear hW hga h;have hc0 : W.cell? ⟨g,0,none⟩ = some (.string t):=h1.cell 0 rfl;(go_wp2_with fail);refine (c1 _).mono ?_;rintro e w2 ⟨rfl,hb2⟩;have h2:=h1.below hb2;have hg2:=(hb2.block ga (Array.getElem?_eq_some_iff.1 hg1).1).trans hg1;have hB2 : Below ga w w2:=hB.trans (hb2.mono (by have:=hB.size;have:=Hga.out;omega));have hs2 : ga < w2.heap.size:=(Array.getElem?_eq_some_iff.1 hg2).1;clear hc0 h1 hg1 hB hb2 c1;have hgv : w2.cell? ⟨g,2,none⟩ = some (.int .i64 x.tal):=h2.cell 2 rfl;clear h2;obtain ⟨w3,rfl⟩ : ∃ w3,w3 = w2:=⟨_,rfl⟩
  have hg3:=hg2;have hB3:=hB2;clear hg2 hB2;have hsto:=yY (P:=Tryz.prog) qF w3 ga (zS xN) (zS ⟨1,x.tal,.slice none 0 0⟩) _ hg3 (by simp) (by simp) (v6 _ rfl);have hkf : zC [ga] w3 (w3.setRow ga (zS ⟨1,x.tal,.slice none 0 0⟩)):=⟨rfl,rfl,rfl,by simp [World.setRow],fun x _ hx=>setRow_other w3 ga x _ (by simpa using hx)⟩
  have Hfin:=Lib.hid (setRow_heap w3 ga _ (zS ⟨1,x.tal,.slice none 0 0⟩) _ _ hg3);have HBf:=Lib.hid (hB3.trans (hkf.below (by have:=hB3.size;have:=Hga.out;omega) (by simp)));clear hkf hg3 hB3;(go_wp2_with fail);refine bodyPost_ret (results_cell_row Tryz.results31 _ _ ga 25 (zS ⟨1,x.tal,.slice none 0 0⟩) (0,0) _ rfl Hfin.out Tryz.underlying25 rfl (by rw [jH];exact qF)) rfl ?_;exact ⟨rfl,by rw [Hga.out];exact HBf.out⟩
theorem rvvalue (w : World) (g : Nat) (t : ByteArray) (I : List zK) (x : RV) (h : qJ w g t I x) (ht : t.size ≤ 9223372036854775807) (hk : yU t ≠ 0) (hok : hU x) (hl : x.len ≤ 10000) :
    Calls Tryz.prog 31 #[.pointer (some ⟨g,0,none⟩)] w fun e w'=>∃ A n cap,e = .returned (.agg (zS ⟨yU t,numR (yU t) x,.slice A n cap⟩)) ∧ Own w' w.heap.size 98 2 A n cap ((VW (yU t) x).map zV) ∧ Below w.heap.size w w':=by
  unfold RV.len at hl;rcases gP t with e | e | e | e | e | e
  · exact absurd e hk
  · rw [e];exact (XK w g t I x h ht e).mono fun e w' ⟨h1,h2⟩=>⟨none,0,0,h1,Own.nil _ _ _ _,h2⟩
  · rw [e];exact XO w g t I x ((jU (kM x.adds x.gone)).map wG) h ht e fun w' si sa sg sl sm so ss sd h' =>
      (rlist3 w' g x.adds x.gone ⟨sa.A,sa.n,sa.c,sg.A,sg.n,sg.c,h'.cell 3 rfl,h'.cell 4 rfl,h'.adds.1.rd,h'.gone.1.rd⟩ (by omega) (by omega)).mono fun e w'' ⟨A,cap,h1,h2,h3⟩ =>
        ⟨A,_,cap,h1,(by rw [List.map_map];exact h2),h3⟩
  · rw [e];exact XN w g t I x ((xH x.last).map wH) h ht e fun w' si sa sg sl sm so ss sd h' =>
      (rlistL w' sl.A sl.n sl.c x.last h'.last.1.rd (by have:=h'.lens;omega)).mono fun e w'' ⟨A,cap,h1,h2,h3⟩=>⟨A,_,cap,h1,h2,h3⟩
  · rw [e];exact XM w g t I x (jY (lvM x.mL x.mO)) h ht e fun w' si sa sg sl sm so ss sd h' =>
      (rmlist w' g x.mL x.mO ⟨sm.A,sm.n,sm.c,so.A,so.n,so.c,h'.cell 6 rfl,h'.cell 7 rfl,h'.mL.1.rd,h'.mO.1.rd⟩ (by omega) (by omega)).mono fun e w'' ⟨A,n,cap,h1,h2,h3⟩=>⟨A,n,cap,h1,h2,h3⟩
  · rw [e];exact XL w g t I x (g5 x.sL x.sG) h ht e fun w' si sa sg sl sm so ss sd h' =>
      (rslist w' g x.sL x.sG ⟨ss.A,ss.n,ss.c,sd.A,sd.n,sd.c,h'.cell 8 rfl,h'.cell 9 rfl,h'.sL.1.rd,h'.sG.1.rd⟩ hok.sL (by omega) (by omega)).mono fun e w'' ⟨A,n,cap,h1,h2,h3⟩=>⟨A,n,cap,h1,h2,h3⟩
end
section
open Go.RowKit
def pow256 : Nat → Int | 0=>1 | k + 1=>256 * pow256 k
theorem pE (k n : Nat) : beL (k + 1) n = beL k (n / 256) ++ [UInt8.ofNat n]:=by
  induction k generalizing n with
  | zero=>simp [beL]
  | succ k ih =>
    have h1:=ih n;show UInt8.ofNat (n / 256 ^ (k + 1)) :: beL (k + 1) n = (UInt8.ofNat (n / 256 / 256 ^ k) :: beL k (n / 256)) ++ [UInt8.ofNat n];rw [h1,Nat.pow_succ,Nat.mul_comm,← Nat.div_div_eq_div_mul];rfl
theorem mk1 (w : World) : (Instr.makeSlice 37 (.int .i64 1) (.int .i64 1)).run Tryz.prog w = .ok (.slice (some ⟨w.heap.size,0,none⟩) 1 1) (w.alloc (.cells #[.int .u8 0] 5)):=by kernel_rfl
theorem mk4 (w : World) : (Instr.makeSlice 37 (.int .i64 4) (.int .i64 4)).run Tryz.prog w = .ok (.slice (some ⟨w.heap.size,0,none⟩) 4 4) (w.alloc (.cells #[.int .u8 0,.int .u8 0,.int .u8 0,.int .u8 0] 5)):=by kernel_rfl
theorem wZ (w : World) (bs : List UInt8) (n : Nat) (hn : n = bs.length) (cs : Array Value) (hc : cs = (bs.map v9).toArray) :
    (convert 37 9 (.slice (some ⟨w.heap.size,0,none⟩) n n)).run Tryz.prog (w.alloc (.cells cs 5)) = .ok (.string ⟨bs.toArray⟩) (w.alloc (.cells cs 5)):=by
  subst hn;subst hc;exact run_convert_bytes_back (P:=Tryz.prog) _ 37 9 5 ⟨w.heap.size,0,none⟩ bs.length bs Tryz.underlying37 Tryz.underlying5 Tryz.underlying9 (fun j hj=>by simp [go_sem,v9,hj])
theorem u8n (n : Nat) : ((n : Int) % 256) = ((UInt8.ofNat n).toNat : Int):=by simp
set_option maxHeartbeats 1000000 in
set_option maxRecDepth 100000 in
theorem VE (n : Nat) (w : World) (h : n < 256) :
    Calls Tryz.prog 83 #[.int .i64 n,.int .i64 1] w fun e w'=>e = .returned (.tuple #[.string ⟨(beL 1 n).toArray⟩,.int .i64 0]) ∧ Below w.heap.size w w':=by
  have hd1 : decide ((n : Int) < 0) = false:=by simp
  have hd2 : decide (256 ≤ (n : Int)) = false:=by simp;omega
  have hcv:=wZ w (beL 1 n) 1 rfl #[.int .u8 ((n : Int) % 256)] (by rw [u8n];simp [beL,v9]);obtain ⟨bs,hbs⟩ : ∃ bs,beL 1 n = bs:=⟨_,rfl⟩
  rw [hbs] at hcv ⊢;clear hbs;have hmk:=mk1;go_enter Tryz.func83,Tryz.ntmps83
  (go_wp2_with fail);refine wp_loop_rounds 1 ?_;rw [rounds_succ];(go_wp2_with fail);refine wp_loop_rounds 2 ?_;rw [rounds_succ];(go_wp2_with fail);rw [rounds_succ];(go_wp2_with fail);go_ret2;exact ⟨rfl,(Below.refl _ _).alloc (Nat.le_refl _) _⟩
set_option maxHeartbeats 1000000 in
set_option maxRecDepth 100000 in
theorem rnum4 (n : Nat) (w : World) (h : n < 4294967296) :
    Calls Tryz.prog 83 #[.int .i64 n,.int .i64 4] w fun e w'=>e = .returned (.tuple #[.string ⟨(beL 4 n).toArray⟩,.int .i64 0]) ∧ Below w.heap.size w w':=by
  have hd1 : decide ((n : Int) < 0) = false:=by simp
  have hd2 : decide (4294967296 ≤ (n : Int)) = false:=by simp;omega
  have hcv:=wZ w (beL 4 n) 4 rfl #[.int .u8 ((n : Int) / 256 / 256 / 256 % 256),.int .u8 ((n : Int) / 256 / 256 % 256),.int .u8 ((n : Int) / 256 % 256),.int .u8 ((n : Int) % 256)] (by
    have e1 : (n : Int) / 256 = ((n / 256 : Nat) : Int):=by simp
    have e2 : ((n / 256 : Nat) : Int) / 256 = ((n / 256 / 256 : Nat) : Int):=by simp
    have e3 : ((n / 256 / 256 : Nat) : Int) / 256 = ((n / 256 / 256 / 256 : Nat) : Int):=by simp
    rw [e1,e2,e3,u8n,u8n,u8n,u8n,pE,pE,pE];simp [beL,v9])
  obtain ⟨bs,hbs⟩ : ∃ bs,beL 4 n = bs:=⟨_,rfl⟩
  rw [hbs] at hcv ⊢;clear hbs;have hmk:=mk4;go_enter Tryz.func83,Tryz.ntmps83
  (go_wp2_with fail);refine wp_loop_rounds 4 ?_;rw [rounds_succ];(go_wp2_with fail);rw [rounds_succ];(go_wp2_with fail);rw [rounds_succ];(go_wp2_with fail);rw [rounds_succ];(go_wp2_with fail);refine wp_loop_rounds 5 ?_;rw [rounds_succ];(go_wp2_with fail);rw [rounds_succ];(go_wp2_with fail);rw [rounds_succ];(go_wp2_with fail);rw [rounds_succ];(go_wp2_with fail);rw [rounds_succ];(go_wp2_with fail);go_ret2;exact ⟨rfl,(Below.refl _ _).alloc (Nat.le_refl _) _⟩
theorem gZ (n M : Nat) (w : World) (hM : M = 1 ∨ M = 4) (h : n < 256 ^ M) :
    Calls Tryz.prog 83 #[.int .i64 n,.int .i64 M] w fun e w'=>∃ s : ByteArray,e = .returned (.tuple #[.string s,.int .i64 0]) ∧ s.size = M ∧ s.data.toList = beL M n ∧ Below w.heap.size w w':=by
  have c : Calls Tryz.prog 83 #[.int .i64 n,.int .i64 M] w fun e w'=>e = .returned (.tuple #[.string ⟨(beL M n).toArray⟩,.int .i64 0]) ∧ Below w.heap.size w w':=by
    rcases hM with rfl | rfl
    · exact VE n w h
    · exact rnum4 n w h
  exact c.mono fun _ _ ⟨he,hb⟩=>⟨_,he,(by show (beL M n).toArray.size = M;simp [yC]),by simp,hb⟩
end
section
open Go.RowKit
set_option maxRecDepth 100000 in
set_option maxHeartbeats 1000000 in
theorem rput21 (n : Int) (w : World) :
    Calls Tryz.prog 85 #[.int .i64 n] w fun e w'=>∃ s : ByteArray,e = .returned (.string s) ∧ s.size = 8 ∧ s.data.toList = d7 n ∧ Below w.heap.size w w':=by
  have hlt:=sV n;have ew : IntKind.u64.wrap n = ((tB n : Nat) : Int):=by rw [rE];rfl
  have hp : d7 n = beL 4 (tB n / 4294967296) ++ beL 4 (tB n % 4294967296):=rfl;obtain ⟨x,hx⟩ : ∃ x,tB n = x:=⟨_,rfl⟩
  rw [hx] at hlt ew hp;have Hp:=Lib.hid hp;clear hx hp;have c1:=gZ (x / 4294967296) 4 w (.inr rfl) (by omega);have c2:=fun w=>gZ (x % 4294967296) 4 w (.inr rfl) (by omega);go_enter Tryz.func85,Tryz.ntmps85
  (go_wp2_with fail);have e1 : (x : Int) / 4294967296 = ((x / 4294967296 : Nat) : Int):=by omega
  rw [e1];refine c1.mono ?_;rintro e w2 ⟨s2,rfl,hz2,hs2,hb2⟩;have Hs2:=Lib.hid hs2;clear c1 hs2 e1;(go_wp2_with fail);have e2 : (x : Int) % 4294967296 = ((x % 4294967296 : Nat) : Int):=by omega
  rw [e2];refine (c2 _).mono ?_;rintro e w3 ⟨s3,rfl,hz3,hs3,hb3⟩;have Hs3:=Lib.hid hs3;have l1 : ¬ 9223372036854775807 < s2.size + s3.size:=by omega
  clear c2 hs3 e2;(go_wp2_with fail);go_ret;exact ⟨_,rfl,by rw [ByteArray.size_append];omega,by rw [ByteArray.data_append,Array.toList_append,Hs2.out,Hs3.out,Hp.out],yN hb2 hb3⟩
end
section
open Go.RowKit
theorem bs1_u8 (w : World) (c : Int) : (Instr.buildSlice 37 1 #[(0,.int .u8 c)]).run Tryz.prog w = .ok (.slice (some ⟨w.heap.size,0,none⟩) 1 1) (w.alloc (.cells #[.int .u8 c] 5)):=by
  have h0 : (bsS 37 1 #[(0,.agg #[.int .u8 c])]).run Tryz.prog w = _:=kS sI (by omega) w #[.int .u8 c] (by simp);exact h0
set_option maxHeartbeats 1000000 in
set_option maxRecDepth 100000 in
theorem cK (d : zK) (w : World) (q o c : Nat) (h : zF w q o 32 = some (idC d)) :
    Calls Tryz.prog 84 #[.slice (some ⟨q,o,none⟩) 1 c] w fun e w'=>∃ s : ByteArray,e = .returned (.string s) ∧ s.data.toList = 1 :: d.l ∧ Below w.heap.size w w':=by
  have c1:=VE 1 w (by omega);go_enter Tryz.func84,Tryz.ntmps84
  (go_wp2_with fail);refine c1.mono ?_;rintro e w1 ⟨rfl,hb1⟩;clear c1;have hr1 : zF w1 q o 32 = some (idC d):=(zI (hb1.block q (zL h)) _ _).trans h;obtain ⟨s0,hs0⟩ : ∃ s0 : ByteArray,(⟨(beL 1 1).toArray⟩ : ByteArray) = s0:=⟨_,rfl⟩
  have Hs0:=Lib.hid hs0;rw [hs0];clear hs0;(go_wp2_with fail);refine wp_loop_rounds 2 ?_;rw [rounds_succ];(go_wp2_with fail);go_loopw [3,6] (fun v i wr=>∃ (k : Nat) (s : ByteArray),k ≤ 32 ∧ i = .int .i64 k ∧ v = .string s ∧ s.size = 1 + k ∧ Hid (s.data.toList = 1 :: d.l.take k) ∧ Below w1.heap.size w1 wr) (fun _ i _=>32 - (intOf i).toNat)
  case atStart=>exact ⟨0,s0,by omega,rfl,rfl,(by rw [← Hs0.out];rfl),(show s0.data.toList = _ by rw [← Hs0.out];rfl),Below.refl _ _⟩
  case round =>
    obtain ⟨k,s,hk,rfl,rfl,hsz,hs,hb⟩:=hrel;by_cases hlt : k < 32
    · have hr2 : zF wr q o 32 = some (idC d):=(zI (hb.block q (zL hr1)) _ _).trans hr1;have hc:=zD hr2 (j:=k) hlt;have hdk : k < d.l.length:=by rw [d.h];exact hlt
      have hce : (idC d)[k]? = some (.int .u8 (d.l[k]).toNat):=by simp [idC,v9,hdk]
      rw [hce] at hc;have htk : d.l.take (k + 1) = d.l.take k ++ [d.l[k]]:=by rw [List.take_add_one,List.getElem?_eq_getElem hdk];rfl
      obtain ⟨x,hx⟩ : ∃ x,d.l[k] = x:=⟨_,rfl⟩
      rw [hx] at hc htk;have Htk:=Lib.hid htk;have hbs:=bs1_u8 wr (x.toNat : Int);have hcv:=wZ wr [x] 1 rfl #[.int .u8 (x.toNat : Int)] rfl;clear hce hx htk hr2;have hbn : Below w1.heap.size w1 (wr.alloc (.cells #[.int .u8 (x.toNat : Int)] 5)):=hb.alloc hb.size _;(go_wp2_with fail);go_roundw
      case rel=>exact ⟨k + 1,_,by omega,by go_num,rfl,(by rw [ByteArray.size_append,hsz];rfl),(show (s ++ ⟨#[x]⟩).data.toList = _ by rw [Htk.out,ByteArray.data_append,Array.toList_append,hs.out];rfl),hbn⟩
      case measure=>simp [intOf];omega
    · have hk32 : k = 32:=by omega
      have e : d.l.take k = d.l:=List.take_of_length_le (by rw [d.h];omega);have hs':=hs.out;rw [e] at hs';have Hs:=Lib.hid hs';clear hs hs' hsz e hk32;(go_wp2_with fail);rw [rounds_succ];(go_wp2_with fail);go_ret;exact ⟨s,rfl,Hs.out,yN hb1 hb⟩
theorem kZ {s : ByteArray} {d : zK} (h : s.data.toList = 1 :: d.l) : (s.extract 1 s.size).data.toList = d.l:=by
  have hs : s.data.toList.length = s.size:=Array.length_toList;rw [ByteArray.data_extract,Array.toList_extract,h];have : s.size = 33:=by rw [← hs,h];simp [d.h]
  rw [this];simp [List.extract_eq_take_drop,List.take_of_length_le,d.h]
end
section
open Go.RowKit
set_option maxHeartbeats 1000000 in
theorem cH (n M : Nat) (w : World) (hM : M = 1 ∨ M = 4) (h : n < 256 ^ M) :
    Calls Tryz.prog 163 #[.int .i64 n,.int .i64 M] w fun e w'=>∃ s : ByteArray,e = .returned (.string s) ∧ s.size = M ∧ s.data.toList = beL M n ∧ Below w.heap.size w w':=by
  have c:=gZ n M w hM h;clear h hM;go_enter Tryz.func163,Tryz.ntmps163
  (go_wp2_with fail);refine c.mono ?_;rintro e w1 ⟨s,rfl,h1,h2,hb⟩;have H1:=Lib.hid h1;have H2:=Lib.hid h2;clear c h1 h2;(go_wp2_with fail);go_ret;exact ⟨s,rfl,H1.out,H2.out,hb⟩
set_option maxHeartbeats 1000000 in
theorem VB (d : zK) (w : World) :
    Calls Tryz.prog 164 #[.agg (idC d)] w fun e w'=>∃ s : ByteArray,e = .returned (.string s) ∧ s.size = 32 ∧ s.data.toList = d.l ∧ Below w.heap.size w w':=by
  have hB : Below w.heap.size w ((w.alloc (.cells (idC d) 39)).alloc (.cells (idC d) 39)):=((Below.refl _ _).alloc (Nat.le_refl _) _).alloc (by simp) _;have hr : zF ((w.alloc (.cells (idC d) 39)).alloc (.cells (idC d) 39)) (w.heap.size + 1) 0 32 = some (idC d):=by simp [go_sem]
  have c:=cK d _ (w.heap.size + 1) 0 1 hr;clear hr;go_enter Tryz.func164,Tryz.ntmps164
  (go_wp2_with fail);refine c.mono ?_;rintro e w1 ⟨s,rfl,h1,hb⟩;have hs : s.size = 33:=by
    have : s.data.toList.length = s.size:=Array.length_toList;rw [← this,h1];simp [d.h]
  have h2:=kZ h1;rw [hs] at h2;have H2:=Lib.hid h2;have hbb:=yN hB hb;clear c h1 h2 hB hb;(go_wp2_with fail);go_ret;exact ⟨_,rfl,(by rw [ByteArray.size_extract];omega),H2.out,hbb⟩
set_option maxHeartbeats 1000000 in
theorem cG (n M : Nat) (w : World) (hM : M = 1 ∨ M = 4) (h : n < 256 ^ M) :
    Calls Tryz.prog 166 #[.int .i64 n,.int .i64 M] w fun e w'=>∃ s : ByteArray,e = .returned (.string s) ∧ s.size = M ∧ s.data.toList = beL M n ∧ Below w.heap.size w w':=by
  have c:=gZ n M w hM h;clear h hM;go_enter Tryz.func166,Tryz.ntmps166
  (go_wp2_with fail);refine c.mono ?_;rintro e w1 ⟨s,rfl,h1,h2,hb⟩;have H1:=Lib.hid h1;have H2:=Lib.hid h2;clear c h1 h2;(go_wp2_with fail);go_ret;exact ⟨s,rfl,H1.out,H2.out,hb⟩
set_option maxHeartbeats 1000000 in
theorem ZI (d : zK) (w : World) :
    Calls Tryz.prog 167 #[.agg (idC d)] w fun e w'=>∃ s : ByteArray,e = .returned (.string s) ∧ s.size = 32 ∧ s.data.toList = d.l ∧ Below w.heap.size w w':=by
  have hB : Below w.heap.size w ((w.alloc (.cells (idC d) 39)).alloc (.cells (idC d) 39)):=((Below.refl _ _).alloc (Nat.le_refl _) _).alloc (by simp) _;have hr : zF ((w.alloc (.cells (idC d) 39)).alloc (.cells (idC d) 39)) (w.heap.size + 1) 0 32 = some (idC d):=by simp [go_sem]
  have c:=cK d _ (w.heap.size + 1) 0 1 hr;clear hr;go_enter Tryz.func167,Tryz.ntmps167
  (go_wp2_with fail);refine c.mono ?_;rintro e w1 ⟨s,rfl,h1,hb⟩;have hs : s.size = 33:=by
    have : s.data.toList.length = s.size:=Array.length_toList;rw [← this,h1];simp [d.h]
  have h2:=kZ h1;rw [hs] at h2;have H2:=Lib.hid h2;have hbb:=yN hB hb;clear c h1 h2 hB hb;(go_wp2_with fail);go_ret;exact ⟨_,rfl,(by rw [ByteArray.size_extract];omega),H2.out,hbb⟩
end
end Go.Proofs.YtgfpjjppeldhbaaGreatDoor
