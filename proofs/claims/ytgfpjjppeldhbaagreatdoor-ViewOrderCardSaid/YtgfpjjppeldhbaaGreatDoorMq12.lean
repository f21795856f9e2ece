/- Part 12 of the texts that lead to this claim: the walks of the functions and the plain law, in order. -/
import Derived.Test.YtgfpjjppeldhbaaGreatDoorMq11
import Derived.Test.YtgfpjjppeldhbaaGreatDoorRows
import Derived.LaidLaws
import Derived.LaidHandle
import Derived.Stop.Joined
namespace Go.Proofs.YtgfpjjppeldhbaaGreatDoor
section
open Go.RowKit
def boolC (b : Bool) : Array Value:=#[.bool b]
theorem vput_eq {t : ByteArray} {i : Nat} {I : List Id32} {s : VSt} (T : Told t i I s) (hi : i ≤ 30) (P : ByteArray) (hP : (⟨(putVB I s).toArray⟩ : ByteArray) = P) (w : World) (g b : Nat) (O : List Nat) (v : Value) (h : VAt w g t b O I v s) :
    Calls Tryz.prog 34 #[.pointer (some ⟨g,0,none⟩)] w fun e w'=>e = .returned (.string P) ∧ Below w.heap.size w w':=by
  subst hP;exact vputT T hi w g b O v h
theorem stepI_mem (m : MarkV) (I : List Id32) : m.id ∈ stepI m I:=by
  unfold stepI;by_cases h : m.id ∈ I
  · rw [if_pos h];exact h
  · rw [if_neg h];exact List.mem_cons_self
theorem vfold_again (m : MarkV) (w : World) (g : Nat) (t : ByteArray) (b : Nat) (O : List Nat) (I : List Id32) (v : Value) (s : VSt) (h : VAt w g t b O I v s) (hm : m.id ∈ I) :
    Calls Tryz.prog 26 #[.pointer (some ⟨g,0,none⟩),.agg (markVC m)] w fun e w'=>e = .returned (.bool false) ∧ Below w.heap.size w w':=vfold_old m w g t b I v h.view hm
set_option maxRecDepth 100000 in
set_option maxHeartbeats 8000000 in
theorem viewOrder_any (t : ByteArray) (A : Option Addr) (n cap : Nat) (R : List MarkV) (A2 : Option Addr) (n2 cap2 : Nat) (B : List Bool) (at_ : Nat) (w : World) (hp : PartsVar w) (ht : t.size ≤ 9223372036854775807) (h : MarksOk w A n R) (hB : SlR w A2 n2 1 (B.map boolC)) (hn2 : n2 ≤ 9223372036854775807) (hat : at_ < 256) :
    Calls Tryz.prog 10 #[.string t,.slice A n cap,.slice A2 n2 cap2,.int .u8 at_] w fun e w'=>e = .returned (.bool true) ∧ Below w.heap.size w w':=by
  have hlen:=h.rows.len;have hBl : B.length = n2:=by simpa using hB.1
  have hnb:=h.big;have c1:=vmuch w A n cap R h;have hrows:=h.rows;have hpl:=hp.lt;have HBl:=Lib.hid hBl;clear h hBl;go_enter Tryz.func10,Tryz.ntmps10
  (go_wp2_with fail);refine c1.mono ?_;rintro e w1 ⟨mb,rfl,hfew,hb1⟩;have hp1:=hp.below hb1;clear c1;cases mb with
  | true =>
    clear hfew;(go_wp2_with fail);refine (awake26 w1 hp1).mono ?_;rintro e w2 ⟨rfl,hb2⟩;(go_wp2_with fail);go_ret;exact ⟨rfl,bel2 hb1 hb2⟩
  | false =>
    have hf:=hfew rfl;have hn30 : n ≤ 30:=by have:=hf.1;omega
    have hr1 : MarksIn w1 A n R:=SlR.below hrows hb1;have Hf:=Lib.hid hf;have Hlen:=Lib.hid hlen;clear hfew hf hlen;(go_wp2_with fail);refine (vonce w1 A n cap R hr1 hn30).mono ?_;rintro e w2 ⟨ob,rfl,hone,hb2⟩;have hp2:=hp1.below hb2;have hb02:=bel2 hb1 hb2;clear hr1 hb1 hb2;cases ob with
    | false =>
      clear hone;(go_wp2_with fail);refine (awake26 w2 hp2).mono ?_;rintro e w3 ⟨rfl,hb3⟩;(go_wp2_with fail);go_ret;exact ⟨rfl,bel2 hb02 hb3⟩
    | true =>
      have hO : OnceL R:=hone rfl;have HO:=Lib.hid hO;clear hone hO;have c2:=fun w=>rcheck_any t w ht;by_cases hk : kindB t = 0
      · have hcn : checkB t ≠ 0:=by unfold checkB;rw [if_pos hk];decide
        obtain ⟨E,hE⟩ : ∃ E,checkB t = E:=⟨_,rfl⟩
        rw [hE] at hcn c2;have hcb : (E != 0) = true:=by simpa using hcn
        clear hcn hk hE;(go_wp2_with fail);refine (c2 w2).mono ?_;rintro e w3 ⟨rfl,hb3⟩;have hp3:=hp2.below hb3;clear c2;(go_wp2_with fail);refine (awake26 w3 hp3).mono ?_;rintro e w4 ⟨rfl,hb4⟩;(go_wp2_with fail);go_ret;exact ⟨rfl,bel2 (bel2 hb02 hb3) hb4⟩
      · have hE : checkB t = 0:=by unfold checkB;rw [if_neg hk]
        rw [hE] at c2;have hT0:=(ToldR.new t hk).toTold;have hM0:=made_new t (kindB t);have c3:=fun w (hw : 0 < w.heap.size)=>vnew_any t w ht hk hw;obtain ⟨s0,hs0⟩ : ∃ s0,VSt.new (kindB t) = s0:=⟨_,rfl⟩
        rw [hs0] at hT0 hM0 c3;have Hk:=Lib.hid hk;have HT0:=Lib.hid hT0;have HM0:=Lib.hid hM0;clear hE hk hs0 hT0 hM0;(go_wp2_with fail);refine (c2 w2).mono ?_;rintro e w3 ⟨rfl,hb3⟩;have hp3:=hp2.below hb3;have hb03:=bel2 hb02 hb3;clear c2 hb02 hb3 hp2;(go_wp2_with fail);refine (c3 w3 (by have:=hb03.size;omega)).mono ?_;rintro e w4 ⟨g,b,O,v,rfl,hV,hbO,hgw,hb4⟩;have hp4:=hp3.below hb4;have hb04:=bel2 hb03 hb4;have hwO : ∀ x ∈ g :: b :: O,w.heap.size ≤ x ∧ x < w4.heap.size:=fun x hx=>by
          have:=hb03.size;rcases List.mem_cons.1 hx with h1 | h1
          · rw [h1];exact ⟨by omega,hV.view.lt⟩
          · exact ⟨by have:=hbO x h1;omega,hV.lt x h1⟩
        clear hb03 hb4 hp3 hbO hgw;(go_wp2_with fail);refine (c3 w4 (by have:=hb04.size;omega)).mono ?_;rintro e w5 ⟨g2,b2,O2,v2,rfl,hV2,hbO2,hgw2,hb5⟩;have hp5:=hp4.below hb5;have hb05:=bel2 hb04 hb5;have hV5:=hV.below hb5;have hwO2 : ∀ x ∈ g2 :: b2 :: O2,w4.heap.size ≤ x:=fun x hx=>by
          rcases List.mem_cons.1 hx with h1 | h1
          · rw [h1];exact hgw2
          · exact hbO2 x h1
        have hs45:=hb5.size;have hs04:=hb04.size;have HwO:=Lib.hid hwO;have HwO2:=Lib.hid hwO2;have HSm:=Lib.hid hV5.small;clear c3 hb04 hb5 hp4 hV hbO2 hgw2 hwO hwO2;(go_wp2_with fail);go_loopw [13] (fun iv wr=>∃ (i : Nat) (I : List Id32) (s : VSt),i ≤ n ∧ iv = .int .i64 i ∧ VAt wr g t b O I v s ∧ Hid (Told t i I s) ∧ Hid (Made t (R.take i) I s) ∧ Keep (b :: O) w5 wr) (fun iv _=>n - (intOf iv).toNat)
        case atStart=>exact ⟨0,[],s0,Nat.zero_le _,rfl,hV5,HT0,(show Made _ _ _ _ from by simpa using HM0.out),Keep.refl _ _⟩
        case round =>
          clear hV5;obtain ⟨i,I,s,hi,rfl,hVr,HT,HM,hkr⟩:=hrel;have hbS : ∀ x ∈ b :: O,w.heap.size ≤ x:=fun x hx=>(HwO.out x (List.mem_cons_of_mem _ hx)).1;have hpr : PartsVar wr:=hp5.kept hkr (fun h0=>by have:=hbS 0 h0;omega);by_cases hlt : i < n
          · obtain ⟨gm,om,rfl,hrow,hid,hbody⟩:=MarksIn.get hrows hlt (by rw [Hlen.out];exact hlt);have hmem : R[i]'(by rw [Hlen.out];exact hlt) ∈ R:=List.getElem_mem _;have hms:=Hf.out.2 _ hmem;have htk : R.take (i + 1) = R.take i ++ [R[i]'(by rw [Hlen.out];exact hlt)]:=by rw [List.take_add_one,List.getElem?_eq_getElem (by rw [Hlen.out];exact hlt)];rfl
            obtain ⟨m,hm⟩ : ∃ m,R[i]'(by rw [Hlen.out];exact hlt) = m:=⟨_,rfl⟩
            rw [hm] at hrow hms hmem htk;have hbrow : Below w.heap.size w wr:=hb05.trans (hkr.below (B:=w.heap.size) hb05.size hbS);have hrow' : rowAt wr gm (om + i * 34) 34 = some (markVC m):=(rowAt_of_block (hbrow.block gm (rowAt_lt hrow)) _ _).trans hrow;have cf:=vfold_step m wr g t b O I v s hVr hpr (by omega) ht HT.out.kind.symm (by have:=HT.out.len;omega);have hT':=HT.out.step m;have hM' : Made t (R.take (i + 1)) (stepI m I) (stepS t m I s):=by rw [htk];exact made_step HM.out HT.out.kind.symm HO.out (fun a ha=>List.mem_of_mem_take ha) hmem
            obtain ⟨I',hI'⟩ : ∃ I',stepI m I = I':=⟨_,rfl⟩
            obtain ⟨s',hs'⟩ : ∃ s',stepS t m I s = s':=⟨_,rfl⟩
            rw [hI',hs'] at cf hT' hM';have HT':=Lib.hid hT';have HM':=Lib.hid hM';clear hm hrow hid hbody hms hmem htk hI' hs' hT' hM' HT HM hbS;(go_wp2_with fail);refine cf.mono ?_;rintro e w6 ⟨rfl,hV6,hk6⟩;have hkn : Keep (b :: O) w5 w6:=Keep.trans hkr hk6 (fun x hx=>.inl hx);clear cf hk6 hVr hkr hrow';(go_wp2_with fail);go_roundw
            case rel=>exact ⟨i + 1,I',s',by omega,by go_num,hV6,HT',HM',hkn⟩
            case measure=>simp [intOf];omega
          · have hin : i = n:=by omega
            have e2 : R.take i = R:=List.take_of_length_le (by rw [Hlen.out];omega);have hMA:=HM.out;rw [e2] at hMA;have HMA:=Lib.hid hMA;have hTA:=HT.out;have HTA:=Lib.hid hTA;have hbr : Below w.heap.size w wr:=hb05.trans (hkr.below (B:=w.heap.size) hb05.size hbS);have hV2r : VAt wr g2 t b2 O2 [] v2 s0:=hV2.kept_small hkr HSm.out (fun x hx hm=>by have h1:=(HwO.out x (List.mem_cons_of_mem _ hm)).2;have h2:=HwO2.out x hx;omega);have hwr4 : w4.heap.size ≤ wr.heap.size:=by have:=hkr.size;omega
            obtain ⟨IA,hIA⟩ : ∃ IA,IA = I:=⟨_,rfl⟩
            obtain ⟨sA,hsA⟩ : ∃ sA,sA = s:=⟨_,rfl⟩
            rw [← hIA,← hsA] at hVr HMA HTA;obtain ⟨wA,rfl⟩ : ∃ wA,wA = wr:=⟨wr,rfl⟩
            clear hIA hsA hMA hTA HM HT e2 hkr hV2 hpr hbS hin;have hi30a : i ≤ 30:=by omega
            (go_wp2_with fail);clear hlt hi;go_loopw [11,14,15,16,17] (fun gv iv _ _ _ wr=>∃ (i : Nat) (gx bx : Nat) (Ox : List Nat) (vx : Value) (I : List Id32) (s : VSt),i ≤ n ∧ iv = .int .i64 i ∧ gv = .pointer (some ⟨gx,0,none⟩) ∧ VAt wr gx t bx Ox I vx s ∧ VAt wr g t b O IA v sA ∧ Hid (∀ x ∈ gx :: bx :: Ox,w4.heap.size ≤ x) ∧ Hid (Told t i I s) ∧ Hid (Made t (R.reverse.take i) I s) ∧ Below w.heap.size w wr ∧ w4.heap.size ≤ wr.heap.size) (fun _ iv _ _ _ _=>n - (intOf iv).toNat)
            case atStart=>exact ⟨0,g2,b2,O2,v2,[],s0,Nat.zero_le _,rfl,rfl,hV2r,hVr,HwO2,HT0,(show Made _ _ _ _ from by simpa using HM0.out),hbr,hwr4⟩
            case round =>
              clear hV2r hVr hbr hwr4;obtain ⟨i2,gx,bx,Ox,vx,I2,s2,hi2,rfl,rfl,hVx,hVa,Hbx,HT,HM,hbr,hwr4⟩:=hrel;have hpr : PartsVar wr:=hp.below hbr;by_cases hlt2 : i2 < n
              · obtain ⟨n1,hn1⟩ : ∃ n1,n - 1 = n1:=⟨_,rfl⟩
                obtain ⟨j,hj⟩ : ∃ j,n1 - i2 = j:=⟨_,rfl⟩
                have hk1 : ((n : Int) - 1) = (n1 : Int):=by omega
                have hw1 : IntKind.i64.wrap (n1 : Int) = (n1 : Int):=IntWalk.i64_in _ (by omega);have hk2 : ((n1 : Int) - (i2 : Int)) = (j : Int):=by omega
                have hw2 : IntKind.i64.wrap (j : Int) = (j : Int):=IntWalk.i64_in _ (by omega);have hjn : j < n:=by omega
                have hjR : j < R.length:=by rw [Hlen.out];exact hjn
                obtain ⟨gm,om,rfl,hrow,hid,hbody⟩:=MarksIn.get hrows hjn hjR;have hmem : R[j]'hjR ∈ R:=List.getElem_mem _;have hms:=Hf.out.2 _ hmem;have hi2R : i2 < R.reverse.length:=by rw [List.length_reverse,Hlen.out];exact hlt2
                have htk : R.reverse.take (i2 + 1) = R.reverse.take i2 ++ [R[j]'hjR]:=by
                  rw [List.take_add_one,List.getElem?_eq_getElem hi2R,List.getElem_reverse];have e : R.length - 1 - i2 = j:=by rw [Hlen.out];omega
                  simp only [e,Option.toList_some]
                obtain ⟨m,hm⟩ : ∃ m,R[j]'hjR = m:=⟨_,rfl⟩
                rw [hm] at hrow hms hmem htk;have hrow' : rowAt wr gm (om + j * 34) 34 = some (markVC m):=(rowAt_of_block (hbr.block gm (rowAt_lt hrow)) _ _).trans hrow;have hbx : Below wr.heap.size wr (wr.alloc (.cells (markVC m) 41)):=(Below.refl _ _).alloc (Nat.le_refl _) _;have hVx1:=hVx.below hbx;have hVa1:=hVa.below hbx;have hp1':=hpr.below hbx;have hbox : rowAt (wr.alloc (.cells (markVC m) 41)) wr.heap.size 0 34 = some (markVC m):=by simp [go_sem]
                have hb1':=bel2 hbr hbx;have hgbx : wr.heap.size ∉ bx :: Ox:=fun hx=>(by have:=hVx.lt _ hx;omega);have hszb : wr.heap.size < (wr.alloc (.cells (markVC m) 41)).heap.size:=by simp
                have hT':=HT.out.step m;have hM' : Made t (R.reverse.take (i2 + 1)) (stepI m I2) (stepS t m I2 s2):=by
                  rw [htk];exact made_step HM.out HT.out.kind.symm HO.out (fun a ha=>List.mem_reverse.1 (List.mem_of_mem_take ha)) hmem
                have hin':=stepI_mem m I2;have hkind2:=HT.out.kind;have hlen2:=HT.out.len;clear hm hrow hid hbody htk hmem hVx hVa hpr hbr hj hn1;go_upto_region 15 with fail
                obtain ⟨gb,hgb⟩ : ∃ gb,wr.heap.size = gb:=⟨_,rfl⟩
                obtain ⟨W,hW⟩ : ∃ W,wr.alloc (.cells (markVC m) 41) = W:=⟨_,rfl⟩
                rw [hW] at hVx1 hVa1 hp1' hbox hb1' hszb;rw [hW];rw [hgb] at hbox hgbx hwr4 hszb ⊢;have cf:=vfold_step m W gx t bx Ox I2 vx s2 hVx1 hp1' (by omega) ht hkind2.symm (by omega);obtain ⟨I',hI'⟩ : ∃ I',stepI m I2 = I':=⟨_,rfl⟩
                obtain ⟨s',hs'⟩ : ∃ s',stepS t m I2 s2 = s':=⟨_,rfl⟩
                rw [hI',hs'] at cf hT' hM';rw [hI'] at hin';have HT':=Lib.hid hT';have HM':=Lib.hid hM';have Hin:=Lib.hid hin';have hsmx:=hVx1.small;have Hsmx:=Lib.hid hsmx;have Hgbx:=Lib.hid hgbx;clear hW hgb hbx hI' hs' hT' hM' HT HM hin' hsmx hgbx hkind2 hlen2 hms hrow';(go_wp2_with fail);refine cf.mono ?_;rintro e w6 ⟨rfl,hVx6,hk6⟩;have hVa6 : VAt w6 g t b O IA v sA:=hVa1.kept_small hk6 Hsmx.out (fun x hx hm=>by have h1:=(HwO.out x hx).2;have h2:=Hbx.out x (List.mem_cons_of_mem _ hm);omega);have hbox6 : rowAt w6 gb 0 34 = some (markVC m):=(hk6.row hszb Hgbx.out _ _).trans hbox;have hb6 : Below w.heap.size w w6:=hb1'.trans (hk6.below (B:=w.heap.size) hb1'.size (fun x hx=>by have:=Hbx.out x (List.mem_cons_of_mem _ hx);omega));have hs6 : w4.heap.size ≤ w6.heap.size:=by have:=hk6.size;omega
                clear cf hk6 hVx1 hVa1 hp1' hbox hb1' hszb hwr4 hk1 hw1 hk2 hw2 hjn hjR hi2R;have ca:=fun w' (h' : VAt w' gx t bx Ox I' vx s')=>vfold_again m w' gx t bx Ox I' vx s' h' Hin.out;go_upto_region 16 with fail
                go_cut [98] (fun z wx=>z = .bool false ∧ Below w6.heap.size w6 wx)
                case first =>
                  by_cases hti : i2 < n2
                  · obtain ⟨q,o,rfl,hrb⟩:=SlR.at_ (SlR.below hB hb6) hti;rw [List.getElem_map,Nat.mul_one] at hrb;have hcb:=rowAt_cell hrb (j:=0) (by omega);obtain ⟨tw,htw⟩ : ∃ tw,B[i2]'(by rw [HBl.out];exact hti) = tw:=⟨_,rfl⟩
                    rw [htw,Nat.add_zero] at hcb;have hcb' : w6.cell? ⟨q,o + i2,none⟩ = some (.bool tw):=hcb;clear htw hcb hrb;cases tw with
                    | true =>
                      (go_wp2_with fail);refine (ca w6 hVx6).mono ?_;rintro e w7 ⟨rfl,hb7⟩;go_wp2_with fail
                      go_meet
                      first | exact ⟨rfl,hb7⟩ | exact hb7
                    | false =>
                      go_wp2_with fail
                      go_meet
                      first | exact ⟨rfl,Below.refl _ _⟩ | exact Below.refl _ _
                  · go_wp2_with fail
                    go_meet
                    first | exact ⟨rfl,Below.refl _ _⟩ | exact Below.refl _ _
                case rest =>
                obtain ⟨rfl,hbz⟩:=hcut;obtain ⟨w7,rfl⟩ : ∃ w7,w7 = wc:=⟨wc,rfl⟩
                have hVx7:=hVx6.below hbz;have hVa7:=hVa6.below hbz;have hb7:=bel2 hb6 hbz;have hs7 : w4.heap.size ≤ w7.heap.size:=by have:=hbz.size;omega
                obtain ⟨qb,hqb⟩ : ∃ qb,((i2 : Int) == (at_ : Int)) = qb:=⟨_,rfl⟩
                have hi30 : i2 + 1 ≤ 30:=by omega
                obtain ⟨Pb,hPb⟩ : ∃ Pb,(⟨(putVB I' s').toArray⟩ : ByteArray) = Pb:=⟨_,rfl⟩
                have cp:=fun w' h'=>vput_eq HT'.out hi30 Pb hPb w' gx bx Ox vx h';have HPb:=Lib.hid hPb;have Hqb:=Lib.hid hqb;clear hVx6 hVa6 hb6 hs6 hbz ca hbox6 hPb;cases qb with
                | false =>
                  (go_wp2_with fail);go_roundw
                  case rel=>exact ⟨i2 + 1,gx,bx,Ox,vx,I',s',by omega,by go_num,rfl,hVx7,hVa7,Hbx,HT',HM',hb7,hs7⟩
                  case measure=>simp [intOf];omega
                | true =>
                  (go_wp2_with fail);refine (cp w7 hVx7).mono ?_;rintro e w8 ⟨rfl,hb8⟩;have hVa8:=hVa7.below hb8;have hb08:=bel2 hb7 hb8;have hs8 : w4.heap.size ≤ w8.heap.size:=by have:=hb8.size;omega
                  have hT:=HT'.out;have hM:=HM'.out;have h1:=hT.ids;have h2:=hT.len;have h3:=hT.big;have h4:=sortC_length (c:=cmpId) I';have h5:=stB_few hVx7.st;have h6:=idsB_len (sortC cmpId I');have hPl : Pb.data.toList = idsB (sortC cmpId I') ++ stB s':=by rw [← HPb.out];simp [putVB]
                  have hPs : Pb.size ≤ 90000:=by
                    have e : Pb.data.toList.length = Pb.size:=Array.length_toList;rw [← e,hPl,List.length_append];omega
                  have cl:=vload_ok t w8 Pb (sortC cmpId I') s' hPs ht hT.kind (by omega) hPl (ris_sortC totId _) (hVx7.st.wf (made_num hM) hT.ris) (by omega) (by omega);clear hT hM h1 h2 h3 h4 h5 h6 hPl hPs hVx7 hVa7 hb7 hs7 cp hb8;(go_wp2_with fail);refine cl.mono ?_;rintro e w9 ⟨gy,by_,Oy,vy,st,rfl,hVy,hsame,hkind,⟨hris,hlen9,hbig9⟩,hOy,hgy,hb9⟩;have hVa9:=hVa8.below hb9;have hb09:=bel2 hb08 hb9;have hs9 : w4.heap.size ≤ w9.heap.size:=by have:=hb9.size;omega
                  have Hby : Hid (∀ x ∈ gy :: by_ :: Oy,w4.heap.size ≤ x):=(show ∀ x ∈ gy :: by_ :: Oy,w4.heap.size ≤ x from fun x hx=>by
                    rcases List.mem_cons.1 hx with k1 | k1
                    · omega
                    · have:=hOy x k1;omega)
                  have HTy : Hid (Told t (i2 + 1) (sortC cmpId I') st):=(show Told t (i2 + 1) (sortC cmpId I') st from ⟨hkind.trans HT'.out.kind,by have:=HT'.out.len;omega,by have:=HT'.out.big;omega,hris,by have:=HT'.out.ids;have:=sortC_length (c:=cmpId) I';omega⟩)
                  have HMy : Hid (Made t (R.reverse.take (i2 + 1)) (sortC cmpId I') st):=(show Made _ _ _ _ from made_congr HM'.out (fun _=>Iff.rfl) (fun d=>(mem_sortC totId).symm) ((ris_sortC totId _).nodup totId) hsame)
                  clear cl hVa8 hb08 hs8 hb9 hsame hkind hris hlen9 hbig9 hOy hgy;(go_wp2_with fail);go_roundw
                  case rel=>exact ⟨i2 + 1,gy,by_,Oy,vy,sortC cmpId I',st,by omega,by go_num,rfl,hVy,hVa9,Hby,HTy,HMy,hb09,hs9⟩
                  case measure=>simp [intOf];omega
              · have hin2 : i2 = n:=by omega
                have e3 : R.reverse.take i2 = R.reverse:=List.take_of_length_le (by rw [List.length_reverse,Hlen.out];omega);have hMB:=HM.out;rw [e3] at hMB;obtain ⟨hsame,hids⟩:=made_same HMA.out hMB (fun m=>List.mem_reverse.symm) (HTA.out.kind.trans HT.out.kind.symm);have hput:=same_put hsame hids;have hnum:=same_num hsame;have hprs:=same_pairs hVa.st hsame;have hkk : sA.kind = s2.kind:=HTA.out.kind.trans HT.out.kind.symm;obtain ⟨Pb,hPb⟩ : ∃ Pb,(⟨(putVB IA sA).toArray⟩ : ByteArray) = Pb:=⟨_,rfl⟩
                have ca:=fun w' h'=>vput_eq HTA.out (by omega) Pb hPb w' g b O v h';have cb:=fun w' h'=>vput_eq HT.out (by omega) Pb (by rw [← hput];exact hPb) w' gx bx Ox vx h';have va:=fun w' h'=>vval_t HTA.out ht (by omega) w' g b O v h';have vb:=fun w' h'=>vval_t HT.out ht (by omega) w' gx bx Ox vx h';rw [← hkk,← hnum,← hprs] at vb;have cs:=fun w' A B m m' c c' hx hy=>same_t w' sA.kind sA.num A B m m' c c' sA.pairs hx hy;obtain ⟨kd,hkd⟩ : ∃ kd,sA.kind = kd:=⟨_,rfl⟩
                obtain ⟨nm,hnm⟩ : ∃ nm,sA.num = nm:=⟨_,rfl⟩
                rw [hkd,hnm] at va vb cs;have hPP : (Pb.toList == Pb.toList) = true:=by simp
                have Hcs:=Lib.hid cs;clear hin2 e3 hMB hsame hids hput hnum hprs hkk hPb hkd hnm cs HM;(go_wp2_with fail);refine (ca wr hVa).mono ?_;rintro e w5' ⟨rfl,hb5'⟩;have hVx5:=hVx.below hb5';have hVa5:=hVa.below hb5';have hp5':=hpr.below hb5';have hb05':=bel2 hbr hb5';clear ca hVx hVa hpr hbr hb5';(go_wp2_with fail);refine (cb w5' hVx5).mono ?_;rintro e w6 ⟨rfl,hb6⟩;have hVx6:=hVx5.below hb6;have hVa6:=hVa5.below hb6;have hp6:=hp5'.below hb6;have hb06:=bel2 hb05' hb6;clear cb hVx5 hVa5 hp5' hb05' hb6;(go_wp2_with fail);refine (va w6 hVa6).mono ?_;rintro e w7 ⟨A1,m1,c1',rfl,hp1',hb7⟩;have hVx7:=hVx6.below hb7;have hp7:=hp6.below hb7;have hb07:=bel2 hb06 hb7;clear va hVx6 hVa6 hp6 hb06 hb7;(go_wp2_with fail);refine (vb w7 hVx7).mono ?_;rintro e w8 ⟨A3,m3,c3',rfl,hp3',hb8⟩;have hq1 : PairsIn w8 A1 m1 sA.pairs ∧ m1 ≤ 1000000:=⟨SlR.below hp1'.1 hb8,hp1'.2⟩
                have hp8:=hp7.below hb8;have hb08:=bel2 hb07 hb8;clear vb hVx7 hp7 hb07 hb8 hp1';(go_wp2_with fail);refine (Hcs.out w8 _ _ _ _ _ _ hq1 hp3').mono ?_;rintro e w9 ⟨rfl,hb9⟩;have hp9:=hp8.below hb9;have hb09:=bel2 hb08 hb9;clear hq1 hp3' hp8 hb08 hb9;(go_wp2_with fail);refine (awake26 w9 hp9).mono ?_;rintro e w10 ⟨rfl,hb10⟩;(go_wp2_with fail);go_ret;exact ⟨rfl,bel2 hb09 hb10⟩
end
section
open Go.ChangeShapes Go.WideShapes Go.RowKit
theorem parts_of_laid {W : World} (h : laidMetH Tryz.prog [("petrel/op.parts",Rows.laid_petrel_op_parts)] W) : PartsVar W:=by
  have h' : laidMet Tryz.prog [("petrel/op.parts",Lib.tabData .i64 [0,1,4,20,7,22,12,8])] W:=h;have hT:=Lib.tabIs_of_head (P:=Tryz.prog) (g:=0) (t:=285) (e:=3) (n:=8) (by kernel_rfl) (by kernel_rfl) Tryz.underlying285 Tryz.underlying3 (by kernel_rfl) (by kernel_rfl) h';intro k hk;have hc:=hT.cell (g:=0) (by kernel_rfl) k (by simpa using hk);rw [hc];have h8 : k = 0 ∨ k = 1 ∨ k = 2 ∨ k = 3 ∨ k = 4 ∨ k = 5 ∨ k = 6 ∨ k = 7:=by omega
  rcases h8 with rfl | rfl | rfl | rfl | rfl | rfl | rfl | rfl <;> rfl
def laidWorld (P : Program) (os : Os) : World:=(World.holding P os ⟨#[],#[],[]⟩).setRow 0 #[.int .i64 0,.int .i64 1,.int .i64 4,.int .i64 20,.int .i64 7,.int .i64 22,.int .i64 12,.int .i64 8]
theorem laidWorld_met (os : Os) (args : Array Value) : laidMetH Tryz.prog [("petrel/op.parts",Rows.laid_petrel_op_parts)] ((laidWorld Tryz.prog os).forCall (fun _ _=>0) ⟨#[],args,[]⟩).memory:=by
  show laidMet Tryz.prog [("petrel/op.parts",Rows.laid_petrel_op_parts)] _;exact laidMet_of_run' 8 (by kernel_rfl) (by kernel_rfl)
theorem trodVars_nil {H : Type} {enc : TypeId × Value → H} {P : Program} {w : World} {g : Nat → Bool} {gs : List (DataW H)} {q : List MemPlace} (hV : DataW.TrodVars enc P w g [] gs q) : gs = [] ∧ q = []:=by
  cases gs with
  | nil=>exact ⟨rfl,hV⟩
  | cons g r=>exact absurd hV (by intro h;cases h)
end
end Go.Proofs.YtgfpjjppeldhbaaGreatDoor
