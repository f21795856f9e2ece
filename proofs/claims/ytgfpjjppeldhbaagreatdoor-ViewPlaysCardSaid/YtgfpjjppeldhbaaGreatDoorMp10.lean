/- Part 10 of the texts that lead to this claim: the walks of the functions and the plain law, in order. -/
import Derived.Test.YtgfpjjppeldhbaaGreatDoorMp9
import Derived.IntWalk
namespace Go.Proofs.YtgfpjjppeldhbaaGreatDoor
section
open Go.RowKit
theorem qK : xF Tryz.prog 61 207 35 72 :=
  .of (z:=.agg (yH ZJ)) Tryz.underlying61 (by kernel_rfl) (by kernel_rfl) (by kernel_rfl) (uN _) (by omega)
@[go_sem ↓] theorem bsRow_rw (n : Nat) (parts : Array (Nat × Value)) : Instr.buildSlice 61 n parts = bsS 61 n parts:=rfl
@[go_sem] theorem bsRow_run (w : World) (x : Row) : (bsS 61 1 #[(0,.agg (yH x))]).run Tryz.prog w = .ok (.slice (some ⟨w.heap.size,0,none⟩) 1 1) (w.alloc (.cells (yH x) 207)) :=
  kS qK (by omega) w (yH x) (uN x)
@[go_sem] theorem bsRow0_run (w : World) : (bsS 61 0 #[]).run Tryz.prog w = .ok (.slice (some ⟨w.heap.size,0,none⟩) 0 0) (w.alloc (.cells #[] 207)):=fV qK w
abbrev OwnLR (w : World) (B : Nat) (A : Option Addr) (cap : Nat) (R : List Row) : Prop:=Own w B 207 35 A R.length cap (R.map yH)
set_option maxRecDepth 100000 in
set_option maxHeartbeats 4000000 in
theorem YK (w : World) (A : Option Addr) (n cap : Nat) (R : List Row) (h : jT w A n R) (hn : n ≤ 1000000) :
    Calls Tryz.prog 151 #[.slice A n cap] w fun e w'=>∃ A' cap',e = .returned (.slice A' (xH R).length cap') ∧ OwnLR w' w.heap.size A' cap' (xH R) ∧ Below w.heap.size w w':=by
  have hlen:=jT.len h;go_enter Tryz.func151,Tryz.ntmps151
  (go_wp2_with fail);go_loopw [3,4] (fun out i wr=>∃ (k : Nat) (A1 : Option Addr) (cap1 : Nat),k ≤ n ∧ i = .int .i64 k ∧ out = .slice A1 (xH (R.take k)).length cap1 ∧ OwnLR wr w.heap.size A1 cap1 (xH (R.take k)) ∧ Below w.heap.size w wr) (fun _ i _=>n - (intOf i).toNat)
  case atStart=>exact ⟨0,none,0,Nat.zero_le _,rfl,rfl,Own.nil _ _ _ _,Below.refl _ _⟩
  case round =>
    obtain ⟨k,A1,cap1,hk,rfl,rfl,hown,hb⟩:=hrel;by_cases hlt : k < n
    · obtain ⟨q,o,rfl,hr,hkey,_,_,_⟩:=jT.get (SlR.below h hb) hlt (by omega);have htk : xH (R.take (k + 1)) = gU (xH (R.take k)) R[k]:=by
        rw [List.take_add_one,List.getElem?_eq_getElem (by omega),Option.toList_some,tM]
      have hol : (xH (R.take k)).length ≤ 1000000:=by have:=g6 (R.take k);simp at this;omega
      obtain ⟨O,hO⟩ : ∃ O,xH (R.take k) = O:=⟨_,rfl⟩
      obtain ⟨x,hx⟩ : ∃ x,R[k]'(by omega) = x:=⟨_,rfl⟩
      rw [hx] at hr hkey htk;rw [hO] at htk hol hown ⊢;have Htk:=Lib.hid htk;clear hx hO htk;obtain ⟨WR,rfl⟩ : ∃ WR,WR = wr:=⟨wr,rfl⟩
      have hsl : jT WR A1 O.length O:=hown.slr;(go_wp2_with fail);go_loopw [5] (fun j wj=>∃ m : Nat,m ≤ O.length ∧ j = .int .i64 m ∧ Hid (∀ i (hi : i < O.length),i < m → xS (O[i]).key x.key < 0) ∧ Below WR.heap.size WR wj) (fun j _=>O.length - (intOf j).toNat)
      case atStart=>exact ⟨0,Nat.zero_le _,rfl,(show ∀ i (hi : i < O.length),i < 0 → _ from fun i _ h=>absurd h (by omega)),Below.refl _ _⟩
      case round =>
        obtain ⟨m,hm,rfl,hlow,hbj⟩:=hrel;have hkeyj:=(hbj.cell (p:=⟨q,o + k * 35,none⟩) (World.block_lt_of_cell? WR _ hkey)).trans hkey;by_cases hmlt : m < O.length
        · obtain ⟨g,og,rfl,hrO,hkO,_,_,_⟩:=jT.get (SlR.below hsl hbj) hmlt (by omega);obtain rfl : og = 0:=by
            rcases hown.addr with e | ⟨g',e⟩
            · cases e
            · injection e with e;injection e
          rw [Nat.zero_add] at hrO hkO;obtain ⟨y,hy⟩ : ∃ y,O[m]'hmlt = y:=⟨_,rfl⟩
          rw [hy] at hkO hrO;have Hy:=Lib.hid hy;clear hy;cases hbl : B5 y.key x.key with
          | true =>
            have hbl' : Op.bytesLess y.key.toList x.key.toList = true:=hbl;go_upto_region 6 with fail
            refine zE (Bel wr) false (by kernel_rfl) (by kernel_rfl) (by kernel_rfl) (zG wr) ?_;have hne:=zX wr;have hS:=zG wr;have b1:=zT hkeyj;have b2:=zT hkO;repeat (refine zB ?_ ?_;(focus (simp only [zA];done));intro K hK;go_simp;refine hK _ ?_;clear hK K)
            refine zN ?_;intro hS;clear b1 b2 hne hS;have hlt' : xS y.key x.key < 0:=by have:=kB y.key x.key;rw [hbl] at this;simpa using this.symm
            have Hlt:=Lib.hid hlt';clear hlt' hbl hbl';(go_wp2_with fail);go_roundw
            case rel =>
              refine ⟨m + 1,by omega,by go_num,(show ∀ i (hi : i < O.length),i < m + 1 → xS (O[i]).key x.key < 0 from fun i hi hlt=>?_),hbj.drew⟩;by_cases e : i = m
              · subst e;rw [Hy.out];exact Hlt.out
              · exact hlow.out i hi (by omega)
            case measure=>simp [intOf];omega
          | false =>
            have hbl' : Op.bytesLess y.key.toList x.key.toList = false:=hbl;have hge : ¬ xS y.key x.key < 0:=by have:=kB y.key x.key;rw [hbl] at this;simpa using this.symm
            have Hge:=Lib.hid hge;go_upto_region 6 with fail
            refine zE (Bel wr) false (by kernel_rfl) (by kernel_rfl) (by kernel_rfl) (zG wr) ?_;have hne:=zX wr;have hS:=zG wr;have b1:=zT hkeyj;have b2:=zT hkO;repeat (refine zB ?_ ?_;(focus (simp only [zA];done));intro K hK;go_simp;refine hK _ ?_;clear hK K)
            refine zN ?_;intro hS;clear b1 b2 hne hS hge hbl hbl';have hbj2:=hbj.drew;have hat:=cW O x m (by omega) hlow.out (fun hk'=>by rw [Hy.out];exact Hge.out);cases heq : (y.key.toList == x.key.toList) with
            | true =>
              go_upto_region 8 with fail
              refine zE (Bel wr.drew) false (by kernel_rfl) (by kernel_rfl) (by kernel_rfl) (zG wr.drew) ?_;have hne:=zX wr.drew;have hS:=zG wr.drew;have b1:=zT (W:=wr.drew) hkeyj;have b2:=zT (W:=wr.drew) hkO;repeat (refine zB ?_ ?_;(focus (simp only [zA];done));intro K hK;go_simp;refine hK _ ?_;clear hK K)
              refine zN ?_;intro hS;clear b1 b2 hne hS;have hrj : zF wr q (o + k * 35) 35 = some (yH x):=(zI (hbj.block q (zL hr)) _ _).trans hr;have c9:=rlater x y wr.drew.drew.drew;go_upto_region 9 with fail
              refine zE (Bel wr.drew.drew) false (by kernel_rfl) (by kernel_rfl) (by kernel_rfl) (zG wr.drew.drew) ?_;have hne:=zX wr.drew.drew;have hS:=zG wr.drew.drew;have b1:=yD (W:=wr.drew.drew) hrj;have b2:=yD (W:=wr.drew.drew) hrO;repeat (refine zB ?_ ?_;(focus (simp only [zA];done));intro K hK;go_simp;refine hK _ ?_;clear hK K)
              refine zH ?_ ?_ ?_;(focus (exact hS));(focus (simp only [zA];done));intro K hK;go_simp;refine (c9).mono ?_;rintro e w' ⟨rfl,hb⟩;replace hS:=yJ hS hb;refine ⟨_,rfl,hS,hK _ _ ?_⟩;clear hK K hb;repeat (refine zB ?_ ?_;(focus (simp only [zA];done));intro K hK;go_simp;refine hK _ ?_;clear hK K)
              refine zN ?_;intro hS;have hS' : Below wr.drew.drew.heap.size wr.drew.drew w':=hS;have hbw' : Below WR.heap.size WR w':=hbj2.drew.trans (hS'.mono hbj2.size);have hk1 : (O[m]?).map (·.key) = some x.key:=by
                rw [List.getElem?_eq_getElem hmlt,Hy.out];have:=beq_iff_eq.1 heq;simp [toList_inj.1 this]
              rw [dif_pos ⟨hmlt,hk1⟩] at hat;simp only [Hy.out] at hat;have Hat:=Lib.hid hat;clear hat b1 b2 hne hS c9 heq hk1;have hownw:=hown.below hbw';have hrw : zF w' q (o + k * 35) 35 = some (yH x):=(zI (hbw'.block q (zL hr)) _ _).trans hr;have hBw:=hb.trans (hbw'.mono hb.size);cases hlater : wV x y with
              | true =>
                have hat2:=Hat.out;rw [if_pos hlater] at hat2;obtain ⟨w6,hst,hown6,hk6⟩:=rN qK hownw hmlt (uN x) (j9 x);have hgw:=(hown.at_base (x:=g) (by simp [blk])).1;have hBw6 : Below w.heap.size w w6:=hBw.trans (hk6.below hBw.size (by simpa using hgw));rw [← List.map_set,← hat2] at hown6;have hl6 : O.length = (gU O x).length:=by rw [hat2,List.length_set]
                have Hl6:=Lib.hid hl6;have Hat2:=Lib.hid hat2;clear hat2 hl6;(go_wp2_with fail);go_roundw
                case rel=>exact ⟨k + 1,_,cap1,by omega,by go_num,(by rw [Htk.out,← Hl6.out]),(by rw [Htk.out];show Own _ _ _ _ _ _ _ _;rw [← Hl6.out];exact hown6),hBw6⟩
                case measure=>simp [intOf];omega
              | false =>
                have hat2:=Hat.out;rw [if_neg (by rw [hlater];simp)] at hat2;have Hat2:=Lib.hid hat2;clear hat2;(go_wp2_with fail);go_roundw
                case rel=>exact ⟨k + 1,_,cap1,by omega,by go_num,(by rw [Htk.out,Hat2.out]),(by rw [Htk.out,Hat2.out];exact hownw),hBw⟩
                case measure=>simp [intOf];omega
            | false =>
              go_upto_region 8 with fail
              refine zE (Bel wr.drew) false (by kernel_rfl) (by kernel_rfl) (by kernel_rfl) (zG wr.drew) ?_;have hne:=zX wr.drew;have hS:=zG wr.drew;have b1:=zT (W:=wr.drew) hkeyj;have b2:=zT (W:=wr.drew) hkO;repeat (refine zB ?_ ?_;(focus (simp only [zA];done));intro K hK;go_simp;refine hK _ ?_;clear hK K)
              refine zN ?_;intro hS;clear b1 b2 hne hS;have hk1 : ¬ (m < O.length ∧ (O[m]?).map (·.key) = some x.key):=by
                rintro ⟨_,hh⟩;rw [List.getElem?_eq_getElem hmlt,Hy.out] at hh;have e1 : y.key = x.key:=by simpa using hh
                rw [e1] at heq;simp at heq
              rw [dif_neg hk1] at hat;have Hat:=Lib.hid hat;have hbw' : Below WR.heap.size WR wr.drew.drew:=hbj2.drew;have hownw:=hown.below hbw';have hrw : zF wr.drew.drew q (o + k * 35) 35 = some (yH x):=(zI (hbw'.block q (zL hr)) _ _).trans hr;have hBw:=hb.trans (hbw'.mono hb.size);clear hat hk1 heq hkO hrO hkeyj;generalize wr.drew.drew = W at *;have hcap:=hownw.cap_le.1;have hmc : m ≤ cap1:=by omega
              have hmc2 : ¬ m = cap1:=by omega
              have hsWf : ∀ w',Below W.heap.size W w' → SlR w' (some ⟨g,0,none⟩) m 35 ((O.map yH).take m):=fun w' hb=>(hownw.below hb).slr.take_ (m:=m) (by omega);have hs4f : ∀ w',Below W.heap.size W w' → SlR w' (some ⟨g,m * 35,none⟩) (O.length - m) 35 ((O.map yH).drop m):=fun w' hb=>(by have:=(hownw.below hb).slr.drop_ (m:=m) (by omega);rwa [Nat.zero_add] at this);have hf1 : (some ⟨g,0,none⟩ : Option Addr) = none → cap1 = 0:=nofun;have hf2 : (some ⟨g,m * 35,none⟩ : Option Addr) = none → cap1 - m = 0:=nofun;have hown0:=Own.empty W W.heap.size 207 35 (Nat.le_refl _);have hBW : Below W.heap.size W (W.alloc (.cells #[] 207)):=(Below.refl _ _).alloc (Nat.le_refl _) _;have hsW:=hsWf _ hBW;have hrone : ∀ r ∈ (O.map yH).take m,∀ u ∈ r.toList,u.oneCell' = true:=fun r hr=>(by obtain ⟨y',_,rfl⟩:=List.mem_map.1 (List.mem_of_mem_take hr);exact j9 _);have hrone2 : ∀ r ∈ (O.map yH).drop m,∀ u ∈ r.toList,u.oneCell' = true:=fun r hr=>(by obtain ⟨y',_,rfl⟩:=List.mem_map.1 (List.mem_of_mem_drop hr);exact j9 _);go_upto_region 12 with (at_builtin;refine yF qK rfl hown0 rfl hsW hf1 hrone (by omega) (by omega) (by simp) ?_;intro A2 cap2 w2 hown2 hk2 hsub2)
              simp only [Nat.zero_add,List.nil_append] at hown2;have hwW : Below W.heap.size W w2:=(hBW).trans (hk2.below (by simp) (by simp [blk]));have hrw2 : zF w2 q (o + k * 35) 35 = some (yH x):=(zI (hwW.block q (zL hrw)) _ _).trans hrw;have hB3 : Below w2.heap.size w2 (w2.alloc (.cells (yH x) 207)):=(Below.refl _ _).alloc (Nat.le_refl _) _;have hown3:=hown2.below hB3;have hrow3 : zF (w2.alloc (.cells (yH x) 207)) w2.heap.size 0 35 = some (yH x):=by simp [go_sem]
              have hsz2:=hwW.size;go_upto_region 13 with (at_builtin;refine x8 qK rfl hown3 rfl hrow3 (j9 _) (by omega) (by omega) (by simp;omega) ?_;intro A4 cap4 w4 hown4 hk4 hsub4)
              have hwW4 : Below W.heap.size W w4:=(hwW.trans (hB3.mono hsz2)).trans (hk4.below (by simp;omega) (fun x hx=>(hown2.at_base hx).1));have hs4:=hs4f _ hwW4;have hsz4:=hwW4.size;clear hown3 hrow3 hB3 hown0 hBW hsW hrw2 hsWf hs4f;go_upto_region 14 with (at_builtin;refine yF qK rfl hown4 rfl hs4 hf2 hrone2 (by omega) (by omega) (by omega) ?_;intro A5 cap5 w5 hown5 hk5 hsub5)
              have hwW5 : Below W.heap.size W w5:=hwW4.trans (hk5.below (by omega) (fun x hx=>(hown4.at_base hx).1));have hBW5:=hBw.trans (hwW5.mono hBw.size);have hO5 : (O.map yH).take m ++ [yH x] ++ (O.map yH).drop m = (xH (R.take (k + 1))).map yH:=by rw [Htk.out,Hat.out];simp [List.map_take,List.map_drop]
              have hL5 : (xH (R.take (k + 1))).length = m + 1 + (O.length - m):=by rw [Htk.out,Hat.out];simp;omega
              rw [hO5] at hown5;have hown6:=hown5.mono hBw.size;have HL:=Lib.hid hL5;clear hown5 hown4 hown2 hO5 hL5 hs4;(go_wp2_with fail);go_roundw
              case rel=>exact ⟨k + 1,A5,cap5,by omega,by go_num,(by rw [HL.out]),(show Own _ _ _ _ _ _ _ _ by rw [HL.out];exact hown6),hBW5⟩
              case measure=>simp [intOf];omega
        · have hmO : m = O.length:=by omega
          have HmO:=Lib.hid hmO;have hat:=cW O x m hm hlow.out (fun hk'=>absurd hk' (by omega));rw [dif_neg (fun hh=>absurd hh.1 (by omega))] at hat;have Hat:=Lib.hid hat;have hd : decide (m < O.length) = false:=by simpa using hmlt
          clear hat hmO hmlt hm;go_upto_region 6 with fail
          refine zE (Bel wr) false (by kernel_rfl) (by kernel_rfl) (by kernel_rfl) (zG wr) ?_;have hne:=zX wr;have hS:=zG wr;repeat (refine zB ?_ ?_;(focus (simp only [zA];done));intro K hK;go_simp;refine hK _ ?_;clear hK K)
          refine zN ?_;intro hS;clear hne hS;go_upto_region 8 with fail
          refine zE (Bel wr.drew) false (by kernel_rfl) (by kernel_rfl) (by kernel_rfl) (zG wr.drew) ?_;have hne:=zX wr.drew;have hS:=zG wr.drew;repeat (refine zB ?_ ?_;(focus (simp only [zA];done));intro K hK;go_simp;refine hK _ ?_;clear hK K)
          refine zN ?_;intro hS;clear hne hS;have hbw' : Below WR.heap.size WR wr.drew.drew:=hbj.drew.drew;have hownw:=hown.below hbw';have hrw : zF wr.drew.drew q (o + k * 35) 35 = some (yH x):=(zI (hbw'.block q (zL hr)) _ _).trans hr;have hBw:=hb.trans (hbw'.mono hb.size);clear hkeyj hd;generalize wr.drew.drew = W at *;have hcap:=hownw.cap_le;have hdrop : (O.map yH).drop m = []:=List.drop_eq_nil_of_le (by simp [HmO.out]);have hml : m ≤ 1000000:=by have:=HmO.out;omega
          rcases hown.addr with rfl | ⟨g,rfl⟩
          · obtain ⟨hO0,rfl⟩:=hcap.2 rfl;have hm0 : m = 0:=by have:=HmO.out;omega
            subst hm0;have hO : O = []:=List.eq_nil_of_length_eq_zero hO0;have HO:=Lib.hid hO;have hsWf : ∀ w',Below W.heap.size W w' → SlR w' none 0 35 ((O.map yH).take 0):=fun w' hb=>(by rw [HO.out];exact SlR.nil_);have hs4f : ∀ w',Below W.heap.size W w' → SlR w' none O.length 35 ((O.map yH).drop 0):=fun w' hb=>(by rw [HO.out];exact SlR.nil_);have hf1 : (none : Option Addr) = none → 0 = 0:=fun _=>rfl;have hf2 : (none : Option Addr) = none → 0 = 0:=fun _=>rfl;clear hO0 hO hcap hml hdrop;have hown0:=Own.empty W W.heap.size 207 35 (Nat.le_refl _);have hBW : Below W.heap.size W (W.alloc (.cells #[] 207)):=(Below.refl _ _).alloc (Nat.le_refl _) _;have hsW:=hsWf _ hBW;have hrone : ∀ r ∈ (O.map yH).take 0,∀ u ∈ r.toList,u.oneCell' = true:=fun r hr=>(by obtain ⟨y',_,rfl⟩:=List.mem_map.1 (List.mem_of_mem_take hr);exact j9 _);have hrone2 : ∀ r ∈ (O.map yH).drop 0,∀ u ∈ r.toList,u.oneCell' = true:=fun r hr=>(by obtain ⟨y',_,rfl⟩:=List.mem_map.1 (List.mem_of_mem_drop hr);exact j9 _);go_upto_region 12 with (at_builtin;refine yF qK rfl hown0 rfl hsW hf1 hrone (by omega) (by omega) (by simp) ?_;intro A2 cap2 w2 hown2 hk2 hsub2)
            simp only [Nat.zero_add,List.nil_append] at hown2;have hwW : Below W.heap.size W w2:=(hBW).trans (hk2.below (by simp) (by simp [blk]));have hrw2 : zF w2 q (o + k * 35) 35 = some (yH x):=(zI (hwW.block q (zL hrw)) _ _).trans hrw;have hB3 : Below w2.heap.size w2 (w2.alloc (.cells (yH x) 207)):=(Below.refl _ _).alloc (Nat.le_refl _) _;have hown3:=hown2.below hB3;have hrow3 : zF (w2.alloc (.cells (yH x) 207)) w2.heap.size 0 35 = some (yH x):=by simp [go_sem]
            have hsz2:=hwW.size;go_upto_region 13 with (at_builtin;refine x8 qK rfl hown3 rfl hrow3 (j9 _) (by omega) (by omega) (by simp;omega) ?_;intro A4 cap4 w4 hown4 hk4 hsub4)
            have hwW4 : Below W.heap.size W w4:=(hwW.trans (hB3.mono hsz2)).trans (hk4.below (by simp;omega) (fun x hx=>(hown2.at_base hx).1));have hs4:=hs4f _ hwW4;have hsz4:=hwW4.size;clear hown3 hrow3 hB3 hown0 hBW hsW hrw2 hsWf hs4f;go_upto_region 14 with (at_builtin;refine yF qK rfl hown4 rfl hs4 hf2 hrone2 (by omega) (by omega) (by omega) ?_;intro A5 cap5 w5 hown5 hk5 hsub5)
            have hwW5 : Below W.heap.size W w5:=hwW4.trans (hk5.below (by omega) (fun x hx=>(hown4.at_base hx).1));have hBW5:=hBw.trans (hwW5.mono hBw.size);have hO5 : (O.map yH).take 0 ++ [yH x] ++ (O.map yH).drop 0 = (xH (R.take (k + 1))).map yH:=by rw [Htk.out,Hat.out];simp [List.map_take,List.map_drop]
            have hL5 : (xH (R.take (k + 1))).length = 0 + 1 + O.length:=by rw [Htk.out,Hat.out];simp;omega
            rw [hO5] at hown5;have hown6:=hown5.mono hBw.size;have HL:=Lib.hid hL5;clear hown5 hown4 hown2 hO5 hL5 hs4;(go_wp2_with fail);go_roundw
            case rel=>exact ⟨k + 1,A5,cap5,by omega,by go_num,(by rw [HL.out]),(show Own _ _ _ _ _ _ _ _ by rw [HL.out];exact hown6),hBW5⟩
            case measure=>simp [intOf];omega
          · have hmc : m ≤ cap1:=by have:=hcap.1;have:=HmO.out;omega
            have hsWf : ∀ w',Below W.heap.size W w' → SlR w' (some ⟨g,0,none⟩) m 35 ((O.map yH).take m):=fun w' hb=>(hownw.below hb).slr.take_ (m:=m) (by have:=HmO.out;omega);have hf1 : (some ⟨g,0,none⟩ : Option Addr) = none → cap1 = 0:=nofun;clear hcap;have hmz : m ≤ O.length:=by have:=HmO.out;omega
            have hs4g : ∀ w' A',SlR w' A' (O.length - m) 35 ((O.map yH).drop m):=fun w' A'=>(by rw [hdrop,HmO.out,Nat.sub_self];exact ⟨rfl,fun h=>absurd h (by omega)⟩);clear hdrop;by_cases hmc2 : m = cap1
            · have Hmc2:=Lib.hid hmc2;obtain rfl : m = cap1:=hmc2;have hs4f : ∀ w',Below W.heap.size W w' → SlR w' (some ⟨g,0,none⟩) (O.length - m) 35 ((O.map yH).drop m):=fun w' _=>hs4g w' _;have hf2 : (some ⟨g,0,none⟩ : Option Addr) = none → 0 = 0:=nofun;clear hs4g;have hown0:=Own.empty W W.heap.size 207 35 (Nat.le_refl _);have hBW : Below W.heap.size W (W.alloc (.cells #[] 207)):=(Below.refl _ _).alloc (Nat.le_refl _) _;have hsW:=hsWf _ hBW;have hrone : ∀ r ∈ (O.map yH).take m,∀ u ∈ r.toList,u.oneCell' = true:=fun r hr=>(by obtain ⟨y',_,rfl⟩:=List.mem_map.1 (List.mem_of_mem_take hr);exact j9 _);have hrone2 : ∀ r ∈ (O.map yH).drop m,∀ u ∈ r.toList,u.oneCell' = true:=fun r hr=>(by obtain ⟨y',_,rfl⟩:=List.mem_map.1 (List.mem_of_mem_drop hr);exact j9 _);go_upto_region 12 with (at_builtin;refine yF qK rfl hown0 rfl hsW hf1 hrone (by omega) (by omega) (by simp) ?_;intro A2 cap2 w2 hown2 hk2 hsub2)
              simp only [Nat.zero_add,List.nil_append] at hown2;have hwW : Below W.heap.size W w2:=(hBW).trans (hk2.below (by simp) (by simp [blk]));have hrw2 : zF w2 q (o + k * 35) 35 = some (yH x):=(zI (hwW.block q (zL hrw)) _ _).trans hrw;have hB3 : Below w2.heap.size w2 (w2.alloc (.cells (yH x) 207)):=(Below.refl _ _).alloc (Nat.le_refl _) _;have hown3:=hown2.below hB3;have hrow3 : zF (w2.alloc (.cells (yH x) 207)) w2.heap.size 0 35 = some (yH x):=by simp [go_sem]
              have hsz2:=hwW.size;go_upto_region 13 with (at_builtin;refine x8 qK rfl hown3 rfl hrow3 (j9 _) (by omega) (by omega) (by simp;omega) ?_;intro A4 cap4 w4 hown4 hk4 hsub4)
              have hwW4 : Below W.heap.size W w4:=(hwW.trans (hB3.mono hsz2)).trans (hk4.below (by simp;omega) (fun x hx=>(hown2.at_base hx).1));have hs4:=hs4f _ hwW4;have hsz4:=hwW4.size;clear hown3 hrow3 hB3 hown0 hBW hsW hrw2 hsWf hs4f;go_upto_region 14 with (at_builtin;refine yF qK rfl hown4 rfl hs4 hf2 hrone2 (by omega) (by omega) (by omega) ?_;intro A5 cap5 w5 hown5 hk5 hsub5)
              have hwW5 : Below W.heap.size W w5:=hwW4.trans (hk5.below (by omega) (fun x hx=>(hown4.at_base hx).1));have hBW5:=hBw.trans (hwW5.mono hBw.size);have hO5 : (O.map yH).take m ++ [yH x] ++ (O.map yH).drop m = (xH (R.take (k + 1))).map yH:=by rw [Htk.out,Hat.out];simp [List.map_take,List.map_drop]
              have hL5 : (xH (R.take (k + 1))).length = m + 1 + (O.length - m):=by rw [Htk.out,Hat.out];simp;omega
              rw [hO5] at hown5;have hown6:=hown5.mono hBw.size;have HL:=Lib.hid hL5;clear hown5 hown4 hown2 hO5 hL5 hs4;(go_wp2_with fail);go_roundw
              case rel=>exact ⟨k + 1,A5,cap5,by omega,by go_num,(by rw [HL.out]),(show Own _ _ _ _ _ _ _ _ by rw [HL.out];exact hown6),hBW5⟩
              case measure=>simp [intOf];omega
            · have hs4f : ∀ w',Below W.heap.size W w' → SlR w' (some ⟨g,m * 35,none⟩) (O.length - m) 35 ((O.map yH).drop m):=fun w' _=>hs4g w' _;have hf2 : (some ⟨g,m * 35,none⟩ : Option Addr) = none → cap1 - m = 0:=nofun;clear hs4g;have hown0:=Own.empty W W.heap.size 207 35 (Nat.le_refl _);have hBW : Below W.heap.size W (W.alloc (.cells #[] 207)):=(Below.refl _ _).alloc (Nat.le_refl _) _;have hsW:=hsWf _ hBW;have hrone : ∀ r ∈ (O.map yH).take m,∀ u ∈ r.toList,u.oneCell' = true:=fun r hr=>(by obtain ⟨y',_,rfl⟩:=List.mem_map.1 (List.mem_of_mem_take hr);exact j9 _);have hrone2 : ∀ r ∈ (O.map yH).drop m,∀ u ∈ r.toList,u.oneCell' = true:=fun r hr=>(by obtain ⟨y',_,rfl⟩:=List.mem_map.1 (List.mem_of_mem_drop hr);exact j9 _);go_upto_region 12 with (at_builtin;refine yF qK rfl hown0 rfl hsW hf1 hrone (by omega) (by omega) (by simp) ?_;intro A2 cap2 w2 hown2 hk2 hsub2)
              simp only [Nat.zero_add,List.nil_append] at hown2;have hwW : Below W.heap.size W w2:=(hBW).trans (hk2.below (by simp) (by simp [blk]));have hrw2 : zF w2 q (o + k * 35) 35 = some (yH x):=(zI (hwW.block q (zL hrw)) _ _).trans hrw;have hB3 : Below w2.heap.size w2 (w2.alloc (.cells (yH x) 207)):=(Below.refl _ _).alloc (Nat.le_refl _) _;have hown3:=hown2.below hB3;have hrow3 : zF (w2.alloc (.cells (yH x) 207)) w2.heap.size 0 35 = some (yH x):=by simp [go_sem]
              have hsz2:=hwW.size;go_upto_region 13 with (at_builtin;refine x8 qK rfl hown3 rfl hrow3 (j9 _) (by omega) (by omega) (by simp;omega) ?_;intro A4 cap4 w4 hown4 hk4 hsub4)
              have hwW4 : Below W.heap.size W w4:=(hwW.trans (hB3.mono hsz2)).trans (hk4.below (by simp;omega) (fun x hx=>(hown2.at_base hx).1));have hs4:=hs4f _ hwW4;have hsz4:=hwW4.size;clear hown3 hrow3 hB3 hown0 hBW hsW hrw2 hsWf hs4f;go_upto_region 14 with (at_builtin;refine yF qK rfl hown4 rfl hs4 hf2 hrone2 (by omega) (by omega) (by omega) ?_;intro A5 cap5 w5 hown5 hk5 hsub5)
              have hwW5 : Below W.heap.size W w5:=hwW4.trans (hk5.below (by omega) (fun x hx=>(hown4.at_base hx).1));have hBW5:=hBw.trans (hwW5.mono hBw.size);have hO5 : (O.map yH).take m ++ [yH x] ++ (O.map yH).drop m = (xH (R.take (k + 1))).map yH:=by rw [Htk.out,Hat.out];simp [List.map_take,List.map_drop]
              have hL5 : (xH (R.take (k + 1))).length = m + 1 + (O.length - m):=by rw [Htk.out,Hat.out];simp;omega
              rw [hO5] at hown5;have hown6:=hown5.mono hBw.size;have HL:=Lib.hid hL5;clear hown5 hown4 hown2 hO5 hL5 hs4;(go_wp2_with fail);go_roundw
              case rel=>exact ⟨k + 1,A5,cap5,by omega,by go_num,(by rw [HL.out]),(show Own _ _ _ _ _ _ _ _ by rw [HL.out];exact hown6),hBW5⟩
              case measure=>simp [intOf];omega
    · (go_wp2_with fail);go_ret;have e : k = n:=by omega
      have e2 : R.take k = R:=List.take_of_length_le (by omega);refine ⟨A1,cap1,?_,(by rw [e2] at hown;exact hown),hb⟩;rw [e2];rfl
end
section
open Go.RowKit
theorem cR (X : List Row) : ∀ r ∈ X.map yH,∀ u ∈ r.toList,u.oneCell' = true:=by
  intro r hr;obtain ⟨x,_,rfl⟩:=List.mem_map.1 hr;exact j9 x
theorem fB {g : Nat} {w W w' : World} (h : zC [] w W) (k : zC [g] W w') : zC [g] w w':=zC.trans (h.mono (by simp)) k (fun x hx=>.inl hx)
set_option maxRecDepth 100000 in
set_option maxHeartbeats 4000000 in
theorem V8 (m : yR) (o : OpV) (A : Option Addr) (c : Nat) (w : World) (g : Nat) (t : ByteArray) (I : List zK) (x : RV) (h : qJ w g t I x) (hk : o.k = 2) (hkey : o.key.size ≤ 16) (hval : o.val.size ≤ 16) (hrefs : o.refs.length ≤ 8) (hlo : -2147483648 ≤ o.n) (hhi : o.n < 2147483648) (hA : y4 w A o.refs.length o.refs) (hgA : g ∉ blk A) (hok : hU x) (hl : x.len ≤ 10000) :
    Calls Tryz.prog 73 #[.pointer (some ⟨g,0,none⟩),.agg (zP m),.agg (opC o A c)] w fun e w'=>e = .returned (.tuple #[]) ∧ qJ w' g t I (gC m o x) ∧ zC [g] w w':=by
  obtain ⟨k,n,key,val,ref,refs⟩:=o;dsimp only at hk hkey hval hrefs hlo hhi hA;subst hk;obtain ⟨si,sa,sg,sl,sm,so,ss,sd,h⟩:=h;have hbW : Below w.heap.size w ((w.alloc (.cells (zP m) 41)).alloc (.cells (zJ ⟨(2 : Int),n,key,val,ref,.slice A refs.length c⟩) 52)):=((Below.refl _ _).alloc (Nat.le_refl _) _).alloc (by simp) _;have rm : zF ((w.alloc (.cells (zP m) 41)).alloc (.cells (zJ ⟨(2 : Int),n,key,val,ref,.slice A refs.length c⟩) 52)) w.heap.size 0 34 = some (zP m):=by simp [go_sem]
  have ro : zF ((w.alloc (.cells (zP m) 41)).alloc (.cells (zJ ⟨(2 : Int),n,key,val,ref,.slice A refs.length c⟩) 52)) (w.heap.size + 1) 0 37 = some (zJ ⟨(2 : Int),n,key,val,ref,.slice A refs.length c⟩):=by simp [go_sem]
  have hgl:=h.lt;have hlens:=h.lens;unfold opC;rw [show ((2 : Nat) : Int) = (2 : Int) from rfl];go_enter Tryz.func73,Tryz.ntmps73
  go_upto_region 1 with fail
  have hW1:=h.below hbW;have hTA : y4 ((w.alloc (.cells (zP m) 41)).alloc (.cells (zJ ⟨(2 : Int),n,key,val,ref,.slice A refs.length c⟩) 52)) A refs.length refs:=SlR.below hA hbW;obtain ⟨gm,hgm⟩ : ∃ gm,w.heap.size = gm:=⟨_,rfl⟩
  obtain ⟨W,hW⟩ : ∃ W,((w.alloc (.cells (zP m) 41)).alloc (.cells (zJ ⟨(2 : Int),n,key,val,ref,.slice A refs.length c⟩) 52)) = W:=⟨_,rfl⟩
  rw [hW] at hbW rm ro hW1 hTA;rw [hW];have Hgm:=Lib.hid hgm;rw [hgm] at rm ro hgl ⊢;clear hW hgm h hA;have m0 : zF W gm 0 32 = some (idC m.id):=by have:=y7 rm (j:=0) (m:=32) (by omega);rwa [qM] at this
  have m1 : W.cell? ⟨gm,32,none⟩ = some (.int .i64 m.h):=by have:=zD rm (j:=32) (by omega);rwa [vP,Nat.zero_add] at this
  have o0 : W.cell? ⟨gm + 1,0,none⟩ = some (.int .i64 (2 : Int)):=by have:=zD ro (j:=0) (by omega);rwa [q6] at this
  have o1 : W.cell? ⟨gm + 1,1,none⟩ = some (.int .i64 n):=by have:=zD ro (j:=1) (by omega);rwa [qO] at this
  have o2 : W.cell? ⟨gm + 1,2,none⟩ = some (.string key):=by have:=zD ro (j:=2) (by omega);rwa [qS] at this
  have o3 : W.cell? ⟨gm + 1,3,none⟩ = some (.string val):=by have:=zD ro (j:=3) (by omega);rwa [qR] at this
  have o4 : zF W (gm + 1) 4 32 = some (idC ref):=by have:=y7 ro (j:=4) (m:=32) (by omega);rwa [j5] at this
  have o5 : W.cell? ⟨gm + 1,36,none⟩ = some (.slice A refs.length c):=by have:=zD ro (j:=36) (by omega);rwa [q9] at this
  have hgW : g < W.heap.size:=hW1.lt;have hgm1 : gm < W.heap.size:=zL rm;have hgo1 : gm + 1 < W.heap.size:=zL ro;have hbK : zC [] w W:=zC.of_below hbW;have HbK:=Lib.hid hbK;clear rm ro hbW hbK;unfold RV.len at hl;obtain ⟨l1,l2,l3,l4,l5,l6,l7⟩:=hlens;have hX:=hW1.below (w':=W.drew) ((Below.refl _ _).drew);have cc:=radd3 m.id val W.drew g _ sa.A sa.n sa.c x.adds hX.hp rfl hX.adds.1.rd hX.adds.1.nil hX.adds.2 hval (by omega);go_upto_region 5 with fail
  refine zE (Kp [g] W) false (by kernel_rfl) (by kernel_rfl) (by kernel_rfl) (yB [g] W) ?_;have hne:=xD [g] W;have hS:=yB [g] W;have q0:=yP m0 (S:=[g]) (by simp;omega);have q1:=zZ m1 (S:=[g]) (by simp;omega);have p1:=zZ o1 (S:=[g]) (by simp;omega);have p2:=zZ o2 (S:=[g]) (by simp;omega);have p3:=zZ o3 (S:=[g]) (by simp;omega);have p4:=yP o4 (S:=[g]) (by simp;omega);have p5:=zZ o5 (S:=[g]) (by simp;omega);repeat (refine zB ?_ ?_;(focus (simp only [zA];done));intro K hK;go_simp;refine hK _ ?_;clear hK K)
  refine zH ?_ ?_ ?_;(focus (exact hS));(focus (simp only [zA];done));intro K hK;go_simp;refine cc.mono ?_;rintro e w3 ⟨A',cap',rfl,hp3,hown3,hk3⟩;have hk30 : zC [g] W w3:=zC.trans ((zC.drew W).mono (by simp)) hk3 (fun x hx=>.inl hx);refine ⟨_,rfl,hk30,hK _ _ ?_⟩;clear hK K;have hfin : qJ w3 g t I (gC m ⟨2,n,key,val,ref,refs⟩ x):=hX.set (sa':=⟨A',sa.n + 1,cap'⟩) hk3 hp3 (fun h=>h.keep hk3) (fun _=>⟨hown3.slw,fun hx=>by have:=(hown3.at_base hx).1;have : W.drew.heap.size = W.heap.size:=rfl;omega⟩) (fun h=>h.keep hk3) (fun h=>h.keep hk3) (fun h=>h.keep hk3) (fun h=>h.keep hk3) (fun h=>h.keep hk3) (fun h=>h.keep hk3);have hkf:=fB HbK.out hk30;clear cc hown3 hp3;clear q0 q1 p1 p2 p3 p4 p5;repeat (refine zB ?_ ?_;(focus (simp only [zA];done));intro K hK;go_simp;refine hK _ ?_;clear hK K)
  refine zN ?_;intro hS;clear hne hS;(go_wp2_with fail);go_end0;exact ⟨rfl,hfin,hkf⟩
set_option maxRecDepth 100000 in
set_option maxHeartbeats 4000000 in
theorem V9 (m : yR) (o : OpV) (A : Option Addr) (c : Nat) (w : World) (g : Nat) (t : ByteArray) (I : List zK) (x : RV) (h : qJ w g t I x) (hk : o.k = 1) (hkey : o.key.size ≤ 16) (hval : o.val.size ≤ 16) (hrefs : o.refs.length ≤ 8) (hlo : -2147483648 ≤ o.n) (hhi : o.n < 2147483648) (hA : y4 w A o.refs.length o.refs) (hgA : g ∉ blk A) (hok : hU x) (hl : x.len ≤ 10000) :
    Calls Tryz.prog 73 #[.pointer (some ⟨g,0,none⟩),.agg (zP m),.agg (opC o A c)] w fun e w'=>e = .returned (.tuple #[]) ∧ qJ w' g t I (gC m o x) ∧ zC [g] w w':=by
  obtain ⟨k,n,key,val,ref,refs⟩:=o;dsimp only at hk hkey hval hrefs hlo hhi hA;subst hk;obtain ⟨si,sa,sg,sl,sm,so,ss,sd,h⟩:=h;have hbW : Below w.heap.size w ((w.alloc (.cells (zP m) 41)).alloc (.cells (zJ ⟨(1 : Int),n,key,val,ref,.slice A refs.length c⟩) 52)):=((Below.refl _ _).alloc (Nat.le_refl _) _).alloc (by simp) _;have rm : zF ((w.alloc (.cells (zP m) 41)).alloc (.cells (zJ ⟨(1 : Int),n,key,val,ref,.slice A refs.length c⟩) 52)) w.heap.size 0 34 = some (zP m):=by simp [go_sem]
  have ro : zF ((w.alloc (.cells (zP m) 41)).alloc (.cells (zJ ⟨(1 : Int),n,key,val,ref,.slice A refs.length c⟩) 52)) (w.heap.size + 1) 0 37 = some (zJ ⟨(1 : Int),n,key,val,ref,.slice A refs.length c⟩):=by simp [go_sem]
  have hgl:=h.lt;have hlens:=h.lens;unfold opC;rw [show ((1 : Nat) : Int) = (1 : Int) from rfl];go_enter Tryz.func73,Tryz.ntmps73
  go_upto_region 1 with fail
  have hW1:=h.below hbW;have hTA : y4 ((w.alloc (.cells (zP m) 41)).alloc (.cells (zJ ⟨(1 : Int),n,key,val,ref,.slice A refs.length c⟩) 52)) A refs.length refs:=SlR.below hA hbW;obtain ⟨gm,hgm⟩ : ∃ gm,w.heap.size = gm:=⟨_,rfl⟩
  obtain ⟨W,hW⟩ : ∃ W,((w.alloc (.cells (zP m) 41)).alloc (.cells (zJ ⟨(1 : Int),n,key,val,ref,.slice A refs.length c⟩) 52)) = W:=⟨_,rfl⟩
  rw [hW] at hbW rm ro hW1 hTA;rw [hW];have Hgm:=Lib.hid hgm;rw [hgm] at rm ro hgl ⊢;clear hW hgm h hA;have m0 : zF W gm 0 32 = some (idC m.id):=by have:=y7 rm (j:=0) (m:=32) (by omega);rwa [qM] at this
  have m1 : W.cell? ⟨gm,32,none⟩ = some (.int .i64 m.h):=by have:=zD rm (j:=32) (by omega);rwa [vP,Nat.zero_add] at this
  have o0 : W.cell? ⟨gm + 1,0,none⟩ = some (.int .i64 (1 : Int)):=by have:=zD ro (j:=0) (by omega);rwa [q6] at this
  have o1 : W.cell? ⟨gm + 1,1,none⟩ = some (.int .i64 n):=by have:=zD ro (j:=1) (by omega);rwa [qO] at this
  have o2 : W.cell? ⟨gm + 1,2,none⟩ = some (.string key):=by have:=zD ro (j:=2) (by omega);rwa [qS] at this
  have o3 : W.cell? ⟨gm + 1,3,none⟩ = some (.string val):=by have:=zD ro (j:=3) (by omega);rwa [qR] at this
  have o4 : zF W (gm + 1) 4 32 = some (idC ref):=by have:=y7 ro (j:=4) (m:=32) (by omega);rwa [j5] at this
  have o5 : W.cell? ⟨gm + 1,36,none⟩ = some (.slice A refs.length c):=by have:=zD ro (j:=36) (by omega);rwa [q9] at this
  have hgW : g < W.heap.size:=hW1.lt;have hgm1 : gm < W.heap.size:=zL rm;have hgo1 : gm + 1 < W.heap.size:=zL ro;have hbK : zC [] w W:=zC.of_below hbW;have HbK:=Lib.hid hbK;clear rm ro hbW hbK;unfold RV.len at hl;obtain ⟨l1,l2,l3,l4,l5,l6,l7⟩:=hlens;have hX:=hW1.below (w':=W.drew) ((Below.refl _ _).drew);have hw : IntKind.i64.wrap (x.tal + n) = wrap64 (x.tal + n):=IntWalk.i64_left _;have c2 : W.cell? ⟨g,2,none⟩ = some (.int .i64 x.tal):=hW1.cell 2 rfl;have hgd : W.drew.heap[g]? = some (.cells (rvC t si x.tal sa sg sl sm so ss sd) 69 (0,0)):=hW1.hp;have hf2 : W.drew.frozen? ⟨g,2,none⟩ = false:=by simp [World.frozen?,hgd]
  have c2d : W.drew.cell? ⟨g,2,none⟩ = some (.int .i64 x.tal):=c2;go_upto_region 3 with fail
  refine qQ (Kp [] W) false (by kernel_rfl) (by kernel_rfl) (by kernel_rfl) (by kernel_rfl) (yB [] W) ?_;have hne:=xD [] W;have hS:=yB [] W;have p1:=zZ o1 (S:=[]) (by simp);have p2:=zZ c2 (S:=[]) (by simp);repeat (refine zB ?_ ?_;(focus (simp only [zA];done));intro K hK;go_simp;refine hK _ ?_;clear hK K)
  refine kR ?_ ?_;(focus (simp only [zA];done));intro K hK;go_simp;refine hK _ _ ?_;clear hK K;have hks:=zC.setCell W.drew ⟨g,2,none⟩ (.int .i64 (wrap64 (x.tal + n)));have hp3:=zM hgd 2 (.int .i64 (wrap64 (x.tal + n)));have hfin : qJ (W.drew.setCell ⟨g,2,none⟩ (.int .i64 (wrap64 (x.tal + n)))) g t I (gC m ⟨1,n,key,val,ref,refs⟩ x):=hX.set hks hp3 (fun h=>h.keep hks) (fun h=>h.keep hks) (fun h=>h.keep hks) (fun h=>h.keep hks) (fun h=>h.keep hks) (fun h=>h.keep hks) (fun h=>h.keep hks) (fun h=>h.keep hks);have hkf : zC [g] w (W.drew.setCell ⟨g,2,none⟩ (.int .i64 (wrap64 (x.tal + n)))):=fB HbK.out (zC.trans ((zC.drew W).mono (S':=[g]) (by simp)) hks (fun x hx=>.inl hx));clear p1 p2 hne hS hks hp3 c2d hf2 hgd c2;(go_wp2_with fail);go_end0;exact ⟨rfl,hfin,hkf⟩
set_option maxRecDepth 100000 in
set_option maxHeartbeats 4000000 in
theorem V7 (m : yR) (o : OpV) (A : Option Addr) (c : Nat) (w : World) (g : Nat) (t : ByteArray) (I : List zK) (x : RV) (h : qJ w g t I x) (hk : o.k = 3) (hkey : o.key.size ≤ 16) (hval : o.val.size ≤ 16) (hrefs : o.refs.length ≤ 8) (hlo : -2147483648 ≤ o.n) (hhi : o.n < 2147483648) (hA : y4 w A o.refs.length o.refs) (hgA : g ∉ blk A) (hok : hU x) (hl : x.len ≤ 10000) :
    Calls Tryz.prog 73 #[.pointer (some ⟨g,0,none⟩),.agg (zP m),.agg (opC o A c)] w fun e w'=>e = .returned (.tuple #[]) ∧ qJ w' g t I (gC m o x) ∧ zC [g] w w':=by
  obtain ⟨k,n,key,val,ref,refs⟩:=o;dsimp only at hk hkey hval hrefs hlo hhi hA;subst hk;obtain ⟨si,sa,sg,sl,sm,so,ss,sd,h⟩:=h;have hbW : Below w.heap.size w ((w.alloc (.cells (zP m) 41)).alloc (.cells (zJ ⟨(3 : Int),n,key,val,ref,.slice A refs.length c⟩) 52)):=((Below.refl _ _).alloc (Nat.le_refl _) _).alloc (by simp) _;have rm : zF ((w.alloc (.cells (zP m) 41)).alloc (.cells (zJ ⟨(3 : Int),n,key,val,ref,.slice A refs.length c⟩) 52)) w.heap.size 0 34 = some (zP m):=by simp [go_sem]
  have ro : zF ((w.alloc (.cells (zP m) 41)).alloc (.cells (zJ ⟨(3 : Int),n,key,val,ref,.slice A refs.length c⟩) 52)) (w.heap.size + 1) 0 37 = some (zJ ⟨(3 : Int),n,key,val,ref,.slice A refs.length c⟩):=by simp [go_sem]
  have hgl:=h.lt;have hlens:=h.lens;unfold opC;rw [show ((3 : Nat) : Int) = (3 : Int) from rfl];go_enter Tryz.func73,Tryz.ntmps73
  go_upto_region 1 with fail
  have hW1:=h.below hbW;have hTA : y4 ((w.alloc (.cells (zP m) 41)).alloc (.cells (zJ ⟨(3 : Int),n,key,val,ref,.slice A refs.length c⟩) 52)) A refs.length refs:=SlR.below hA hbW;obtain ⟨gm,hgm⟩ : ∃ gm,w.heap.size = gm:=⟨_,rfl⟩
  obtain ⟨W,hW⟩ : ∃ W,((w.alloc (.cells (zP m) 41)).alloc (.cells (zJ ⟨(3 : Int),n,key,val,ref,.slice A refs.length c⟩) 52)) = W:=⟨_,rfl⟩
  rw [hW] at hbW rm ro hW1 hTA;rw [hW];have Hgm:=Lib.hid hgm;rw [hgm] at rm ro hgl ⊢;clear hW hgm h hA;have m0 : zF W gm 0 32 = some (idC m.id):=by have:=y7 rm (j:=0) (m:=32) (by omega);rwa [qM] at this
  have m1 : W.cell? ⟨gm,32,none⟩ = some (.int .i64 m.h):=by have:=zD rm (j:=32) (by omega);rwa [vP,Nat.zero_add] at this
  have o0 : W.cell? ⟨gm + 1,0,none⟩ = some (.int .i64 (3 : Int)):=by have:=zD ro (j:=0) (by omega);rwa [q6] at this
  have o1 : W.cell? ⟨gm + 1,1,none⟩ = some (.int .i64 n):=by have:=zD ro (j:=1) (by omega);rwa [qO] at this
  have o2 : W.cell? ⟨gm + 1,2,none⟩ = some (.string key):=by have:=zD ro (j:=2) (by omega);rwa [qS] at this
  have o3 : W.cell? ⟨gm + 1,3,none⟩ = some (.string val):=by have:=zD ro (j:=3) (by omega);rwa [qR] at this
  have o4 : zF W (gm + 1) 4 32 = some (idC ref):=by have:=y7 ro (j:=4) (m:=32) (by omega);rwa [j5] at this
  have o5 : W.cell? ⟨gm + 1,36,none⟩ = some (.slice A refs.length c):=by have:=zD ro (j:=36) (by omega);rwa [q9] at this
  have hgW : g < W.heap.size:=hW1.lt;have hgm1 : gm < W.heap.size:=zL rm;have hgo1 : gm + 1 < W.heap.size:=zL ro;have hbK : zC [] w W:=zC.of_below hbW;have HbK:=Lib.hid hbK;clear rm ro hbW hbK;unfold RV.len at hl;obtain ⟨l1,l2,l3,l4,l5,l6,l7⟩:=hlens;have hX:=hW1.below (w':=W.drew) ((Below.refl _ _).drew);have cc:=rrem3 val A refs.length c refs W.drew g _ sg.A sg.n sg.c x.gone hX.hp rfl hX.gone.1.rd hX.gone.1.nil (SlR.below hTA (zG W)) hval (by omega) (by omega);go_upto_region 7 with fail
  refine zE (Kp [g] W) false (by kernel_rfl) (by kernel_rfl) (by kernel_rfl) (yB [g] W) ?_;have hne:=xD [g] W;have hS:=yB [g] W;have q0:=yP m0 (S:=[g]) (by simp;omega);have q1:=zZ m1 (S:=[g]) (by simp;omega);have p1:=zZ o1 (S:=[g]) (by simp;omega);have p2:=zZ o2 (S:=[g]) (by simp;omega);have p3:=zZ o3 (S:=[g]) (by simp;omega);have p4:=yP o4 (S:=[g]) (by simp;omega);have p5:=zZ o5 (S:=[g]) (by simp;omega);repeat (refine zB ?_ ?_;(focus (simp only [zA];done));intro K hK;go_simp;refine hK _ ?_;clear hK K)
  refine zH ?_ ?_ ?_;(focus (exact hS));(focus (simp only [zA];done));intro K hK;go_simp;refine cc.mono ?_;rintro e w3 ⟨A',cap',rfl,hp3,hown3,hk3⟩;have hk30 : zC [g] W w3:=zC.trans ((zC.drew W).mono (by simp)) hk3 (fun x hx=>.inl hx);refine ⟨_,rfl,hk30,hK _ _ ?_⟩;clear hK K;have hfin : qJ w3 g t I (gC m ⟨3,n,key,val,ref,refs⟩ x):=hX.set (sg':=⟨A',sg.n + refs.length,cap'⟩) hk3 hp3 (fun h=>h.keep hk3) (fun h=>h.keep hk3) (fun _=>⟨hown3.slw,fun hx=>by have:=(hown3.at_base hx).1;have : W.drew.heap.size = W.heap.size:=rfl;omega⟩) (fun h=>h.keep hk3) (fun h=>h.keep hk3) (fun h=>h.keep hk3) (fun h=>h.keep hk3) (fun h=>h.keep hk3);have hkf:=fB HbK.out hk30;clear cc hp3 hown3;clear q0 q1 p1 p2 p3 p4 p5;repeat (refine zB ?_ ?_;(focus (simp only [zA];done));intro K hK;go_simp;refine hK _ ?_;clear hK K)
  refine zN ?_;intro hS;clear hne hS;(go_wp2_with fail);go_end0;exact ⟨rfl,hfin,hkf⟩
set_option maxRecDepth 100000 in
set_option maxHeartbeats 4000000 in
theorem V5 (m : yR) (o : OpV) (A : Option Addr) (c : Nat) (w : World) (g : Nat) (t : ByteArray) (I : List zK) (x : RV) (h : qJ w g t I x) (hk : o.k = 5) (hkey : o.key.size ≤ 16) (hval : o.val.size ≤ 16) (hrefs : o.refs.length ≤ 8) (hlo : -2147483648 ≤ o.n) (hhi : o.n < 2147483648) (hA : y4 w A o.refs.length o.refs) (hgA : g ∉ blk A) (hok : hU x) (hl : x.len ≤ 10000) :
    Calls Tryz.prog 73 #[.pointer (some ⟨g,0,none⟩),.agg (zP m),.agg (opC o A c)] w fun e w'=>e = .returned (.tuple #[]) ∧ qJ w' g t I (gC m o x) ∧ zC [g] w w':=by
  obtain ⟨k,n,key,val,ref,refs⟩:=o;dsimp only at hk hkey hval hrefs hlo hhi hA;subst hk;obtain ⟨si,sa,sg,sl,sm,so,ss,sd,h⟩:=h;have hbW : Below w.heap.size w ((w.alloc (.cells (zP m) 41)).alloc (.cells (zJ ⟨(5 : Int),n,key,val,ref,.slice A refs.length c⟩) 52)):=((Below.refl _ _).alloc (Nat.le_refl _) _).alloc (by simp) _;have rm : zF ((w.alloc (.cells (zP m) 41)).alloc (.cells (zJ ⟨(5 : Int),n,key,val,ref,.slice A refs.length c⟩) 52)) w.heap.size 0 34 = some (zP m):=by simp [go_sem]
  have ro : zF ((w.alloc (.cells (zP m) 41)).alloc (.cells (zJ ⟨(5 : Int),n,key,val,ref,.slice A refs.length c⟩) 52)) (w.heap.size + 1) 0 37 = some (zJ ⟨(5 : Int),n,key,val,ref,.slice A refs.length c⟩):=by simp [go_sem]
  have hgl:=h.lt;have hlens:=h.lens;unfold opC;rw [show ((5 : Nat) : Int) = (5 : Int) from rfl];go_enter Tryz.func73,Tryz.ntmps73
  go_upto_region 1 with fail
  have hW1:=h.below hbW;have hTA : y4 ((w.alloc (.cells (zP m) 41)).alloc (.cells (zJ ⟨(5 : Int),n,key,val,ref,.slice A refs.length c⟩) 52)) A refs.length refs:=SlR.below hA hbW;obtain ⟨gm,hgm⟩ : ∃ gm,w.heap.size = gm:=⟨_,rfl⟩
  obtain ⟨W,hW⟩ : ∃ W,((w.alloc (.cells (zP m) 41)).alloc (.cells (zJ ⟨(5 : Int),n,key,val,ref,.slice A refs.length c⟩) 52)) = W:=⟨_,rfl⟩
  rw [hW] at hbW rm ro hW1 hTA;rw [hW];have Hgm:=Lib.hid hgm;rw [hgm] at rm ro hgl ⊢;clear hW hgm h hA;have m0 : zF W gm 0 32 = some (idC m.id):=by have:=y7 rm (j:=0) (m:=32) (by omega);rwa [qM] at this
  have m1 : W.cell? ⟨gm,32,none⟩ = some (.int .i64 m.h):=by have:=zD rm (j:=32) (by omega);rwa [vP,Nat.zero_add] at this
  have o0 : W.cell? ⟨gm + 1,0,none⟩ = some (.int .i64 (5 : Int)):=by have:=zD ro (j:=0) (by omega);rwa [q6] at this
  have o1 : W.cell? ⟨gm + 1,1,none⟩ = some (.int .i64 n):=by have:=zD ro (j:=1) (by omega);rwa [qO] at this
  have o2 : W.cell? ⟨gm + 1,2,none⟩ = some (.string key):=by have:=zD ro (j:=2) (by omega);rwa [qS] at this
  have o3 : W.cell? ⟨gm + 1,3,none⟩ = some (.string val):=by have:=zD ro (j:=3) (by omega);rwa [qR] at this
  have o4 : zF W (gm + 1) 4 32 = some (idC ref):=by have:=y7 ro (j:=4) (m:=32) (by omega);rwa [j5] at this
  have o5 : W.cell? ⟨gm + 1,36,none⟩ = some (.slice A refs.length c):=by have:=zD ro (j:=36) (by omega);rwa [q9] at this
  have hgW : g < W.heap.size:=hW1.lt;have hgm1 : gm < W.heap.size:=zL rm;have hgo1 : gm + 1 < W.heap.size:=zL ro;have hbK : zC [] w W:=zC.of_below hbW;have HbK:=Lib.hid hbK;clear rm ro hbW hbK;unfold RV.len at hl;obtain ⟨l1,l2,l3,l4,l5,l6,l7⟩:=hlens;have hX:=hW1.below (w':=W.drew) ((Below.refl _ _).drew);have hg0 : g ∉ blk A:=hgA;have cc:=rmset6 ⟨m.id,key,val⟩ A refs.length c refs W.drew g _ sm.A sm.n sm.c x.mL so.A so.n so.c x.mO hX.hp rfl rfl hX.mL.1.rd hX.mL.1.nil hX.mO.1.rd hX.mO.2 (SlR.below hTA (zG W)) hg0 hkey hval (by omega) (by omega) (by omega);go_upto_region 11 with fail
  refine zE (Kp [g] W) false (by kernel_rfl) (by kernel_rfl) (by kernel_rfl) (yB [g] W) ?_;have hne:=xD [g] W;have hS:=yB [g] W;have q0:=yP m0 (S:=[g]) (by simp;omega);have q1:=zZ m1 (S:=[g]) (by simp;omega);have p1:=zZ o1 (S:=[g]) (by simp;omega);have p2:=zZ o2 (S:=[g]) (by simp;omega);have p3:=zZ o3 (S:=[g]) (by simp;omega);have p4:=yP o4 (S:=[g]) (by simp;omega);have p5:=zZ o5 (S:=[g]) (by simp;omega);repeat (refine zB ?_ ?_;(focus (simp only [zA];done));intro K hK;go_simp;refine hK _ ?_;clear hK K)
  refine zH ?_ ?_ ?_;(focus (exact hS));(focus (simp only [zA];done));intro K hK;go_simp;refine cc.mono ?_;rintro e w3 ⟨A3,cap3,A9,cap9,rfl,hp3,hown3,hI3,hb9,hk3⟩;have hk30 : zC [g] W w3:=zC.trans ((zC.drew W).mono (by simp)) hk3 (fun x hx=>.inl hx);refine ⟨_,rfl,hk30,hK _ _ ?_⟩;clear hK K;have hfin : qJ w3 g t I (gC m ⟨5,n,key,val,ref,refs⟩ x):=hX.set (sm':=⟨A3,sm.n + 1,cap3⟩) (so':=⟨A9,(yA zO (x.mO ++ refs)).length,cap9⟩) hk3 hp3 (fun h=>h.keep hk3) (fun h=>h.keep hk3) (fun h=>h.keep hk3) (fun h=>h.keep hk3) (fun _=>⟨hown3.slw,fun hx=>by have:=(hown3.at_base hx).1;have : W.drew.heap.size = W.heap.size:=rfl;omega⟩) (fun _=>⟨hI3,fun hx=>by have:=hb9 g hx;have : W.drew.heap.size = W.heap.size:=rfl;omega⟩) (fun h=>h.keep hk3) (fun h=>h.keep hk3);have hkf:=fB HbK.out hk30;clear cc hp3 hown3 hI3;clear q0 q1 p1 p2 p3 p4 p5;repeat (refine zB ?_ ?_;(focus (simp only [zA];done));intro K hK;go_simp;refine hK _ ?_;clear hK K)
  refine zN ?_;intro hS;clear hne hS;(go_wp2_with fail);go_end0;exact ⟨rfl,hfin,hkf⟩
set_option maxRecDepth 100000 in
set_option maxHeartbeats 4000000 in
theorem V4 (m : yR) (o : OpV) (A : Option Addr) (c : Nat) (w : World) (g : Nat) (t : ByteArray) (I : List zK) (x : RV) (h : qJ w g t I x) (hk : o.k = 6) (hkey : o.key.size ≤ 16) (hval : o.val.size ≤ 16) (hrefs : o.refs.length ≤ 8) (hlo : -2147483648 ≤ o.n) (hhi : o.n < 2147483648) (hA : y4 w A o.refs.length o.refs) (hgA : g ∉ blk A) (hok : hU x) (hl : x.len ≤ 10000) :
    Calls Tryz.prog 73 #[.pointer (some ⟨g,0,none⟩),.agg (zP m),.agg (opC o A c)] w fun e w'=>e = .returned (.tuple #[]) ∧ qJ w' g t I (gC m o x) ∧ zC [g] w w':=by
  obtain ⟨k,n,key,val,ref,refs⟩:=o;dsimp only at hk hkey hval hrefs hlo hhi hA;subst hk;obtain ⟨si,sa,sg,sl,sm,so,ss,sd,h⟩:=h;have hbW : Below w.heap.size w ((w.alloc (.cells (zP m) 41)).alloc (.cells (zJ ⟨(6 : Int),n,key,val,ref,.slice A refs.length c⟩) 52)):=((Below.refl _ _).alloc (Nat.le_refl _) _).alloc (by simp) _;have rm : zF ((w.alloc (.cells (zP m) 41)).alloc (.cells (zJ ⟨(6 : Int),n,key,val,ref,.slice A refs.length c⟩) 52)) w.heap.size 0 34 = some (zP m):=by simp [go_sem]
  have ro : zF ((w.alloc (.cells (zP m) 41)).alloc (.cells (zJ ⟨(6 : Int),n,key,val,ref,.slice A refs.length c⟩) 52)) (w.heap.size + 1) 0 37 = some (zJ ⟨(6 : Int),n,key,val,ref,.slice A refs.length c⟩):=by simp [go_sem]
  have hgl:=h.lt;have hlens:=h.lens;unfold opC;rw [show ((6 : Nat) : Int) = (6 : Int) from rfl];go_enter Tryz.func73,Tryz.ntmps73
  go_upto_region 1 with fail
  have hW1:=h.below hbW;have hTA : y4 ((w.alloc (.cells (zP m) 41)).alloc (.cells (zJ ⟨(6 : Int),n,key,val,ref,.slice A refs.length c⟩) 52)) A refs.length refs:=SlR.below hA hbW;obtain ⟨gm,hgm⟩ : ∃ gm,w.heap.size = gm:=⟨_,rfl⟩
  obtain ⟨W,hW⟩ : ∃ W,((w.alloc (.cells (zP m) 41)).alloc (.cells (zJ ⟨(6 : Int),n,key,val,ref,.slice A refs.length c⟩) 52)) = W:=⟨_,rfl⟩
  rw [hW] at hbW rm ro hW1 hTA;rw [hW];have Hgm:=Lib.hid hgm;rw [hgm] at rm ro hgl ⊢;clear hW hgm h hA;have m0 : zF W gm 0 32 = some (idC m.id):=by have:=y7 rm (j:=0) (m:=32) (by omega);rwa [qM] at this
  have m1 : W.cell? ⟨gm,32,none⟩ = some (.int .i64 m.h):=by have:=zD rm (j:=32) (by omega);rwa [vP,Nat.zero_add] at this
  have o0 : W.cell? ⟨gm + 1,0,none⟩ = some (.int .i64 (6 : Int)):=by have:=zD ro (j:=0) (by omega);rwa [q6] at this
  have o1 : W.cell? ⟨gm + 1,1,none⟩ = some (.int .i64 n):=by have:=zD ro (j:=1) (by omega);rwa [qO] at this
  have o2 : W.cell? ⟨gm + 1,2,none⟩ = some (.string key):=by have:=zD ro (j:=2) (by omega);rwa [qS] at this
  have o3 : W.cell? ⟨gm + 1,3,none⟩ = some (.string val):=by have:=zD ro (j:=3) (by omega);rwa [qR] at this
  have o4 : zF W (gm + 1) 4 32 = some (idC ref):=by have:=y7 ro (j:=4) (m:=32) (by omega);rwa [j5] at this
  have o5 : W.cell? ⟨gm + 1,36,none⟩ = some (.slice A refs.length c):=by have:=zD ro (j:=36) (by omega);rwa [q9] at this
  have hgW : g < W.heap.size:=hW1.lt;have hgm1 : gm < W.heap.size:=zL rm;have hgo1 : gm + 1 < W.heap.size:=zL ro;have hbK : zC [] w W:=zC.of_below hbW;have HbK:=Lib.hid hbK;clear rm ro hbW hbK;unfold RV.len at hl;obtain ⟨l1,l2,l3,l4,l5,l6,l7⟩:=hlens;have hX:=hW1.below (w':=W.drew) ((Below.refl _ _).drew);have cc:=rsins8 ⟨m.id,m.h,ref,val⟩ W.drew g _ ss.A ss.n ss.c x.sL hX.hp rfl hX.sL.1 hX.sL.2 hok.sL (Nat.le_trans hval (by omega)) (by omega);go_upto_region 13 with fail
  refine zE (Kp [g] W) false (by kernel_rfl) (by kernel_rfl) (by kernel_rfl) (yB [g] W) ?_;have hne:=xD [g] W;have hS:=yB [g] W;have q0:=yP m0 (S:=[g]) (by simp;omega);have q1:=zZ m1 (S:=[g]) (by simp;omega);have p1:=zZ o1 (S:=[g]) (by simp;omega);have p2:=zZ o2 (S:=[g]) (by simp;omega);have p3:=zZ o3 (S:=[g]) (by simp;omega);have p4:=yP o4 (S:=[g]) (by simp;omega);have p5:=zZ o5 (S:=[g]) (by simp;omega);repeat (refine zB ?_ ?_;(focus (simp only [zA];done));intro K hK;go_simp;refine hK _ ?_;clear hK K)
  refine zH ?_ ?_ ?_;(focus (exact hS));(focus (simp only [zA];done));intro K hK;go_simp;refine cc.mono ?_;rintro e w3 ⟨A',n',cap',rfl,hp3,hsw3,hgA3,hk3⟩;have hk30 : zC [g] W w3:=zC.trans ((zC.drew W).mono (by simp)) hk3 (fun x hx=>.inl hx);refine ⟨_,rfl,hk30,hK _ _ ?_⟩;clear hK K;have hfin : qJ w3 g t I (gC m ⟨6,n,key,val,ref,refs⟩ x):=hX.set (ss':=⟨A',n',cap'⟩) hk3 hp3 (fun h=>h.keep hk3) (fun h=>h.keep hk3) (fun h=>h.keep hk3) (fun h=>h.keep hk3) (fun h=>h.keep hk3) (fun h=>h.keep hk3) (fun _=>⟨hsw3,hgA3⟩) (fun h=>h.keep hk3);have hkf:=fB HbK.out hk30;clear cc hp3 hsw3;clear q0 q1 p1 p2 p3 p4 p5;repeat (refine zB ?_ ?_;(focus (simp only [zA];done));intro K hK;go_simp;refine hK _ ?_;clear hK K)
  refine zN ?_;intro hS;clear hne hS;(go_wp2_with fail);go_end0;exact ⟨rfl,hfin,hkf⟩
set_option maxRecDepth 100000 in
set_option maxHeartbeats 4000000 in
theorem V3 (m : yR) (o : OpV) (A : Option Addr) (c : Nat) (w : World) (g : Nat) (t : ByteArray) (I : List zK) (x : RV) (h : qJ w g t I x) (hk : o.k = 7) (hkey : o.key.size ≤ 16) (hval : o.val.size ≤ 16) (hrefs : o.refs.length ≤ 8) (hlo : -2147483648 ≤ o.n) (hhi : o.n < 2147483648) (hA : y4 w A o.refs.length o.refs) (hgA : g ∉ blk A) (hok : hU x) (hl : x.len ≤ 10000) :
    Calls Tryz.prog 73 #[.pointer (some ⟨g,0,none⟩),.agg (zP m),.agg (opC o A c)] w fun e w'=>e = .returned (.tuple #[]) ∧ qJ w' g t I (gC m o x) ∧ zC [g] w w':=by
  obtain ⟨k,n,key,val,ref,refs⟩:=o;dsimp only at hk hkey hval hrefs hlo hhi hA;subst hk;obtain ⟨si,sa,sg,sl,sm,so,ss,sd,h⟩:=h;have hbW : Below w.heap.size w ((w.alloc (.cells (zP m) 41)).alloc (.cells (zJ ⟨(7 : Int),n,key,val,ref,.slice A refs.length c⟩) 52)):=((Below.refl _ _).alloc (Nat.le_refl _) _).alloc (by simp) _;have rm : zF ((w.alloc (.cells (zP m) 41)).alloc (.cells (zJ ⟨(7 : Int),n,key,val,ref,.slice A refs.length c⟩) 52)) w.heap.size 0 34 = some (zP m):=by simp [go_sem]
  have ro : zF ((w.alloc (.cells (zP m) 41)).alloc (.cells (zJ ⟨(7 : Int),n,key,val,ref,.slice A refs.length c⟩) 52)) (w.heap.size + 1) 0 37 = some (zJ ⟨(7 : Int),n,key,val,ref,.slice A refs.length c⟩):=by simp [go_sem]
  have hgl:=h.lt;have hlens:=h.lens;unfold opC;rw [show ((7 : Nat) : Int) = (7 : Int) from rfl];go_enter Tryz.func73,Tryz.ntmps73
  go_upto_region 1 with fail
  have hW1:=h.below hbW;have hTA : y4 ((w.alloc (.cells (zP m) 41)).alloc (.cells (zJ ⟨(7 : Int),n,key,val,ref,.slice A refs.length c⟩) 52)) A refs.length refs:=SlR.below hA hbW;obtain ⟨gm,hgm⟩ : ∃ gm,w.heap.size = gm:=⟨_,rfl⟩
  obtain ⟨W,hW⟩ : ∃ W,((w.alloc (.cells (zP m) 41)).alloc (.cells (zJ ⟨(7 : Int),n,key,val,ref,.slice A refs.length c⟩) 52)) = W:=⟨_,rfl⟩
  rw [hW] at hbW rm ro hW1 hTA;rw [hW];have Hgm:=Lib.hid hgm;rw [hgm] at rm ro hgl ⊢;clear hW hgm h hA;have m0 : zF W gm 0 32 = some (idC m.id):=by have:=y7 rm (j:=0) (m:=32) (by omega);rwa [qM] at this
  have m1 : W.cell? ⟨gm,32,none⟩ = some (.int .i64 m.h):=by have:=zD rm (j:=32) (by omega);rwa [vP,Nat.zero_add] at this
  have o0 : W.cell? ⟨gm + 1,0,none⟩ = some (.int .i64 (7 : Int)):=by have:=zD ro (j:=0) (by omega);rwa [q6] at this
  have o1 : W.cell? ⟨gm + 1,1,none⟩ = some (.int .i64 n):=by have:=zD ro (j:=1) (by omega);rwa [qO] at this
  have o2 : W.cell? ⟨gm + 1,2,none⟩ = some (.string key):=by have:=zD ro (j:=2) (by omega);rwa [qS] at this
  have o3 : W.cell? ⟨gm + 1,3,none⟩ = some (.string val):=by have:=zD ro (j:=3) (by omega);rwa [qR] at this
  have o4 : zF W (gm + 1) 4 32 = some (idC ref):=by have:=y7 ro (j:=4) (m:=32) (by omega);rwa [j5] at this
  have o5 : W.cell? ⟨gm + 1,36,none⟩ = some (.slice A refs.length c):=by have:=zD ro (j:=36) (by omega);rwa [q9] at this
  have hgW : g < W.heap.size:=hW1.lt;have hgm1 : gm < W.heap.size:=zL rm;have hgo1 : gm + 1 < W.heap.size:=zL ro;have hbK : zC [] w W:=zC.of_below hbW;have HbK:=Lib.hid hbK;clear rm ro hbW hbK;unfold RV.len at hl;obtain ⟨l1,l2,l3,l4,l5,l6,l7⟩:=hlens;have hX:=hW1.below (w':=W.drew) ((Below.refl _ _).drew);have cc:=rsdel8 ref W.drew g _ sd.A sd.n sd.c x.sG hX.hp rfl hX.sG.1 hX.sG.2 hok.sG (by omega);go_upto_region 15 with fail
  refine zE (Kp [g] W) false (by kernel_rfl) (by kernel_rfl) (by kernel_rfl) (yB [g] W) ?_;have hne:=xD [g] W;have hS:=yB [g] W;have q0:=yP m0 (S:=[g]) (by simp;omega);have q1:=zZ m1 (S:=[g]) (by simp;omega);have p1:=zZ o1 (S:=[g]) (by simp;omega);have p2:=zZ o2 (S:=[g]) (by simp;omega);have p3:=zZ o3 (S:=[g]) (by simp;omega);have p4:=yP o4 (S:=[g]) (by simp;omega);have p5:=zZ o5 (S:=[g]) (by simp;omega);repeat (refine zB ?_ ?_;(focus (simp only [zA];done));intro K hK;go_simp;refine hK _ ?_;clear hK K)
  refine zH ?_ ?_ ?_;(focus (exact hS));(focus (simp only [zA];done));intro K hK;go_simp;refine cc.mono ?_;rintro e w3 ⟨A',cap',rfl,hp3,hsw3,hgA3,hk3⟩;have hk30 : zC [g] W w3:=zC.trans ((zC.drew W).mono (by simp)) hk3 (fun x hx=>.inl hx);refine ⟨_,rfl,hk30,hK _ _ ?_⟩;clear hK K;have hfin : qJ w3 g t I (gC m ⟨7,n,key,val,ref,refs⟩ x):=hX.set (sd':=⟨A',(xJ zO x.sG ref).length,cap'⟩) hk3 hp3 (fun h=>h.keep hk3) (fun h=>h.keep hk3) (fun h=>h.keep hk3) (fun h=>h.keep hk3) (fun h=>h.keep hk3) (fun h=>h.keep hk3) (fun h=>h.keep hk3) (fun _=>⟨hsw3,hgA3⟩);have hkf:=fB HbK.out hk30;clear cc hp3 hsw3;clear q0 q1 p1 p2 p3 p4 p5;repeat (refine zB ?_ ?_;(focus (simp only [zA];done));intro K hK;go_simp;refine hK _ ?_;clear hK K)
  refine zN ?_;intro hS;clear hne hS;(go_wp2_with fail);go_end0;exact ⟨rfl,hfin,hkf⟩
set_option maxRecDepth 100000 in
set_option maxHeartbeats 4000000 in
theorem V6 (m : yR) (o : OpV) (A : Option Addr) (c : Nat) (w : World) (g : Nat) (t : ByteArray) (I : List zK) (x : RV) (h : qJ w g t I x) (hk : o.k = 4) (hkey : o.key.size ≤ 16) (hval : o.val.size ≤ 16) (hrefs : o.refs.length ≤ 8) (hlo : -2147483648 ≤ o.n) (hhi : o.n < 2147483648) (hA : y4 w A o.refs.length o.refs) (hgA : g ∉ blk A) (hok : hU x) (hl : x.len ≤ 10000) :
    Calls Tryz.prog 73 #[.pointer (some ⟨g,0,none⟩),.agg (zP m),.agg (opC o A c)] w fun e w'=>e = .returned (.tuple #[]) ∧ qJ w' g t I (gC m o x) ∧ zC [g] w w':=by
  obtain ⟨k,n,key,val,ref,refs⟩:=o;dsimp only at hk hkey hval hrefs hlo hhi hA;subst hk;obtain ⟨si,sa,sg,sl,sm,so,ss,sd,h⟩:=h;have hbW : Below w.heap.size w ((w.alloc (.cells (zP m) 41)).alloc (.cells (zJ ⟨(4 : Int),n,key,val,ref,.slice A refs.length c⟩) 52)):=((Below.refl _ _).alloc (Nat.le_refl _) _).alloc (by simp) _;have rm : zF ((w.alloc (.cells (zP m) 41)).alloc (.cells (zJ ⟨(4 : Int),n,key,val,ref,.slice A refs.length c⟩) 52)) w.heap.size 0 34 = some (zP m):=by simp [go_sem]
  have ro : zF ((w.alloc (.cells (zP m) 41)).alloc (.cells (zJ ⟨(4 : Int),n,key,val,ref,.slice A refs.length c⟩) 52)) (w.heap.size + 1) 0 37 = some (zJ ⟨(4 : Int),n,key,val,ref,.slice A refs.length c⟩):=by simp [go_sem]
  have hgl:=h.lt;have hlens:=h.lens;unfold opC;rw [show ((4 : Nat) : Int) = (4 : Int) from rfl];go_enter Tryz.func73,Tryz.ntmps73
  go_upto_region 1 with fail
  have hW1:=h.below hbW;have hTA : y4 ((w.alloc (.cells (zP m) 41)).alloc (.cells (zJ ⟨(4 : Int),n,key,val,ref,.slice A refs.length c⟩) 52)) A refs.length refs:=SlR.below hA hbW;obtain ⟨gm,hgm⟩ : ∃ gm,w.heap.size = gm:=⟨_,rfl⟩
  obtain ⟨W,hW⟩ : ∃ W,((w.alloc (.cells (zP m) 41)).alloc (.cells (zJ ⟨(4 : Int),n,key,val,ref,.slice A refs.length c⟩) 52)) = W:=⟨_,rfl⟩
  rw [hW] at hbW rm ro hW1 hTA;rw [hW];have Hgm:=Lib.hid hgm;rw [hgm] at rm ro hgl ⊢;clear hW hgm h hA;have m0 : zF W gm 0 32 = some (idC m.id):=by have:=y7 rm (j:=0) (m:=32) (by omega);rwa [qM] at this
  have m1 : W.cell? ⟨gm,32,none⟩ = some (.int .i64 m.h):=by have:=zD rm (j:=32) (by omega);rwa [vP,Nat.zero_add] at this
  have o0 : W.cell? ⟨gm + 1,0,none⟩ = some (.int .i64 (4 : Int)):=by have:=zD ro (j:=0) (by omega);rwa [q6] at this
  have o1 : W.cell? ⟨gm + 1,1,none⟩ = some (.int .i64 n):=by have:=zD ro (j:=1) (by omega);rwa [qO] at this
  have o2 : W.cell? ⟨gm + 1,2,none⟩ = some (.string key):=by have:=zD ro (j:=2) (by omega);rwa [qS] at this
  have o3 : W.cell? ⟨gm + 1,3,none⟩ = some (.string val):=by have:=zD ro (j:=3) (by omega);rwa [qR] at this
  have o4 : zF W (gm + 1) 4 32 = some (idC ref):=by have:=y7 ro (j:=4) (m:=32) (by omega);rwa [j5] at this
  have o5 : W.cell? ⟨gm + 1,36,none⟩ = some (.slice A refs.length c):=by have:=zD ro (j:=36) (by omega);rwa [q9] at this
  have hgW : g < W.heap.size:=hW1.lt;have hgm1 : gm < W.heap.size:=zL rm;have hgo1 : gm + 1 < W.heap.size:=zL ro;have hbK : zC [] w W:=zC.of_below hbW;have HbK:=Lib.hid hbK;clear rm ro hbW hbK;unfold RV.len at hl;obtain ⟨l1,l2,l3,l4,l5,l6,l7⟩:=hlens;have hX:=hW1.below (w':=W.drew) ((Below.refl _ _).drew);obtain ⟨AX,nX,cX⟩:=sl;obtain ⟨xr,hxr⟩ : ∃ xr : Row,xr = ⟨key,val,n,m.id⟩:=⟨_,rfl⟩
  have hbld : ∀ w0 : World,(bdS 207 #[(0,.string key),(1,.string val),(2,.int .i64 n),(3,.agg (idC m.id))]).run Tryz.prog w0 = .ok (.agg (yH xr)) w0:=fun w0=>(by rw [hxr];exact B2 key val n m.id w0);have hxl : (⟨4,n,key,val,ref,refs⟩ : OpV).key = key:=rfl;have HX:=Lib.hid hW1;have Hxr:=Lib.hid hxr;have hcs : (rvC t si x.tal sa sg ⟨AX,nX,cX⟩ sm so ss sd)[5]? = some (.slice AX nX cX):=rfl;have hgx : W.heap[g]? = some (.cells (rvC t si x.tal sa sg ⟨AX,nX,cX⟩ sm so ss sd) 69 (0,0)):=hW1.hp;have h1 : SlR W AX nX 35 (x.last.map yH):=hW1.last.1.rd;have f1 : AX = none → cX = 0:=hW1.last.1.nil;have hc0 : W.cell? ⟨g,5,none⟩ = some (.slice AX nX cX):=hW1.cell 5 rfl;have hln : nX ≤ 100000:=by have e : x.last.length = nX:=l3;omega
  obtain ⟨cs,hcse⟩ : ∃ cs,rvC t si x.tal sa sg ⟨AX,nX,cX⟩ sm so ss sd = cs:=⟨_,rfl⟩
  have Hcse:=Lib.hid hcse;rw [hcse] at hcs hgx;obtain ⟨X,hXe⟩ : ∃ X,x.last = X:=⟨_,rfl⟩
  rw [hXe] at h1;have HXe:=Lib.hid hXe;have HgW:=Lib.hid hgW;clear hW1 hX hcse hXe hxr hxl l1 l2 l3 l4 l5 l6 l7 hl;go_upto_region 9 with fail
  have q0:=yP m0 (S:=[]) (by simp);have p1:=zZ o1 (S:=[]) (by simp);have p2:=zZ o2 (S:=[]) (by simp);have p3:=zZ o3 (S:=[]) (by simp);have p5:=zZ hc0 (S:=[]) (by simp);refine bT (.loose 0 (.loose 2 (.loose 3 (.loose 4 (.loose 5 (.loose 7 (.loose 8 (.loose 9 (.loose 10 (.loose 11 (.loose 12 (.loose 13 (.loose 14 (.loose 15 (.two 1 (.two 6 (.one 16 (.one 17 (.loose 18 (.loose 19 (.one 20 .done))))) 16 (.one 6 (.one 17 (.loose 18 (.loose 19 (.one 20 .done)))))) 16 (.one 1 (.one 6 (.one 17 (.loose 18 (.loose 19 (.one 20 .done))))))))))))))))))))) (Kp [] W) false (by kernel_rfl) (by kernel_rfl) (by kernel_rfl) (by kernel_rfl) (by kernel_rfl) (yB [] W) ?_;have hne:=xD [] W;have hS:=yB [] W;repeat (refine q3 rfl ?_ ?_;(focus (simp only [zA];done));intro K hK;go_simp;refine hK _ ?_;clear hK K)
  refine fP ?_ ?_
  ·
    refine qD ?_ rfl ?_ ?_;(focus (exact hS));(focus (simp only [zA];done));intro K hK;go_simp;refine zY (qE hS _) (fun hSn=>?_);refine hK _ _ ?_;clear hK K;replace hS:=hSn;clear hSn;refine fP ?_ ?_
    · have hs1 : SlR (W.drew.alloc (.cells #[] 207)) AX nX 35 (X.map yH):=h1.kept hS (by simp);refine fE qK rfl rfl (Own.empty W.drew W.heap.size 207 35 (Nat.le_refl _)) rfl hs1 f1 (cR X) (by omega) (by omega) (by simp) ?_;intro A2 cap2 w2 hown2 hk2 hsub2;simp only [Nat.zero_add,List.nil_append] at hown2 ⊢;refine zY (zC.trans hS hk2 (by simp [blk])) (fun hSn=>?_);replace hS:=hSn;clear hSn;refine qD ?_ rfl ?_ ?_;(focus (exact hS));(focus (simp only [zA];done));intro K hK;go_simp;refine zY (qE hS _) (fun hSn=>?_);refine hK _ _ ?_;clear hK K;replace hS:=hSn;clear hSn;have hba : Below w2.heap.size w2 (w2.alloc (.cells (yH xr) 207)):=(Below.refl _ _).alloc (Nat.le_refl _) _;have hown3:=hown2.below hba;have hrow3 : zF (w2.alloc (.cells (yH xr) 207)) w2.heap.size 0 35 = some (yH xr):=by simp [go_sem]
      have hsz:=hS.size;refine vW qK rfl rfl hown3 rfl hrow3 (j9 _) (by omega) (by omega) hsz ?_;intro A3 cap3 w3 hown4 hk3 hsub3;refine zY (zC.trans hS hk3 (fun x hx=>.inr ((hown2.at_base hx).1))) (fun hSn=>?_);replace hS:=hSn;clear hSn;repeat (refine q3 rfl ?_ ?_;(focus (simp only [zA];done));intro K hK;go_simp;refine hK _ ?_;clear hK K)
      have hg3 : w3.heap[g]? = some (.cells cs 69 (0,0)):=(hS.block g hgW (by simp)).trans hgx;have hc3 : w3.cell? ⟨g,5,none⟩ = some (.slice AX nX cX):=by rw [cell_of_row w3 g 5 _ _ _ hg3];exact hcs
      have hf3 : w3.frozen? ⟨g,5,none⟩ = false:=by simp [World.frozen?,hg3]
      refine kQ rfl ?_ (by kernel_rfl) ?_;(focus (simp only [zA];done));intro K hK;go_simp;refine hK _ _ ?_;clear hK K;have hown5:=hown4.kept (zC.setCell w3 ⟨g,5,none⟩ (.slice A3 (nX + 1) cap3)) (fun x hx=>by have:=(hown4.at_base hx).1;simp;omega);have hfin : (w3.setCell ⟨g,5,none⟩ (.slice A3 (nX + 1) cap3)).heap[g]? = some (.cells (cs.setIfInBounds 5 (.slice A3 (nX + 1) cap3)) 69 (0,0)):=zM hg3 5 _;have hrowsF : (X.map yH) ++ [yH xr] = (X ++ [xr]).map yH:=by simp
      have hown6 : Own (w3.setCell ⟨g,5,none⟩ (.slice A3 (nX + 1) cap3)) W.heap.size 207 35 A3 (nX + 1) cap3 ((X ++ [xr]).map yH):=by rw [← hrowsF];exact hown5
      have hkfin : zC [g] W (w3.setCell ⟨g,5,none⟩ (.slice A3 (nX + 1) cap3)):=zC.trans (hS.mono (S':=[g]) (by simp)) (zC.setCell w3 ⟨g,5,none⟩ _) (by simp);clear hown5 hown4 hown2 hown3 hS hg3 hc3 hf3 hk3 hk2 hsub3 hsub2 hrowsF;have hkS:=hkfin;have hp3:=hfin;rw [← Hcse.out] at hp3;rw [← HXe.out,Hxr.out] at hown6;have hfin4 : qJ (w3.setCell ⟨g,5,none⟩ (.slice A3 (nX + 1) cap3)) g t I (gC m ⟨4,n,key,val,ref,refs⟩ x):=HX.out.set (sl':=⟨A3,nX + 1,cap3⟩) hkS hp3 (fun h=>h.keep hkS) (fun h=>h.keep hkS) (fun h=>h.keep hkS) (fun _=>⟨hown6.slw,fun hx=>by have:=(hown6.at_base hx).1;have:=HgW.out;omega⟩) (fun h=>h.keep hkS) (fun h=>h.keep hkS) (fun h=>h.keep hkS) (fun h=>h.keep hkS);have hkf:=fB HbK.out hkfin;clear hown6 hp3 hfin hkS hkfin q0 p1 p2 p3 p5;(go_wp2_with fail);go_end0;exact ⟨rfl,hfin4,hkf⟩
    ·
      refine qD ?_ rfl ?_ ?_;(focus (exact hS));(focus (simp only [zA];done));intro K hK;go_simp;refine zY (qE hS _) (fun hSn=>?_);refine hK _ _ ?_;clear hK K;replace hS:=hSn;clear hSn;have hs1 : SlR ((W.drew.alloc (.cells #[] 207)).alloc (.cells (yH xr) 207)) AX nX 35 (X.map yH):=h1.kept hS (by simp);have hown0:=(Own.empty W.drew W.heap.size 207 35 (Nat.le_refl _)).below ((Below.refl _ _).alloc (Nat.le_refl _) (.cells (yH xr) 207));refine fE qK rfl rfl hown0 rfl hs1 f1 (cR X) (by omega) (by omega) (by simp;omega) ?_;intro A2 cap2 w2 hown2 hk2 hsub2;simp only [Nat.zero_add,List.nil_append] at hown2 ⊢;refine zY (zC.trans hS hk2 (by simp [blk])) (fun hSn=>?_);replace hS:=hSn;clear hSn;have hown3:=hown2;have hrow3 : zF w2 (W.heap.size + 1) 0 35 = some (yH xr):=(hk2.row (by simp) (by simp [blk]) 0 35).trans (by simp [go_sem]);have hsz:=hS.size;refine vW qK rfl rfl hown3 rfl hrow3 (j9 _) (by omega) (by omega) hsz ?_;intro A3 cap3 w3 hown4 hk3 hsub3;refine zY (zC.trans hS hk3 (fun x hx=>.inr ((hown2.at_base hx).1))) (fun hSn=>?_);replace hS:=hSn;clear hSn;repeat (refine q3 rfl ?_ ?_;(focus (simp only [zA];done));intro K hK;go_simp;refine hK _ ?_;clear hK K)
      have hg3 : w3.heap[g]? = some (.cells cs 69 (0,0)):=(hS.block g hgW (by simp)).trans hgx;have hc3 : w3.cell? ⟨g,5,none⟩ = some (.slice AX nX cX):=by rw [cell_of_row w3 g 5 _ _ _ hg3];exact hcs
      have hf3 : w3.frozen? ⟨g,5,none⟩ = false:=by simp [World.frozen?,hg3]
      refine kQ rfl ?_ (by kernel_rfl) ?_;(focus (simp only [zA];done));intro K hK;go_simp;refine hK _ _ ?_;clear hK K;have hown5:=hown4.kept (zC.setCell w3 ⟨g,5,none⟩ (.slice A3 (nX + 1) cap3)) (fun x hx=>by have:=(hown4.at_base hx).1;simp;omega);have hfin : (w3.setCell ⟨g,5,none⟩ (.slice A3 (nX + 1) cap3)).heap[g]? = some (.cells (cs.setIfInBounds 5 (.slice A3 (nX + 1) cap3)) 69 (0,0)):=zM hg3 5 _;have hrowsF : (X.map yH) ++ [yH xr] = (X ++ [xr]).map yH:=by simp
      have hown6 : Own (w3.setCell ⟨g,5,none⟩ (.slice A3 (nX + 1) cap3)) W.heap.size 207 35 A3 (nX + 1) cap3 ((X ++ [xr]).map yH):=by rw [← hrowsF];exact hown5
      have hkfin : zC [g] W (w3.setCell ⟨g,5,none⟩ (.slice A3 (nX + 1) cap3)):=zC.trans (hS.mono (S':=[g]) (by simp)) (zC.setCell w3 ⟨g,5,none⟩ _) (by simp);clear hown5 hown4 hown2 hown3 hS hg3 hc3 hf3 hk3 hk2 hsub3 hsub2 hrowsF;have hkS:=hkfin;have hp3:=hfin;rw [← Hcse.out] at hp3;rw [← HXe.out,Hxr.out] at hown6;have hfin4 : qJ (w3.setCell ⟨g,5,none⟩ (.slice A3 (nX + 1) cap3)) g t I (gC m ⟨4,n,key,val,ref,refs⟩ x):=HX.out.set (sl':=⟨A3,nX + 1,cap3⟩) hkS hp3 (fun h=>h.keep hkS) (fun h=>h.keep hkS) (fun h=>h.keep hkS) (fun _=>⟨hown6.slw,fun hx=>by have:=(hown6.at_base hx).1;have:=HgW.out;omega⟩) (fun h=>h.keep hkS) (fun h=>h.keep hkS) (fun h=>h.keep hkS) (fun h=>h.keep hkS);have hkf:=fB HbK.out hkfin;clear hown6 hp3 hfin hkS hkfin q0 p1 p2 p3 p5;(go_wp2_with fail);go_end0;exact ⟨rfl,hfin4,hkf⟩
  ·
    refine qD ?_ rfl ?_ ?_;(focus (exact hS));(focus (simp only [zA];done));intro K hK;go_simp;refine zY (qE hS _) (fun hSn=>?_);refine hK _ _ ?_;clear hK K;replace hS:=hSn;clear hSn;refine qD ?_ rfl ?_ ?_;(focus (exact hS));(focus (simp only [zA];done));intro K hK;go_simp;refine zY (qE hS _) (fun hSn=>?_);refine hK _ _ ?_;clear hK K;replace hS:=hSn;clear hSn;have hs1 : SlR ((W.drew.alloc (.cells (yH xr) 207)).alloc (.cells #[] 207)) AX nX 35 (X.map yH):=h1.kept hS (by simp);have hown0 : Own ((W.drew.alloc (.cells (yH xr) 207)).alloc (.cells #[] 207)) W.heap.size 207 35 (some ⟨W.heap.size + 1,0,none⟩) 0 0 []:=by
      have:=Own.empty (W.drew.alloc (.cells (yH xr) 207)) W.heap.size 207 35 (by simp);simpa using this
    refine fE qK rfl rfl hown0 rfl hs1 f1 (cR X) (by omega) (by omega) (by simp;omega) ?_;intro A2 cap2 w2 hown2 hk2 hsub2;simp only [Nat.zero_add,List.nil_append] at hown2 ⊢;refine zY (zC.trans hS hk2 (by simp [blk])) (fun hSn=>?_);replace hS:=hSn;clear hSn;have hown3:=hown2;have hrow3 : zF w2 W.heap.size 0 35 = some (yH xr):=(hk2.row (by simp;omega) (by simp [blk]) 0 35).trans (by simp [go_sem]);have hsz:=hS.size;refine vW qK rfl rfl hown3 rfl hrow3 (j9 _) (by omega) (by omega) hsz ?_;intro A3 cap3 w3 hown4 hk3 hsub3;refine zY (zC.trans hS hk3 (fun x hx=>.inr ((hown2.at_base hx).1))) (fun hSn=>?_);replace hS:=hSn;clear hSn;repeat (refine q3 rfl ?_ ?_;(focus (simp only [zA];done));intro K hK;go_simp;refine hK _ ?_;clear hK K)
    have hg3 : w3.heap[g]? = some (.cells cs 69 (0,0)):=(hS.block g hgW (by simp)).trans hgx;have hc3 : w3.cell? ⟨g,5,none⟩ = some (.slice AX nX cX):=by rw [cell_of_row w3 g 5 _ _ _ hg3];exact hcs
    have hf3 : w3.frozen? ⟨g,5,none⟩ = false:=by simp [World.frozen?,hg3]
    refine kQ rfl ?_ (by kernel_rfl) ?_;(focus (simp only [zA];done));intro K hK;go_simp;refine hK _ _ ?_;clear hK K;have hown5:=hown4.kept (zC.setCell w3 ⟨g,5,none⟩ (.slice A3 (nX + 1) cap3)) (fun x hx=>by have:=(hown4.at_base hx).1;simp;omega);have hfin : (w3.setCell ⟨g,5,none⟩ (.slice A3 (nX + 1) cap3)).heap[g]? = some (.cells (cs.setIfInBounds 5 (.slice A3 (nX + 1) cap3)) 69 (0,0)):=zM hg3 5 _;have hrowsF : (X.map yH) ++ [yH xr] = (X ++ [xr]).map yH:=by simp
    have hown6 : Own (w3.setCell ⟨g,5,none⟩ (.slice A3 (nX + 1) cap3)) W.heap.size 207 35 A3 (nX + 1) cap3 ((X ++ [xr]).map yH):=by rw [← hrowsF];exact hown5
    have hkfin : zC [g] W (w3.setCell ⟨g,5,none⟩ (.slice A3 (nX + 1) cap3)):=zC.trans (hS.mono (S':=[g]) (by simp)) (zC.setCell w3 ⟨g,5,none⟩ _) (by simp);clear hown5 hown4 hown2 hown3 hS hg3 hc3 hf3 hk3 hk2 hsub3 hsub2 hrowsF;have hkS:=hkfin;have hp3:=hfin;rw [← Hcse.out] at hp3;rw [← HXe.out,Hxr.out] at hown6;have hfin4 : qJ (w3.setCell ⟨g,5,none⟩ (.slice A3 (nX + 1) cap3)) g t I (gC m ⟨4,n,key,val,ref,refs⟩ x):=HX.out.set (sl':=⟨A3,nX + 1,cap3⟩) hkS hp3 (fun h=>h.keep hkS) (fun h=>h.keep hkS) (fun h=>h.keep hkS) (fun _=>⟨hown6.slw,fun hx=>by have:=(hown6.at_base hx).1;have:=HgW.out;omega⟩) (fun h=>h.keep hkS) (fun h=>h.keep hkS) (fun h=>h.keep hkS) (fun h=>h.keep hkS);have hkf:=fB HbK.out hkfin;clear hown6 hp3 hfin hkS hkfin q0 p1 p2 p3 p5;(go_wp2_with fail);go_end0;exact ⟨rfl,hfin4,hkf⟩
end
section
open Go.RowKit
def xM (k : Nat) : ByteArray:=if k = 1 then ⟨#[78]⟩ else if k = 2 then ⟨#[86]⟩ else if k = 3 then ⟨#[86,83]⟩ else if k = 4 then ⟨#[75,86,78]⟩ else if k = 5 then ⟨#[75,86,83]⟩ else if k = 6 then ⟨#[82,86]⟩ else if k = 7 then ⟨#[82]⟩ else ⟨#[]⟩
theorem bG (k : Nat) (w : World) (hk : k ≤ 9223372036854775807) : Calls Tryz.prog 66 #[.int .i64 k] w fun e w'=>e = .returned (.string (xM k)) ∧ w = w':=by
  by_cases h : k ≤ 7
  · have h8 : k = 0 ∨ k = 1 ∨ k = 2 ∨ k = 3 ∨ k = 4 ∨ k = 5 ∨ k = 6 ∨ k = 7:=by omega
    rcases h8 with rfl | rfl | rfl | rfl | rfl | rfl | rfl | rfl
    all_goals
      go_enter Tryz.func66,Tryz.ntmps66
      (go_wp2_with fail);go_ret;exact ⟨rfl,rfl⟩
  · have hs : xM k = ⟨#[]⟩:=by unfold xM;rw [if_neg (by omega),if_neg (by omega),if_neg (by omega),if_neg (by omega),if_neg (by omega),if_neg (by omega),if_neg (by omega)]
    have Hs:=Lib.hid hs;have h1 : ((k : Int) == 1) = false:=by simp;omega
    have h2 : ((k : Int) == 2) = false:=by simp;omega
    have h3 : ((k : Int) == 3) = false:=by simp;omega
    have h4 : ((k : Int) == 4) = false:=by simp;omega
    have h5 : ((k : Int) == 5) = false:=by simp;omega
    have h6 : ((k : Int) == 6) = false:=by simp;omega
    have h7 : ((k : Int) == 7) = false:=by simp;omega
    clear hs h;go_enter Tryz.func66,Tryz.ntmps66
    (go_wp2_with fail);go_ret;exact ⟨by rw [Hs.out];rfl,rfl⟩
theorem i7 (k : Nat) (w : World) (hk : k ≤ 9223372036854775807) : Calls Tryz.prog 28 #[.int .i64 k] w fun e w'=>e = .returned (.int .i64 (vK k)) ∧ w = w':=by
  have hb : vK k = if k = 1 then 1 else if k = 2 ∨ k = 3 then 2 else if k = 4 then 3 else if k = 5 then 4 else if k = 6 ∨ k = 7 then 5 else 0:=rfl;have Hb:=Lib.hid hb;clear hb;go_enter Tryz.func28,Tryz.ntmps28
  go_wp2_with fail
  all_goals
    go_ret;exact ⟨yE (by rw [Hb.out];simp at *;omega),rfl⟩
end
section
open Go.RowKit
structure OfS where
  n : Int
  key : ByteArray
  val : ByteArray
  ref : zK
  refs : List zK
  l : List UInt8
  e : Int
def ofS0 (l : List UInt8) (e : Int) : OfS:=⟨0,⟨#[]⟩,⟨#[]⟩,id0,[],l,e⟩
def wR (N : Nat) (s : pJ) : pJ:=vG N s
def fZ (k : Nat) (s : OfS) (c : UInt8) : OfS :=
  if c = 78 then ⟨if k = 1 then (xQ 4 s.l s.e : Int) - 2147483648 else (xQ 4 s.l s.e : Int),s.key,s.val,s.ref,s.refs,yW 4 s.l s.e,xG 4 s.l s.e⟩
  else if c = 75 then ⟨s.n,txV s.l s.e,s.val,s.ref,s.refs,txL s.l s.e,txE s.l s.e⟩
  else if c = 86 then ⟨s.n,s.key,txV s.l s.e,s.ref,s.refs,txL s.l s.e,txE s.l s.e⟩
  else if c = 82 then ⟨s.n,s.key,s.val,kI (jA 32 s.l s.e),s.refs,yW 32 s.l s.e,xG 32 s.l s.e⟩
  else ⟨s.n,s.key,s.val,s.ref,(wR (xQ 1 s.l s.e) ⟨s.refs,yW 1 s.l s.e,xG 1 s.l s.e⟩).ids,(wR (xQ 1 s.l s.e) ⟨s.refs,yW 1 s.l s.e,xG 1 s.l s.e⟩).l,(wR (xQ 1 s.l s.e) ⟨s.refs,yW 1 s.l s.e,xG 1 s.l s.e⟩).e⟩
section
variable (k : Nat) (n : Int) (key val : ByteArray) (ref : zK) (refs : List zK) (l : List UInt8) (e : Int)
theorem of_78 : fZ k ⟨n,key,val,ref,refs,l,e⟩ 78 = ⟨if k = 1 then (xQ 4 l e : Int) - 2147483648 else (xQ 4 l e : Int),key,val,ref,refs,yW 4 l e,xG 4 l e⟩:=rfl
theorem of_75 : fZ k ⟨n,key,val,ref,refs,l,e⟩ 75 = ⟨n,txV l e,val,ref,refs,txL l e,txE l e⟩:=rfl
theorem of_86 : fZ k ⟨n,key,val,ref,refs,l,e⟩ 86 = ⟨n,key,txV l e,ref,refs,txL l e,txE l e⟩:=rfl
theorem of_82 : fZ k ⟨n,key,val,ref,refs,l,e⟩ 82 = ⟨n,key,val,kI (jA 32 l e),refs,yW 32 l e,xG 32 l e⟩:=rfl
theorem of_83 : fZ k ⟨n,key,val,ref,refs,l,e⟩ 83 = ⟨n,key,val,ref,(wR (xQ 1 l e) ⟨refs,yW 1 l e,xG 1 l e⟩).ids,(wR (xQ 1 l e) ⟨refs,yW 1 l e,xG 1 l e⟩).l,(wR (xQ 1 l e) ⟨refs,yW 1 l e,xG 1 l e⟩).e⟩:=rfl
end
def OfS.op (k : Nat) (s : OfS) : OpR:=⟨⟨k,s.n,s.key,s.val,s.ref,s.refs⟩,s.l,s.e⟩
theorem of_run (k : Nat) (l : List UInt8) (e : Int) (h1 : 1 ≤ k) (h7 : k ≤ 7) : ((xM k).data.toList.foldl (fZ k) (ofS0 l e)).op k = yX k l e:=by
  have h : k = 1 ∨ k = 2 ∨ k = 3 ∨ k = 4 ∨ k = 5 ∨ k = 6 ∨ k = 7:=by omega
  rcases h with rfl | rfl | rfl | rfl | rfl | rfl | rfl <;> rfl
theorem KP (k : Nat) : (xM k).size ≤ 3:=by
  unfold xM
  repeat' split
  all_goals decide
theorem QH (k : Nat) : ∀ c ∈ (xM k).data.toList,c = 78 ∨ c = 75 ∨ c = 86 ∨ c = 82 ∨ c = 83:=by
  unfold xM
  repeat' split
  all_goals decide
theorem sB (k : Nat) : (xM k).toList.isEmpty = decide (k = 0 ∨ 7 < k):=by
  rw [ByteArray.toList_eq];by_cases h : k ≤ 7
  · have h8 : k = 0 ∨ k = 1 ∨ k = 2 ∨ k = 3 ∨ k = 4 ∨ k = 5 ∨ k = 6 ∨ k = 7:=by omega
    rcases h8 with rfl | rfl | rfl | rfl | rfl | rfl | rfl | rfl <;> rfl
  · have hs : xM k = ⟨#[]⟩:=by unfold xM;rw [if_neg (by omega),if_neg (by omega),if_neg (by omega),if_neg (by omega),if_neg (by omega),if_neg (by omega),if_neg (by omega)]
    rw [hs,decide_eq_true (by omega)];rfl
theorem Z9 (k : Nat) (l : List UInt8) (e : Int) (h1 : 1 ≤ k) (h7 : k ≤ 7) : (yX k l e).o.key.size ≤ 9223372036854775807 ∧ (yX k l e).o.val.size ≤ 9223372036854775807:=by
  have hz : (⟨#[]⟩ : ByteArray).size = 0:=rfl;have ht:=fun l e=>JS l e;have h : k = 1 ∨ k = 2 ∨ k = 3 ∨ k = 4 ∨ k = 5 ∨ k = 6 ∨ k = 7:=by omega
  rcases h with rfl | rfl | rfl | rfl | rfl | rfl | rfl
  · exact ⟨by show (⟨#[]⟩ : ByteArray).size ≤ _;omega,by show (⟨#[]⟩ : ByteArray).size ≤ _;omega⟩
  · exact ⟨by show (⟨#[]⟩ : ByteArray).size ≤ _;omega,Nat.le_trans (ht _ _) (by omega)⟩
  · exact ⟨by show (⟨#[]⟩ : ByteArray).size ≤ _;omega,Nat.le_trans (ht _ _) (by omega)⟩
  · exact ⟨Nat.le_trans (ht _ _) (by omega),Nat.le_trans (ht _ _) (by omega)⟩
  · exact ⟨Nat.le_trans (ht _ _) (by omega),Nat.le_trans (ht _ _) (by omega)⟩
  · exact ⟨by show (⟨#[]⟩ : ByteArray).size ≤ _;omega,Nat.le_trans (ht _ _) (by omega)⟩
  · exact ⟨by show (⟨#[]⟩ : ByteArray).size ≤ _;omega,by show (⟨#[]⟩ : ByteArray).size ≤ _;omega⟩
end
section
open Go.RowKit
def inB (s : ByteArray) (c : Int) : Bool:=s.data.toList.any fun b=>((b.toNat : Int) == c)
theorem q8 (s : ByteArray) (c : Int) (w : World) (hs : s.size ≤ 9223372036854775807) : Calls Tryz.prog 144 #[.string s,.int .u8 c] w fun e w'=>e = .returned (.bool (inB s c)) ∧ w = w':=by
  have hlen : s.data.toList.length = s.size:=Array.length_toList;have hin : inB s c = (s.data.toList.drop 0).any fun b=>((b.toNat : Int) == c):=rfl;have Hin:=Lib.hid hin;clear hin;go_enter Tryz.func144,Tryz.ntmps144
  (go_wp2_with fail);go_loopw [5] (fun i wr=>∃ k : Nat,k ≤ s.size ∧ i = .int .i64 k ∧ wr = w ∧ Hid (inB s c = (s.data.toList.drop k).any fun b=>((b.toNat : Int) == c))) (fun i _=>s.size - (intOf i).toNat)
  case atStart=>exact ⟨0,Nat.zero_le _,rfl,rfl,Hin⟩
  case round =>
    obtain ⟨k,hk,rfl,rfl,hd⟩:=hrel;by_cases hlt : k < s.size
    · have hg : s.data.toList.drop k = s[k]'hlt :: s.data.toList.drop (k + 1):=by
        rw [List.drop_eq_getElem_cons (show k < s.data.toList.length by rw [hlen];exact hlt)];rfl
      have hd2:=hd.out;rw [hg,List.any_cons] at hd2;obtain ⟨b,hb⟩ : ∃ b,s[k]'hlt = b:=⟨_,rfl⟩
      rw [hb] at hd2;cases hc : ((b.toNat : Int) == c) with
      | true =>
        rw [hc,Bool.true_or] at hd2;have Hd:=Lib.hid hd2;clear hd hd2 hg;(go_wp2_with fail);go_ret;exact ⟨yG (by rw [Hd.out]),rfl⟩
      | false =>
        rw [hc,Bool.false_or] at hd2;have Hd:=Lib.hid hd2;clear hd hd2 hg;(go_wp2_with fail);go_roundw
        case rel=>exact ⟨k + 1,by omega,by go_num,trivial,Hd⟩
        case measure=>simp [intOf];omega
    · have hd2:=hd.out;rw [List.drop_eq_nil_of_le (by rw [hlen];omega)] at hd2;have Hd:=Lib.hid hd2;clear hd hd2;(go_wp2_with fail);go_ret;exact ⟨yG (by rw [Hd.out];rfl),rfl⟩
end
section
open Go.RowKit
set_option maxHeartbeats 1000000 in
theorem rI (w : World) (A B : Option Addr) (n m cap cap' : Nat) (X Y : List zK) (hx : y4 w A n X) (hy : y4 w B m Y) (hn : n ≤ 1000000) (hm : m ≤ 1000000) :
    Calls Tryz.prog 32 #[.slice A n cap,.slice B m cap'] w fun e w'=>e = .returned (.bool (decide (X = Y))) ∧ Below w.heap.size w w':=by
  have hlx:=hx.len;have hly:=hy.len;have Hlx:=Lib.hid hlx;have Hly:=Lib.hid hly;by_cases hnm : n = m
  · subst hnm;clear hlx hly;go_enter Tryz.func32,Tryz.ntmps32
    (go_wp2_with fail);go_loopw [5] (fun i wr=>∃ k : Nat,k ≤ n ∧ i = .int .i64 k ∧ Hid (X.take k = Y.take k) ∧ Below w.heap.size w wr) (fun i _=>n - (intOf i).toNat)
    case atStart=>exact ⟨0,Nat.zero_le _,rfl,rfl,Below.refl _ _⟩
    case round =>
      obtain ⟨k,hk,rfl,heq,hb⟩:=hrel;by_cases hlt : k < n
      · obtain ⟨q,o,rfl,hr⟩:=y4.get (SlR.below hx hb) hlt (by rw [Hlx.out];exact hlt);obtain ⟨q2,o2,rfl,hr2⟩:=y4.get (SlR.below hy hb) hlt (by rw [Hly.out];exact hlt);have hX : X.take (k + 1) = X.take k ++ [X[k]'(by rw [Hlx.out];exact hlt)]:=by rw [List.take_add_one,List.getElem?_eq_getElem (by rw [Hlx.out];exact hlt)];rfl
        have hY : Y.take (k + 1) = Y.take k ++ [Y[k]'(by rw [Hly.out];exact hlt)]:=by rw [List.take_add_one,List.getElem?_eq_getElem (by rw [Hly.out];exact hlt)];rfl
        obtain ⟨x,hx'⟩ : ∃ x,X[k]'(by rw [Hlx.out];exact hlt) = x:=⟨_,rfl⟩
        obtain ⟨y,hy'⟩ : ∃ y,Y[k]'(by rw [Hly.out];exact hlt) = y:=⟨_,rfl⟩
        rw [hx'] at hr hX;rw [hy'] at hr2 hY;have HX:=Lib.hid hX;have HY:=Lib.hid hY;clear hX hY;have HX':=Lib.hid hx';have HY':=Lib.hid hy';clear hx' hy';go_upto_region 6 with fail
        refine zE (Bel wr) false (by kernel_rfl) (by kernel_rfl) (by kernel_rfl) (zG wr) ?_;have hne:=zX wr;have hS:=zG wr;have b1:=yD hr;have b2:=yD hr2;repeat (refine zB ?_ ?_;(focus (simp only [zA];done));intro K hK;go_simp;refine hK _ ?_;clear hK K)
        refine zN ?_;intro hS;clear hne hS b1 b2 hr hr2;have hb' : Below w.heap.size w wr.drew:=hb.drew;cases hpe : (x == y) with
        | true =>
          have e:=beq_iff_eq.1 hpe;have E:=Lib.hid e;clear e;(go_wp2_with fail);go_roundw
          case rel=>exact ⟨k + 1,by omega,by go_num,(show X.take (k + 1) = Y.take (k + 1) by rw [HX.out,HY.out,heq.out,E.out]),hb'⟩
          case measure=>simp [intOf];omega
        | false =>
          have hne : X ≠ Y:=by
            intro e;subst e;have : x = y:=HX'.out.symm.trans HY'.out;rw [beq_iff_eq.2 this] at hpe;cases hpe
          have hd:=Lib.hid (decide_eq_false hne);clear hne;(go_wp2_with fail);go_ret;exact ⟨yG (by rw [hd.out]),hb'⟩
      · have hkn : k = n:=by omega
        have e : X = Y:=by
          have:=heq.out
          rwa [List.take_of_length_le (by rw [Hlx.out];omega),List.take_of_length_le (by rw [Hly.out];omega)] at this
        have E:=Lib.hid (decide_eq_true e);clear e hkn;(go_wp2_with fail);go_ret;exact ⟨yG (by rw [E.out]),hb⟩
  · have hne : X ≠ Y:=by intro e;subst e;exact hnm (hlx.symm.trans hly)
    have hd:=Lib.hid (decide_eq_false hne);have hnm2 : (n == m) = false:=by simpa using hnm
    have hnm3 : ((n : Int) == (m : Int)) = false:=by rw [beq_eq_false_iff_ne];omega
    clear hlx hly hne;go_enter Tryz.func32,Tryz.ntmps32
    (go_wp2_with fail);go_ret;exact ⟨yG (by rw [hd.out]),Below.refl _ _⟩
end
section
open Go.RowKit
theorem VH (R : List zK) : decide (R = yA zO R) = fA R:=by
  rw [Bool.eq_iff_iff,decide_eq_true_eq,YL];exact ⟨fun h=>by rw [h];exact xB xP R,fun h=>(uK xP h).symm⟩
theorem ZM (w : World) (A : Option Addr) (n cap : Nat) (R : List zK) (h : y4 w A n R) (hn : n ≤ 1000000) :
    Calls Tryz.prog 97 #[.slice A n cap] w fun e w'=>e = .returned (.bool (fA R)) ∧ Below w.heap.size w w':=by
  have hlen:=h.len;have hsl:=yS (c:=zO) R;rw [hlen] at hsl;have c1:=rset w A n cap R h hn;have c2:=fun w1 (hb : Below w.heap.size w w1) A' cap' (hs : pI w1 A' (yA zO R).length cap' (yA zO R))=>rI w1 A A' n (yA zO R).length cap cap' R (yA zO R) (SlR.below h hb) hs.rd hn (by omega);have Hs:=Lib.hid (VH R);clear hlen hsl;go_enter Tryz.func97,Tryz.ntmps97
  (go_wp2_with fail);refine c1.mono ?_;rintro e w1 ⟨A',cap',rfl,hs,_,hb1⟩;(go_wp2_with fail);refine (c2 w1 hb1 A' cap' hs).mono ?_;rintro e w2 ⟨rfl,hb2⟩;(go_wp2_with fail);go_ret;exact ⟨yG (by rw [Hs.out]),yN hb1 hb2⟩
theorem vR : (⟨#[]⟩ : ByteArray).size = 0:=rfl
set_option maxRecDepth 100000 in
set_option maxHeartbeats 4000000 in
theorem rJ (o : OpV) (A : Option Addr) (c : Nat) (w : World) (h : fX o) (hT : y4 w A o.refs.length o.refs) (hl : o.refs.length ≤ 1000000) (hks : o.key.size ≤ 9223372036854775807) (hvs : o.val.size ≤ 9223372036854775807) :
    Calls Tryz.prog 70 #[.agg (opC o A c)] w fun e w'=>e = .returned (.int .i64 (pA o)) ∧ Below w.heap.size w w':=by
  have hT0 : y4 (w.alloc (.cells (opC o A c) 52)) A o.refs.length o.refs:=SlR.below hT ((Below.refl _ _).alloc (Nat.le_refl _) _);have hck : pA o = if 16 < o.key.size ∨ 16 < o.val.size then 3 else if nF o = false then 5 else if 8 < o.refs.length then 6 else if fA o.refs = false then 4 else 0:=rfl;have hno : nF o = (!(decide (o.k = 4) && decide (o.n < 0)) && (decide (o.n < 2147483648) && decide (-2147483648 ≤ o.n))):=rfl;obtain ⟨rb,hrb⟩ : ∃ rb,fA o.refs = rb:=⟨_,rfl⟩
  rw [hrb] at hck;rw [hno] at hck;obtain ⟨k,n,key,val,ref,refs⟩:=o;unfold opC at hT0 ⊢;unfold fX at h;dsimp only at *;have Hck:=Lib.hid hck;have Hrb:=Lib.hid hrb;clear hck hno hrb hT;rcases h with ⟨rfl,rfl,rfl,rfl,rfl⟩ | ⟨rfl,rfl,rfl,rfl,rfl⟩ | ⟨rfl,rfl,rfl,rfl⟩ | ⟨rfl,rfl,rfl⟩ | ⟨rfl,rfl,rfl⟩ | ⟨rfl,rfl,rfl,rfl⟩ | ⟨rfl,rfl,rfl,rfl,rfl⟩
  · show Calls Tryz.prog 70 #[.agg (zJ ⟨1,n,⟨#[]⟩,⟨#[]⟩,id0,.slice A 0 c⟩)] w _;change y4 (w.alloc (.cells (zJ ⟨1,n,⟨#[]⟩,⟨#[]⟩,id0,.slice A 0 c⟩) 52)) A 0 [] at hT0;have hB : Below w.heap.size w (w.alloc (.cells (zJ ⟨1,n,⟨#[]⟩,⟨#[]⟩,id0,.slice A 0 c⟩) 52)):=(Below.refl _ _).alloc (Nat.le_refl _) _;have hr : zF (w.alloc (.cells (zJ ⟨1,n,⟨#[]⟩,⟨#[]⟩,id0,.slice A 0 c⟩) 52)) w.heap.size 0 37 = some (zJ ⟨1,n,⟨#[]⟩,⟨#[]⟩,id0,.slice A 0 c⟩):=by simp [go_sem]
    have x0:=zD hr (j:=0) (by omega);have x1:=zD hr (j:=1) (by omega);have x2:=zD hr (j:=2) (by omega);have x3:=zD hr (j:=3) (by omega);have x5:=zD hr (j:=36) (by omega);have x4:=y7 hr (j:=4) (m:=32) (by omega);simp only [q6,qO,qS,qR,q9,j5,Nat.zero_add] at x0 x1 x2 x3 x4 x5;have c1:=bG 1 (w.alloc (.cells (zJ ⟨1,n,⟨#[]⟩,⟨#[]⟩,id0,.slice A 0 c⟩) 52)) (by omega);have i1:=q8 (xM 1) 78 (w.alloc (.cells (zJ ⟨1,n,⟨#[]⟩,⟨#[]⟩,id0,.slice A 0 c⟩) 52)) (by decide);have i2:=q8 (xM 1) 75 (w.alloc (.cells (zJ ⟨1,n,⟨#[]⟩,⟨#[]⟩,id0,.slice A 0 c⟩) 52)) (by decide);have i3:=q8 (xM 1) 86 (w.alloc (.cells (zJ ⟨1,n,⟨#[]⟩,⟨#[]⟩,id0,.slice A 0 c⟩) 52)) (by decide);have i4:=q8 (xM 1) 82 (w.alloc (.cells (zJ ⟨1,n,⟨#[]⟩,⟨#[]⟩,id0,.slice A 0 c⟩) 52)) (by decide);have i5:=q8 (xM 1) 83 (w.alloc (.cells (zJ ⟨1,n,⟨#[]⟩,⟨#[]⟩,id0,.slice A 0 c⟩) 52)) (by decide);rw [show inB (xM 1) 78 = true by decide +kernel] at i1;rw [show inB (xM 1) 75 = false by decide +kernel] at i2;rw [show inB (xM 1) 86 = false by decide +kernel] at i3;rw [show inB (xM 1) 82 = false by decide +kernel] at i4;rw [show inB (xM 1) 83 = false by decide +kernel] at i5;rw [show xM 1 = ⟨#[78]⟩ from rfl] at c1 i1 i2 i3 i4 i5;clear hr;go_enter Tryz.func70,Tryz.ntmps70
    go_upto_region 1 with fail
    obtain ⟨ga,hga⟩ : ∃ ga,w.heap.size = ga:=⟨_,rfl⟩
    have Hga:=Lib.hid hga;rw [hga] at x0 x1 x2 x3 x4 x5 hB ⊢;obtain ⟨W,hW⟩ : ∃ W,W = w.alloc (.cells (zJ ⟨1,n,⟨#[]⟩,⟨#[]⟩,id0,.slice A 0 c⟩) 52):=⟨_,rfl⟩
    rw [← hW] at x0 x1 x2 x3 x4 x5 hB c1 i1 i2 i3 i4 i5 hT0 ⊢;clear hW hga;(go_wp2_with fail);refine c1.mono ?_;rintro e w1 ⟨rfl,rfl⟩;(go_wp2_with fail);refine i1.mono ?_;rintro e w1 ⟨rfl,rfl⟩;(go_wp2_with fail);refine i2.mono ?_;rintro e w1 ⟨rfl,rfl⟩;(go_wp2_with fail);refine i3.mono ?_;rintro e w1 ⟨rfl,rfl⟩;(go_wp2_with fail);refine i4.mono ?_;rintro e w1 ⟨rfl,rfl⟩;(go_wp2_with fail);refine i5.mono ?_;rintro e w1 ⟨rfl,rfl⟩;clear c1 i1 i2 i3 i4 i5;have cis:=ZM W A _ c _ hT0 hl;rw [Hrb.out] at cis;rw [← Hga.out] at hB;go_wp2_with fail
    all_goals
      first
      | (go_ret;exact ⟨yE (by rw [Hck.out];(try simp only [vR,List.length_nil] at *);(repeat' split) <;> (first | rfl | omega | (simp_all;done) | (simp_all;omega))),hB⟩)
      | (refine cis.mono ?_;rintro e w2 ⟨rfl,hb2⟩
         have hBB:=yN hB hb2;clear hT0 cis x0 x1 x2 x3 x4 x5 hb2;cases rb <;> (go_wp2_with fail;go_ret;exact ⟨yE (by rw [Hck.out];(try simp only [vR,List.length_nil] at *);(repeat' split) <;> (first | rfl | omega | (simp_all;done) | (simp_all;omega))),hBB⟩))
  · show Calls Tryz.prog 70 #[.agg (zJ ⟨2,0,⟨#[]⟩,val,id0,.slice A 0 c⟩)] w _;change y4 (w.alloc (.cells (zJ ⟨2,0,⟨#[]⟩,val,id0,.slice A 0 c⟩) 52)) A 0 [] at hT0;have hB : Below w.heap.size w (w.alloc (.cells (zJ ⟨2,0,⟨#[]⟩,val,id0,.slice A 0 c⟩) 52)):=(Below.refl _ _).alloc (Nat.le_refl _) _;have hr : zF (w.alloc (.cells (zJ ⟨2,0,⟨#[]⟩,val,id0,.slice A 0 c⟩) 52)) w.heap.size 0 37 = some (zJ ⟨2,0,⟨#[]⟩,val,id0,.slice A 0 c⟩):=by simp [go_sem]
    have x0:=zD hr (j:=0) (by omega);have x1:=zD hr (j:=1) (by omega);have x2:=zD hr (j:=2) (by omega);have x3:=zD hr (j:=3) (by omega);have x5:=zD hr (j:=36) (by omega);have x4:=y7 hr (j:=4) (m:=32) (by omega);simp only [q6,qO,qS,qR,q9,j5,Nat.zero_add] at x0 x1 x2 x3 x4 x5;have c1:=bG 2 (w.alloc (.cells (zJ ⟨2,0,⟨#[]⟩,val,id0,.slice A 0 c⟩) 52)) (by omega);have i1:=q8 (xM 2) 78 (w.alloc (.cells (zJ ⟨2,0,⟨#[]⟩,val,id0,.slice A 0 c⟩) 52)) (by decide);have i2:=q8 (xM 2) 75 (w.alloc (.cells (zJ ⟨2,0,⟨#[]⟩,val,id0,.slice A 0 c⟩) 52)) (by decide);have i3:=q8 (xM 2) 86 (w.alloc (.cells (zJ ⟨2,0,⟨#[]⟩,val,id0,.slice A 0 c⟩) 52)) (by decide);have i4:=q8 (xM 2) 82 (w.alloc (.cells (zJ ⟨2,0,⟨#[]⟩,val,id0,.slice A 0 c⟩) 52)) (by decide);have i5:=q8 (xM 2) 83 (w.alloc (.cells (zJ ⟨2,0,⟨#[]⟩,val,id0,.slice A 0 c⟩) 52)) (by decide);rw [show inB (xM 2) 78 = false by decide +kernel] at i1;rw [show inB (xM 2) 75 = false by decide +kernel] at i2;rw [show inB (xM 2) 86 = true by decide +kernel] at i3;rw [show inB (xM 2) 82 = false by decide +kernel] at i4;rw [show inB (xM 2) 83 = false by decide +kernel] at i5;rw [show xM 2 = ⟨#[86]⟩ from rfl] at c1 i1 i2 i3 i4 i5;clear hr;go_enter Tryz.func70,Tryz.ntmps70
    go_upto_region 1 with fail
    obtain ⟨ga,hga⟩ : ∃ ga,w.heap.size = ga:=⟨_,rfl⟩
    have Hga:=Lib.hid hga;rw [hga] at x0 x1 x2 x3 x4 x5 hB ⊢;obtain ⟨W,hW⟩ : ∃ W,W = w.alloc (.cells (zJ ⟨2,0,⟨#[]⟩,val,id0,.slice A 0 c⟩) 52):=⟨_,rfl⟩
    rw [← hW] at x0 x1 x2 x3 x4 x5 hB c1 i1 i2 i3 i4 i5 hT0 ⊢;clear hW hga;(go_wp2_with fail);refine c1.mono ?_;rintro e w1 ⟨rfl,rfl⟩;(go_wp2_with fail);refine i1.mono ?_;rintro e w1 ⟨rfl,rfl⟩;(go_wp2_with fail);refine i2.mono ?_;rintro e w1 ⟨rfl,rfl⟩;(go_wp2_with fail);refine i3.mono ?_;rintro e w1 ⟨rfl,rfl⟩;(go_wp2_with fail);refine i4.mono ?_;rintro e w1 ⟨rfl,rfl⟩;(go_wp2_with fail);refine i5.mono ?_;rintro e w1 ⟨rfl,rfl⟩;clear c1 i1 i2 i3 i4 i5;have cis:=ZM W A _ c _ hT0 hl;rw [Hrb.out] at cis;rw [← Hga.out] at hB;go_wp2_with fail
    all_goals
      first
      | (go_ret;exact ⟨yE (by rw [Hck.out];(try simp only [vR,List.length_nil] at *);(repeat' split) <;> (first | rfl | omega | (simp_all;done) | (simp_all;omega))),hB⟩)
      | (refine cis.mono ?_;rintro e w2 ⟨rfl,hb2⟩
         have hBB:=yN hB hb2;clear hT0 cis x0 x1 x2 x3 x4 x5 hb2;cases rb <;> (go_wp2_with fail;go_ret;exact ⟨yE (by rw [Hck.out];(try simp only [vR,List.length_nil] at *);(repeat' split) <;> (first | rfl | omega | (simp_all;done) | (simp_all;omega))),hBB⟩))
  · show Calls Tryz.prog 70 #[.agg (zJ ⟨3,0,⟨#[]⟩,val,id0,.slice A refs.length c⟩)] w _;change y4 (w.alloc (.cells (zJ ⟨3,0,⟨#[]⟩,val,id0,.slice A refs.length c⟩) 52)) A refs.length refs at hT0;have hB : Below w.heap.size w (w.alloc (.cells (zJ ⟨3,0,⟨#[]⟩,val,id0,.slice A refs.length c⟩) 52)):=(Below.refl _ _).alloc (Nat.le_refl _) _;have hr : zF (w.alloc (.cells (zJ ⟨3,0,⟨#[]⟩,val,id0,.slice A refs.length c⟩) 52)) w.heap.size 0 37 = some (zJ ⟨3,0,⟨#[]⟩,val,id0,.slice A refs.length c⟩):=by simp [go_sem]
    have x0:=zD hr (j:=0) (by omega);have x1:=zD hr (j:=1) (by omega);have x2:=zD hr (j:=2) (by omega);have x3:=zD hr (j:=3) (by omega);have x5:=zD hr (j:=36) (by omega);have x4:=y7 hr (j:=4) (m:=32) (by omega);simp only [q6,qO,qS,qR,q9,j5,Nat.zero_add] at x0 x1 x2 x3 x4 x5;have c1:=bG 3 (w.alloc (.cells (zJ ⟨3,0,⟨#[]⟩,val,id0,.slice A refs.length c⟩) 52)) (by omega);have i1:=q8 (xM 3) 78 (w.alloc (.cells (zJ ⟨3,0,⟨#[]⟩,val,id0,.slice A refs.length c⟩) 52)) (by decide);have i2:=q8 (xM 3) 75 (w.alloc (.cells (zJ ⟨3,0,⟨#[]⟩,val,id0,.slice A refs.length c⟩) 52)) (by decide);have i3:=q8 (xM 3) 86 (w.alloc (.cells (zJ ⟨3,0,⟨#[]⟩,val,id0,.slice A refs.length c⟩) 52)) (by decide);have i4:=q8 (xM 3) 82 (w.alloc (.cells (zJ ⟨3,0,⟨#[]⟩,val,id0,.slice A refs.length c⟩) 52)) (by decide);have i5:=q8 (xM 3) 83 (w.alloc (.cells (zJ ⟨3,0,⟨#[]⟩,val,id0,.slice A refs.length c⟩) 52)) (by decide);rw [show inB (xM 3) 78 = false by decide +kernel] at i1;rw [show inB (xM 3) 75 = false by decide +kernel] at i2;rw [show inB (xM 3) 86 = true by decide +kernel] at i3;rw [show inB (xM 3) 82 = false by decide +kernel] at i4;rw [show inB (xM 3) 83 = true by decide +kernel] at i5;rw [show xM 3 = ⟨#[86,83]⟩ from rfl] at c1 i1 i2 i3 i4 i5;clear hr;go_enter Tryz.func70,Tryz.ntmps70
    go_upto_region 1 with fail
    obtain ⟨ga,hga⟩ : ∃ ga,w.heap.size = ga:=⟨_,rfl⟩
    have Hga:=Lib.hid hga;rw [hga] at x0 x1 x2 x3 x4 x5 hB ⊢;obtain ⟨W,hW⟩ : ∃ W,W = w.alloc (.cells (zJ ⟨3,0,⟨#[]⟩,val,id0,.slice A refs.length c⟩) 52):=⟨_,rfl⟩
    rw [← hW] at x0 x1 x2 x3 x4 x5 hB c1 i1 i2 i3 i4 i5 hT0 ⊢;clear hW hga;(go_wp2_with fail);refine c1.mono ?_;rintro e w1 ⟨rfl,rfl⟩;(go_wp2_with fail);refine i1.mono ?_;rintro e w1 ⟨rfl,rfl⟩;(go_wp2_with fail);refine i2.mono ?_;rintro e w1 ⟨rfl,rfl⟩;(go_wp2_with fail);refine i3.mono ?_;rintro e w1 ⟨rfl,rfl⟩;(go_wp2_with fail);refine i4.mono ?_;rintro e w1 ⟨rfl,rfl⟩;(go_wp2_with fail);refine i5.mono ?_;rintro e w1 ⟨rfl,rfl⟩;clear c1 i1 i2 i3 i4 i5;have cis:=ZM W A _ c _ hT0 hl;rw [Hrb.out] at cis;rw [← Hga.out] at hB;go_wp2_with fail
    all_goals
      first
      | (go_ret;exact ⟨yE (by rw [Hck.out];(try simp only [vR,List.length_nil] at *);(repeat' split) <;> (first | rfl | omega | (simp_all;done) | (simp_all;omega))),hB⟩)
      | (refine cis.mono ?_;rintro e w2 ⟨rfl,hb2⟩
         have hBB:=yN hB hb2;clear hT0 cis x0 x1 x2 x3 x4 x5 hb2;cases rb <;> (go_wp2_with fail;go_ret;exact ⟨yE (by rw [Hck.out];(try simp only [vR,List.length_nil] at *);(repeat' split) <;> (first | rfl | omega | (simp_all;done) | (simp_all;omega))),hBB⟩))
  · show Calls Tryz.prog 70 #[.agg (zJ ⟨4,n,key,val,id0,.slice A 0 c⟩)] w _;change y4 (w.alloc (.cells (zJ ⟨4,n,key,val,id0,.slice A 0 c⟩) 52)) A 0 [] at hT0;have hB : Below w.heap.size w (w.alloc (.cells (zJ ⟨4,n,key,val,id0,.slice A 0 c⟩) 52)):=(Below.refl _ _).alloc (Nat.le_refl _) _;have hr : zF (w.alloc (.cells (zJ ⟨4,n,key,val,id0,.slice A 0 c⟩) 52)) w.heap.size 0 37 = some (zJ ⟨4,n,key,val,id0,.slice A 0 c⟩):=by simp [go_sem]
    have x0:=zD hr (j:=0) (by omega);have x1:=zD hr (j:=1) (by omega);have x2:=zD hr (j:=2) (by omega);have x3:=zD hr (j:=3) (by omega);have x5:=zD hr (j:=36) (by omega);have x4:=y7 hr (j:=4) (m:=32) (by omega);simp only [q6,qO,qS,qR,q9,j5,Nat.zero_add] at x0 x1 x2 x3 x4 x5;have c1:=bG 4 (w.alloc (.cells (zJ ⟨4,n,key,val,id0,.slice A 0 c⟩) 52)) (by omega);have i1:=q8 (xM 4) 78 (w.alloc (.cells (zJ ⟨4,n,key,val,id0,.slice A 0 c⟩) 52)) (by decide);have i2:=q8 (xM 4) 75 (w.alloc (.cells (zJ ⟨4,n,key,val,id0,.slice A 0 c⟩) 52)) (by decide);have i3:=q8 (xM 4) 86 (w.alloc (.cells (zJ ⟨4,n,key,val,id0,.slice A 0 c⟩) 52)) (by decide);have i4:=q8 (xM 4) 82 (w.alloc (.cells (zJ ⟨4,n,key,val,id0,.slice A 0 c⟩) 52)) (by decide);have i5:=q8 (xM 4) 83 (w.alloc (.cells (zJ ⟨4,n,key,val,id0,.slice A 0 c⟩) 52)) (by decide);rw [show inB (xM 4) 78 = true by decide +kernel] at i1;rw [show inB (xM 4) 75 = true by decide +kernel] at i2;rw [show inB (xM 4) 86 = true by decide +kernel] at i3;rw [show inB (xM 4) 82 = false by decide +kernel] at i4;rw [show inB (xM 4) 83 = false by decide +kernel] at i5;rw [show xM 4 = ⟨#[75,86,78]⟩ from rfl] at c1 i1 i2 i3 i4 i5;clear hr;go_enter Tryz.func70,Tryz.ntmps70
    go_upto_region 1 with fail
    obtain ⟨ga,hga⟩ : ∃ ga,w.heap.size = ga:=⟨_,rfl⟩
    have Hga:=Lib.hid hga;rw [hga] at x0 x1 x2 x3 x4 x5 hB ⊢;obtain ⟨W,hW⟩ : ∃ W,W = w.alloc (.cells (zJ ⟨4,n,key,val,id0,.slice A 0 c⟩) 52):=⟨_,rfl⟩
    rw [← hW] at x0 x1 x2 x3 x4 x5 hB c1 i1 i2 i3 i4 i5 hT0 ⊢;clear hW hga;(go_wp2_with fail);refine c1.mono ?_;rintro e w1 ⟨rfl,rfl⟩;(go_wp2_with fail);refine i1.mono ?_;rintro e w1 ⟨rfl,rfl⟩;(go_wp2_with fail);refine i2.mono ?_;rintro e w1 ⟨rfl,rfl⟩;(go_wp2_with fail);refine i3.mono ?_;rintro e w1 ⟨rfl,rfl⟩;(go_wp2_with fail);refine i4.mono ?_;rintro e w1 ⟨rfl,rfl⟩;(go_wp2_with fail);refine i5.mono ?_;rintro e w1 ⟨rfl,rfl⟩;clear c1 i1 i2 i3 i4 i5;have cis:=ZM W A _ c _ hT0 hl;rw [Hrb.out] at cis;rw [← Hga.out] at hB;go_wp2_with fail
    all_goals
      first
      | (go_ret;exact ⟨yE (by rw [Hck.out];(try simp only [vR,List.length_nil] at *);(repeat' split) <;> (first | rfl | omega | (simp_all;done) | (simp_all;omega))),hB⟩)
      | (refine cis.mono ?_;rintro e w2 ⟨rfl,hb2⟩
         have hBB:=yN hB hb2;clear hT0 cis x0 x1 x2 x3 x4 x5 hb2;cases rb <;> (go_wp2_with fail;go_ret;exact ⟨yE (by rw [Hck.out];(try simp only [vR,List.length_nil] at *);(repeat' split) <;> (first | rfl | omega | (simp_all;done) | (simp_all;omega))),hBB⟩))
  · show Calls Tryz.prog 70 #[.agg (zJ ⟨5,0,key,val,id0,.slice A refs.length c⟩)] w _;change y4 (w.alloc (.cells (zJ ⟨5,0,key,val,id0,.slice A refs.length c⟩) 52)) A refs.length refs at hT0;have hB : Below w.heap.size w (w.alloc (.cells (zJ ⟨5,0,key,val,id0,.slice A refs.length c⟩) 52)):=(Below.refl _ _).alloc (Nat.le_refl _) _;have hr : zF (w.alloc (.cells (zJ ⟨5,0,key,val,id0,.slice A refs.length c⟩) 52)) w.heap.size 0 37 = some (zJ ⟨5,0,key,val,id0,.slice A refs.length c⟩):=by simp [go_sem]
    have x0:=zD hr (j:=0) (by omega);have x1:=zD hr (j:=1) (by omega);have x2:=zD hr (j:=2) (by omega);have x3:=zD hr (j:=3) (by omega);have x5:=zD hr (j:=36) (by omega);have x4:=y7 hr (j:=4) (m:=32) (by omega);simp only [q6,qO,qS,qR,q9,j5,Nat.zero_add] at x0 x1 x2 x3 x4 x5;have c1:=bG 5 (w.alloc (.cells (zJ ⟨5,0,key,val,id0,.slice A refs.length c⟩) 52)) (by omega);have i1:=q8 (xM 5) 78 (w.alloc (.cells (zJ ⟨5,0,key,val,id0,.slice A refs.length c⟩) 52)) (by decide);have i2:=q8 (xM 5) 75 (w.alloc (.cells (zJ ⟨5,0,key,val,id0,.slice A refs.length c⟩) 52)) (by decide);have i3:=q8 (xM 5) 86 (w.alloc (.cells (zJ ⟨5,0,key,val,id0,.slice A refs.length c⟩) 52)) (by decide);have i4:=q8 (xM 5) 82 (w.alloc (.cells (zJ ⟨5,0,key,val,id0,.slice A refs.length c⟩) 52)) (by decide);have i5:=q8 (xM 5) 83 (w.alloc (.cells (zJ ⟨5,0,key,val,id0,.slice A refs.length c⟩) 52)) (by decide);rw [show inB (xM 5) 78 = false by decide +kernel] at i1;rw [show inB (xM 5) 75 = true by decide +kernel] at i2;rw [show inB (xM 5) 86 = true by decide +kernel] at i3;rw [show inB (xM 5) 82 = false by decide +kernel] at i4;rw [show inB (xM 5) 83 = true by decide +kernel] at i5;rw [show xM 5 = ⟨#[75,86,83]⟩ from rfl] at c1 i1 i2 i3 i4 i5;clear hr;go_enter Tryz.func70,Tryz.ntmps70
    go_upto_region 1 with fail
    obtain ⟨ga,hga⟩ : ∃ ga,w.heap.size = ga:=⟨_,rfl⟩
    have Hga:=Lib.hid hga;rw [hga] at x0 x1 x2 x3 x4 x5 hB ⊢;obtain ⟨W,hW⟩ : ∃ W,W = w.alloc (.cells (zJ ⟨5,0,key,val,id0,.slice A refs.length c⟩) 52):=⟨_,rfl⟩
    rw [← hW] at x0 x1 x2 x3 x4 x5 hB c1 i1 i2 i3 i4 i5 hT0 ⊢;clear hW hga;(go_wp2_with fail);refine c1.mono ?_;rintro e w1 ⟨rfl,rfl⟩;(go_wp2_with fail);refine i1.mono ?_;rintro e w1 ⟨rfl,rfl⟩;(go_wp2_with fail);refine i2.mono ?_;rintro e w1 ⟨rfl,rfl⟩;(go_wp2_with fail);refine i3.mono ?_;rintro e w1 ⟨rfl,rfl⟩;(go_wp2_with fail);refine i4.mono ?_;rintro e w1 ⟨rfl,rfl⟩;(go_wp2_with fail);refine i5.mono ?_;rintro e w1 ⟨rfl,rfl⟩;clear c1 i1 i2 i3 i4 i5;have cis:=ZM W A _ c _ hT0 hl;rw [Hrb.out] at cis;rw [← Hga.out] at hB;go_wp2_with fail
    all_goals
      first
      | (go_ret;exact ⟨yE (by rw [Hck.out];(try simp only [vR,List.length_nil] at *);(repeat' split) <;> (first | rfl | omega | (simp_all;done) | (simp_all;omega))),hB⟩)
      | (refine cis.mono ?_;rintro e w2 ⟨rfl,hb2⟩
         have hBB:=yN hB hb2;clear hT0 cis x0 x1 x2 x3 x4 x5 hb2;cases rb <;> (go_wp2_with fail;go_ret;exact ⟨yE (by rw [Hck.out];(try simp only [vR,List.length_nil] at *);(repeat' split) <;> (first | rfl | omega | (simp_all;done) | (simp_all;omega))),hBB⟩))
  · show Calls Tryz.prog 70 #[.agg (zJ ⟨6,0,⟨#[]⟩,val,ref,.slice A 0 c⟩)] w _;change y4 (w.alloc (.cells (zJ ⟨6,0,⟨#[]⟩,val,ref,.slice A 0 c⟩) 52)) A 0 [] at hT0;have hB : Below w.heap.size w (w.alloc (.cells (zJ ⟨6,0,⟨#[]⟩,val,ref,.slice A 0 c⟩) 52)):=(Below.refl _ _).alloc (Nat.le_refl _) _;have hr : zF (w.alloc (.cells (zJ ⟨6,0,⟨#[]⟩,val,ref,.slice A 0 c⟩) 52)) w.heap.size 0 37 = some (zJ ⟨6,0,⟨#[]⟩,val,ref,.slice A 0 c⟩):=by simp [go_sem]
    have x0:=zD hr (j:=0) (by omega);have x1:=zD hr (j:=1) (by omega);have x2:=zD hr (j:=2) (by omega);have x3:=zD hr (j:=3) (by omega);have x5:=zD hr (j:=36) (by omega);have x4:=y7 hr (j:=4) (m:=32) (by omega);simp only [q6,qO,qS,qR,q9,j5,Nat.zero_add] at x0 x1 x2 x3 x4 x5;have c1:=bG 6 (w.alloc (.cells (zJ ⟨6,0,⟨#[]⟩,val,ref,.slice A 0 c⟩) 52)) (by omega);have i1:=q8 (xM 6) 78 (w.alloc (.cells (zJ ⟨6,0,⟨#[]⟩,val,ref,.slice A 0 c⟩) 52)) (by decide);have i2:=q8 (xM 6) 75 (w.alloc (.cells (zJ ⟨6,0,⟨#[]⟩,val,ref,.slice A 0 c⟩) 52)) (by decide);have i3:=q8 (xM 6) 86 (w.alloc (.cells (zJ ⟨6,0,⟨#[]⟩,val,ref,.slice A 0 c⟩) 52)) (by decide);have i4:=q8 (xM 6) 82 (w.alloc (.cells (zJ ⟨6,0,⟨#[]⟩,val,ref,.slice A 0 c⟩) 52)) (by decide);have i5:=q8 (xM 6) 83 (w.alloc (.cells (zJ ⟨6,0,⟨#[]⟩,val,ref,.slice A 0 c⟩) 52)) (by decide);rw [show inB (xM 6) 78 = false by decide +kernel] at i1;rw [show inB (xM 6) 75 = false by decide +kernel] at i2;rw [show inB (xM 6) 86 = true by decide +kernel] at i3;rw [show inB (xM 6) 82 = true by decide +kernel] at i4;rw [show inB (xM 6) 83 = false by decide +kernel] at i5;rw [show xM 6 = ⟨#[82,86]⟩ from rfl] at c1 i1 i2 i3 i4 i5;clear hr;go_enter Tryz.func70,Tryz.ntmps70
    go_upto_region 1 with fail
    obtain ⟨ga,hga⟩ : ∃ ga,w.heap.size = ga:=⟨_,rfl⟩
    have Hga:=Lib.hid hga;rw [hga] at x0 x1 x2 x3 x4 x5 hB ⊢;obtain ⟨W,hW⟩ : ∃ W,W = w.alloc (.cells (zJ ⟨6,0,⟨#[]⟩,val,ref,.slice A 0 c⟩) 52):=⟨_,rfl⟩
    rw [← hW] at x0 x1 x2 x3 x4 x5 hB c1 i1 i2 i3 i4 i5 hT0 ⊢;clear hW hga;(go_wp2_with fail);refine c1.mono ?_;rintro e w1 ⟨rfl,rfl⟩;(go_wp2_with fail);refine i1.mono ?_;rintro e w1 ⟨rfl,rfl⟩;(go_wp2_with fail);refine i2.mono ?_;rintro e w1 ⟨rfl,rfl⟩;(go_wp2_with fail);refine i3.mono ?_;rintro e w1 ⟨rfl,rfl⟩;(go_wp2_with fail);refine i4.mono ?_;rintro e w1 ⟨rfl,rfl⟩;(go_wp2_with fail);refine i5.mono ?_;rintro e w1 ⟨rfl,rfl⟩;clear c1 i1 i2 i3 i4 i5;have cis:=ZM W A _ c _ hT0 hl;rw [Hrb.out] at cis;rw [← Hga.out] at hB;go_wp2_with fail
    all_goals
      first
      | (go_ret;exact ⟨yE (by rw [Hck.out];(try simp only [vR,List.length_nil] at *);(repeat' split) <;> (first | rfl | omega | (simp_all;done) | (simp_all;omega))),hB⟩)
      | (refine cis.mono ?_;rintro e w2 ⟨rfl,hb2⟩
         have hBB:=yN hB hb2;clear hT0 cis x0 x1 x2 x3 x4 x5 hb2;cases rb <;> (go_wp2_with fail;go_ret;exact ⟨yE (by rw [Hck.out];(try simp only [vR,List.length_nil] at *);(repeat' split) <;> (first | rfl | omega | (simp_all;done) | (simp_all;omega))),hBB⟩))
  · show Calls Tryz.prog 70 #[.agg (zJ ⟨7,0,⟨#[]⟩,⟨#[]⟩,ref,.slice A 0 c⟩)] w _;change y4 (w.alloc (.cells (zJ ⟨7,0,⟨#[]⟩,⟨#[]⟩,ref,.slice A 0 c⟩) 52)) A 0 [] at hT0;have hB : Below w.heap.size w (w.alloc (.cells (zJ ⟨7,0,⟨#[]⟩,⟨#[]⟩,ref,.slice A 0 c⟩) 52)):=(Below.refl _ _).alloc (Nat.le_refl _) _;have hr : zF (w.alloc (.cells (zJ ⟨7,0,⟨#[]⟩,⟨#[]⟩,ref,.slice A 0 c⟩) 52)) w.heap.size 0 37 = some (zJ ⟨7,0,⟨#[]⟩,⟨#[]⟩,ref,.slice A 0 c⟩):=by simp [go_sem]
    have x0:=zD hr (j:=0) (by omega);have x1:=zD hr (j:=1) (by omega);have x2:=zD hr (j:=2) (by omega);have x3:=zD hr (j:=3) (by omega);have x5:=zD hr (j:=36) (by omega);have x4:=y7 hr (j:=4) (m:=32) (by omega);simp only [q6,qO,qS,qR,q9,j5,Nat.zero_add] at x0 x1 x2 x3 x4 x5;have c1:=bG 7 (w.alloc (.cells (zJ ⟨7,0,⟨#[]⟩,⟨#[]⟩,ref,.slice A 0 c⟩) 52)) (by omega);have i1:=q8 (xM 7) 78 (w.alloc (.cells (zJ ⟨7,0,⟨#[]⟩,⟨#[]⟩,ref,.slice A 0 c⟩) 52)) (by decide);have i2:=q8 (xM 7) 75 (w.alloc (.cells (zJ ⟨7,0,⟨#[]⟩,⟨#[]⟩,ref,.slice A 0 c⟩) 52)) (by decide);have i3:=q8 (xM 7) 86 (w.alloc (.cells (zJ ⟨7,0,⟨#[]⟩,⟨#[]⟩,ref,.slice A 0 c⟩) 52)) (by decide);have i4:=q8 (xM 7) 82 (w.alloc (.cells (zJ ⟨7,0,⟨#[]⟩,⟨#[]⟩,ref,.slice A 0 c⟩) 52)) (by decide);have i5:=q8 (xM 7) 83 (w.alloc (.cells (zJ ⟨7,0,⟨#[]⟩,⟨#[]⟩,ref,.slice A 0 c⟩) 52)) (by decide);rw [show inB (xM 7) 78 = false by decide +kernel] at i1;rw [show inB (xM 7) 75 = false by decide +kernel] at i2;rw [show inB (xM 7) 86 = false by decide +kernel] at i3;rw [show inB (xM 7) 82 = true by decide +kernel] at i4;rw [show inB (xM 7) 83 = false by decide +kernel] at i5;rw [show xM 7 = ⟨#[82]⟩ from rfl] at c1 i1 i2 i3 i4 i5;clear hr;go_enter Tryz.func70,Tryz.ntmps70
    go_upto_region 1 with fail
    obtain ⟨ga,hga⟩ : ∃ ga,w.heap.size = ga:=⟨_,rfl⟩
    have Hga:=Lib.hid hga;rw [hga] at x0 x1 x2 x3 x4 x5 hB ⊢;obtain ⟨W,hW⟩ : ∃ W,W = w.alloc (.cells (zJ ⟨7,0,⟨#[]⟩,⟨#[]⟩,ref,.slice A 0 c⟩) 52):=⟨_,rfl⟩
    rw [← hW] at x0 x1 x2 x3 x4 x5 hB c1 i1 i2 i3 i4 i5 hT0 ⊢;clear hW hga;(go_wp2_with fail);refine c1.mono ?_;rintro e w1 ⟨rfl,rfl⟩;(go_wp2_with fail);refine i1.mono ?_;rintro e w1 ⟨rfl,rfl⟩;(go_wp2_with fail);refine i2.mono ?_;rintro e w1 ⟨rfl,rfl⟩;(go_wp2_with fail);refine i3.mono ?_;rintro e w1 ⟨rfl,rfl⟩;(go_wp2_with fail);refine i4.mono ?_;rintro e w1 ⟨rfl,rfl⟩;(go_wp2_with fail);refine i5.mono ?_;rintro e w1 ⟨rfl,rfl⟩;clear c1 i1 i2 i3 i4 i5;have cis:=ZM W A _ c _ hT0 hl;rw [Hrb.out] at cis;rw [← Hga.out] at hB;go_wp2_with fail
    all_goals
      first
      | (go_ret;exact ⟨yE (by rw [Hck.out];(try simp only [vR,List.length_nil] at *);(repeat' split) <;> (first | rfl | omega | (simp_all;done) | (simp_all;omega))),hB⟩)
      | (refine cis.mono ?_;rintro e w2 ⟨rfl,hb2⟩
         have hBB:=yN hB hb2;clear hT0 cis x0 x1 x2 x3 x4 x5 hb2;cases rb <;> (go_wp2_with fail;go_ret;exact ⟨yE (by rw [Hck.out];(try simp only [vR,List.length_nil] at *);(repeat' split) <;> (first | rfl | omega | (simp_all;done) | (simp_all;omega))),hBB⟩))
end
end Go.Proofs.YtgfpjjppeldhbaaGreatDoor
