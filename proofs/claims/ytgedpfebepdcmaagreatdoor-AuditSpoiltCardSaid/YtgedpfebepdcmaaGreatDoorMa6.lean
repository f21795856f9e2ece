/- AuditSpoilt: the walk. -/
import Derived.Test.YtgedpfebepdcmaaGreatDoorMa5
namespace Go.Proofs.YtgedpfebepdcmaaGreatDoor
section
open Go.RowKit
@[go_sem] theorem bsHd0_run (w : World) : (bsS 22 0 #[]).run Tryz.prog w = .ok (.slice (some ⟨w.heap.size,0,none⟩) 0 0) (w.alloc (.cells #[] 30)):=run_bsS0 einfoHd w
def turnH (x : HdIn) (v : Int) : HdIn:=⟨{ x.h with ht:=v },x.A,x.c⟩
theorem turnH_row (x : HdIn) (v : Int) : (hdR x).setIfInBounds 1 (.int .i64 v) = hdR (turnH x v):=by
  apply Array.ext';simp [hdR,hdO,hdC,turnH]
theorem idsH_step (R : List HdIn) {k : Nat} (hk : k < R.length) : idsH (R.take (k + 1)) = idsH (R.take k) ++ [hdI R[k].h]:=by
  unfold idsH;rw [List.take_succ_eq_append_getElem hk,List.map_append];rfl
theorem okH_step (R : List HdIn) {k : Nat} (hk : k < R.length) (h : ∀ x ∈ R.take k,hdE x.h = 0) (h2 : hdE R[k].h = 0) : ∀ x ∈ R.take (k + 1),hdE x.h = 0:=by
  intro x hx;rw [List.take_succ_eq_append_getElem hk,List.mem_append,List.mem_singleton] at hx;rcases hx with h3 | rfl
  · exact h x h3
  · exact h2
structure HdGot (w : World) (x : HdIn) : Prop where
  ids : TagsIn w x.A x.h.ps.length x.h.ps
  tps : x.h.tp.size ≤ 9223372036854775807
  len : x.h.ps.length ≤ 9223372036854775807
theorem HdGot.below {w w' : World} {x : HdIn} (a : HdGot w x) (hb : Below w.heap.size w w') : HdGot w' x:=⟨SlR.below a.ids hb,a.tps,a.len⟩
theorem HdGot.fit {w : World} {x : HdIn} (a : HdGot w x) (h : hdE x.h = 0) : HdFit w x:=by
  have:=hdE_ok h;exact ⟨a.ids,by have:=this.ps;omega,a.tps,by have:=this.ht;omega⟩
set_option maxRecDepth 100000 in
set_option maxHeartbeats 8000000 in
theorem auditSpoilt_any (A : Option Addr) (cap : Nat) (R : List HdIn) (a : Nat) (i : Id32) (d : Int) (w : World) (hR : HsIn w A R.length R) (hA : A = none → cap = 0) (hd : -9223372036854775808 ≤ d ∧ d ≤ 9223372036854775807) (ha : a ≤ 255) (hn : R.length ≤ 9223372036854775807) (hv : ShaVars w) (ho : ∀ x ∈ R,HdGot w x) :
    Calls Tryz.prog 3 #[.slice A R.length cap,.int .u8 a,.agg (idC i),.int .i64 d] w fun e w'=>e = .returned (.bool true) ∧ Below w.heap.size w w':=by
  have hB0 : Below w.heap.size w (w.alloc (.cells (idC i) 24)):=(Below.refl _ _).alloc (Nat.le_refl _) _;have hbx : rowAt (w.alloc (.cells (idC i) 24)) w.heap.size 0 32 = some (idC i):=by simp [go_sem]
  go_enter Tryz.func3,Tryz.ntmps3
  go_upto_region 1 with fail
  obtain ⟨W,hW⟩ : ∃ W,W = w.alloc (.cells (idC i) 24):=⟨_,rfl⟩
  rw [← hW] at hB0 hbx ⊢;have hR1 : HsIn W A R.length R:=SlR.below hR hB0;have hv1:=hv.below hB0;have ho1 : ∀ x ∈ R,HdGot W x:=fun x hx=>(ho x hx).below hB0;obtain ⟨g,hg⟩ : ∃ g,w.heap.size = g:=⟨_,rfl⟩
  rw [hg] at hbx ⊢;have Hg:=Lib.hid hg;have hgW : g < W.heap.size:=rowAt_lt hbx;clear hW hR hv ho hg;by_cases h0 : R.length = 0
  · have e0 : ((R.length : Int) == 0) = true:=by simp [h0]
    (go_wp2_with fail);refine (au_awake W hv1).mono ?_;rintro e w9 ⟨rfl,hb9⟩;(go_wp2_with fail);go_ret;exact ⟨rfl,bel2 hB0 hb9⟩
  by_cases h20 : 20 < R.length
  · have e0 : ((R.length : Int) == 0) = false:=by rw [beq_eq_false_iff_ne];omega
    have e1 : (20 : Int) < (R.length : Int):=by omega
    (go_wp2_with fail);refine (au_awake W hv1).mono ?_;rintro e w9 ⟨rfl,hb9⟩;(go_wp2_with fail);go_ret;exact ⟨rfl,bel2 hB0 hb9⟩
  have e0 : ((R.length : Int) == 0) = false:=by rw [beq_eq_false_iff_ne];omega
  have e1 : ¬ (20 : Int) < (R.length : Int):=by omega
  go_upto_region 5 with fail
  clear e0 e1;go_loopw [9,10,11,12,37] (fun ids iv _ _ _ wr=>∃ (k : Nat) (A1 : Option Addr) (c1 : Nat),k ≤ R.length ∧ iv = .int .i64 k ∧ ids = .slice A1 k c1 ∧ Own wr W.heap.size 24 32 A1 k c1 ((idsH (R.take k)).map idC) ∧ Below W.heap.size W wr ∧ Hid (∀ x ∈ R.take k,hdE x.h = 0)) (fun _ iv _ _ _ _=>R.length - (intOf iv).toNat)
  case atStart=>exact ⟨0,none,0,Nat.zero_le _,rfl,rfl,Own.nil _ _ _ _,Below.refl _ _,Lib.hid (fun x hx=>by cases hx)⟩
  case round =>
    obtain ⟨k,A1,c1,hk,rfl,rfl,hown,hb,hz⟩:=hrel;by_cases hlt : k < R.length
    · obtain ⟨q2,o2,hq2,hr2⟩:=HsIn.get (SlR.below hR1 hb) hlt hlt;have hst:=idsH_step R hlt;have hzs:=okH_step R hlt hz.out;have hgot:=(ho1 _ (List.getElem_mem hlt)).below hb;obtain ⟨x,hx⟩ : ∃ x,R[k]'hlt = x:=⟨_,rfl⟩
      rw [hx] at hr2 hst hgot hzs;have cc:=rh_ident wr x.h x.A x.c hgot.ids hgot.len hgot.tps;have Hst:=Lib.hid hst;have Hzs:=Lib.hid hzs;obtain ⟨E,hE⟩ : ∃ E,hdE x.h = E:=⟨_,rfl⟩
      obtain ⟨D,hD⟩ : ∃ D,hdI x.h = D:=⟨_,rfl⟩
      rw [hE,hD] at cc;have HE:=Lib.hid hE;have HD:=Lib.hid hD;have hbB : Below w.heap.size w wr:=bel2 hB0 hb;subst hq2;clear hst hzs hx hE hD hz;(go_wp2_with fail);refine cc.mono ?_;rintro e w2 ⟨rfl,hb2⟩;have hba : Below w2.heap.size w2 (w2.alloc (.cells (idC D) 24)):=(Below.refl _ _).alloc (Nat.le_refl _) _;have hbz : Below wr.heap.size wr (w2.alloc (.cells (idC D) 24)):=bel2 hb2 hba;have hb3 : Below W.heap.size W (w2.alloc (.cells (idC D) 24)):=bel2 hb hbz;have hown3:=hown.below hbz;have hr3:=(rowAt_of_block (hbz.block q2 (rowAt_lt hr2)) _ _).trans hr2;have hbx3 : rowAt (w2.alloc (.cells (idC D) 24)) w2.heap.size 0 32 = some (idC D):=by simp [go_sem]
      have x0 : (w2.alloc (.cells (idC D) 24)).cell? ⟨q2,o2 + k * 38,none⟩ = some (.slice x.A x.h.ps.length x.c):=by
        have:=rowAt_cell hr3 (j:=0) (by omega);simpa only [hdC_g0,Nat.add_zero,hdO] using this
      clear cc hb2 hba hbz hown hb hbB hr2 hr3;by_cases h00 : E = 0
      · subst h00;have hps:=(hdE_ok HE.out).ps;have e20 : ¬ (20 : Int) < (x.h.ps.length : Int):=by omega
        have hb4:=hb3.size;go_upto_region 10 with fail
        obtain ⟨V,hV⟩ : ∃ V,V = w2.alloc (.cells (idC D) 24):=⟨_,rfl⟩
        obtain ⟨gx,hgx⟩ : ∃ gx,w2.heap.size = gx:=⟨_,rfl⟩
        rw [← hV] at hb3 hown3 hbx3 hb4 ⊢;rw [hgx] at hbx3 ⊢;clear hV x0 hgx;have hba : Below V.heap.size V (V.alloc (.cells (idC D) 24)):=(Below.refl _ _).alloc (Nat.le_refl _) _;have hown4:=hown3.below hba;have hrow4 : rowAt (V.alloc (.cells (idC D) 24)) V.heap.size 0 32 = some (idC D):=by simp [go_sem]
        go_wp2_with (at_builtin;refine L_append einfoId rfl hown4 rfl hrow4 (idC_one _) (by omega) (by omega) (by simp;omega) ?_;intro A2 cap2 w4 hownA hkA hsubA)
        have hbA : Below W.heap.size W w4:=(bel2 hb3 hba).trans (hkA.below (B:=W.heap.size) (by simp;omega) fun y hy=>(hown4.at_base hy).1);clear hown3 hown4 hrow4 hba hb3 hkA hsubA hbx3;(go_wp2_with fail);go_roundw
        case rel=>exact ⟨k + 1,A2,cap2,by omega,by go_num,rfl,by rw [Hst.out,List.map_append,HD.out];exact hownA,hbA,Lib.hid (Hzs.out HE.out)⟩
        case measure=>simp [intOf];omega
      · have e1 : (E != 0) = true:=by simpa using h00
        have hv3:=hv1.below hb3;have hbF:=bel2 hB0 hb3;clear hown3 hbx3 hb3;(go_wp2_with fail);refine (au_awake _ hv3).mono ?_;rintro e w9 ⟨rfl,hb9⟩;(go_wp2_with fail);go_ret;exact ⟨rfl,bel2 hbF hb9⟩
    · have hkR : k = R.length:=by omega
      subst hkR;have hall : ∀ x ∈ R,hdE x.h = 0:=by have:=hz.out;rwa [List.take_length] at this
      rw [List.take_length] at hown;obtain ⟨s,hae,hs⟩ : ∃ s : Nat,(a : Int) % (R.length : Int) = (s : Int) ∧ s < R.length:=⟨a % R.length,by simp,Nat.mod_lt _ (by omega)⟩
      rcases hown.addr with rfl | ⟨q1,rfl⟩
      · have:=(hown.cap_le.2 rfl).1;omega
      have hcl:=hown.cap_le.1;obtain ⟨V,hV⟩ : ∃ V,V = wr:=⟨wr,rfl⟩
      rw [← hV] at hown hb ⊢;obtain ⟨q,o,eq,hrow⟩:=TagsIn.get hown.slr (i:=s) hs (by simpa [idsH] using hs);injection eq with eq;injection eq with eq1 eq2
      subst eq1;subst eq2;have hsx : (idsH R)[s]'(by simpa [idsH] using hs) = hdI (R[s]'hs).h:=by simp [idsH]
      rw [Nat.zero_add,hsx] at hrow;obtain ⟨D,hD⟩ : ∃ D,hdI (R[s]'hs).h = D:=⟨_,rfl⟩
      rw [hD] at hrow hsx;have HD:=Lib.hid hD;have Hsx:=Lib.hid hsx;have Hall:=Lib.hid hall;have hgV:=hown.at_base (x:=q1) (by simp [blk]);have hbi : rowAt V g 0 32 = some (idC i):=(rowAt_of_block (hb.block g hgW) _ _).trans hbx;clear hV hsx hD hall hz hlt hk;go_upto_region 12 with fail
      rw [hae];have hba : Below V.heap.size V (V.alloc (.cells (idC D) 24)):=(Below.refl _ _).alloc (Nat.le_refl _) _;have hown2:=hown.below hba;have hbi2:=(rowAt_of_block (hba.block g (rowAt_lt hbi)) _ _).trans hbi;have hbd2 : rowAt (V.alloc (.cells (idC D) 24)) V.heap.size 0 32 = some (idC D):=by simp [go_sem]
      have hb2 : Below W.heap.size W (V.alloc (.cells (idC D) 24)):=bel2 hb hba;obtain ⟨gd,hgd⟩ : ∃ gd,V.heap.size = gd:=⟨_,rfl⟩
      have hgl : gd < (V.alloc (.cells (idC D) 24)).heap.size:=by simp [hgd]
      go_upto_region 13 with fail
      obtain ⟨V2,hV2⟩ : ∃ V2,V2 = V.alloc (.cells (idC D) 24):=⟨_,rfl⟩
      rw [← hV2] at hown2 hbi2 hbd2 hb2 hgl ⊢;rw [hgd] at hbd2 hgV;have hg2 : g < V2.heap.size:=rowAt_lt hbi2;clear hV2 hgd hba hown hrow hbi hb hbx;obtain ⟨V3,hst,ho3,hk3⟩:=own_store einfoId hown2 (i:=s) hs (cs:=idC i) (idC_size _) (idC_one _);go_upto_region 15 with fail
      rw [← List.map_set] at ho3;have hb3 : Below W.heap.size W V3:=hb2.trans (hk3.below hb2.size (by simp;omega));have hbi3:=(hk3.row hg2 (by simp;omega) 0 32).trans hbi2;have hbd3:=(hk3.row hgl (by simp;omega) 0 32).trans hbd2;have hgl3 : gd < V3.heap.size:=rowAt_lt hbd3;have hIl : ((idsH R).set s i).length = R.length:=by simp [idsH]
      have ch:=au_headers V3 _ A c1 cap ((idsH R).set s i) R ho3.slr (SlR.below hR1 hb3) (by omega) (hv1.below hb3) (fun x hx=>((ho1 x hx).below hb3).fit (Hall.out x hx));have hfound:=spoilt_found R s i hs Hall.out;have hFl:=fndN_len (((idsH R).set s i).zip R) R.length;obtain ⟨F,hF⟩ : ∃ F,fndN (((idsH R).set s i).zip R) R.length = F:=⟨_,rfl⟩
      rw [hF] at ch hfound hFl;rw [HD.out] at hfound;have Hfound:=Lib.hid hfound;clear hF hst hk3 hown2 hbi2 hbd2 hb2 hfound hIl;(go_wp2_with fail);refine ch.mono ?_;rintro e w4 ⟨Af,cf,rfl,hof,hb4⟩;have hFn : FnIn w4 Af F:=hof.slr;clear ch hof;go_upto_region 17 with fail
      go_loopw [15,17] (fun fv iv wr=>∃ j : Nat,j ≤ F.length ∧ iv = .int .i64 j ∧ fv = .bool (fnd2B F s j) ∧ Below w4.heap.size w4 wr) (fun _ iv _=>F.length - (intOf iv).toNat)
      case atStart=>exact ⟨0,Nat.zero_le _,rfl,rfl,Below.refl _ _⟩
      case round =>
        obtain ⟨j,hj,rfl,rfl,hbj⟩:=hrel;by_cases hlt : j < F.length
        · obtain ⟨qf,of,rfl,k1,k2⟩:=FnIn.get (SlR.below hFn hbj) hlt;have hst:=fnd2B_step F s hlt;obtain ⟨f,hf⟩ : ∃ f,F[j]'hlt = f:=⟨_,rfl⟩
          rw [hf] at k1 k2 hst;obtain ⟨fb,hfb⟩ : ∃ fb,fnd2B F s j = fb:=⟨_,rfl⟩
          rw [hfb] at hst ⊢;have Hst:=Lib.hid hst;clear hst hf hfb;obtain ⟨K2,hK2⟩ : ∃ b,(f.k == 2) = b:=⟨_,rfl⟩
          cases fb with
          | true =>
            (go_wp2_with fail);go_roundw
            case rel=>exact ⟨j + 1,by omega,by go_num,by rw [Hst.out];simp [hK2],hbj⟩
            case measure=>simp [intOf];omega
          | false =>
            cases K2 with
            | true =>
              (go_wp2_with fail);go_roundw
              case rel=>exact ⟨j + 1,by omega,by go_num,by rw [Hst.out];simp [hK2],hbj⟩
              case measure=>simp [intOf];omega
            | false =>
              (go_wp2_with fail);go_roundw
              case rel=>exact ⟨j + 1,by omega,by go_num,by rw [Hst.out];simp [hK2],hbj⟩
              case measure=>simp [intOf];omega
        · have hjF : j = F.length:=by omega
          subst hjF;rw [Hfound.out];have hba : Below V3.heap.size V3 wr:=bel2 hb4 hbj;have hb5 : Below W.heap.size W wr:=bel2 hb3 hba;have ho5:=ho3.below hba;have hbi5:=(rowAt_of_block (hba.block g (rowAt_lt hbi3)) _ _).trans hbi3;have hbd5:=(rowAt_of_block (hba.block gd hgl3) _ _).trans hbd3;have hgl5 : gd < wr.heap.size:=rowAt_lt hbd5;have hg5 : g < wr.heap.size:=rowAt_lt hbi5;obtain ⟨V5,hV5⟩ : ∃ V5,V5 = wr:=⟨wr,rfl⟩
          rw [← hV5] at hb5 ho5 hbi5 hbd5 hgl5 hg5 ⊢;clear hV5 hba ho3 hbi3 hbd3 hgl3 hb4 hbj hFn hlt hj hb3;obtain ⟨V6,hst,ho6,hk6⟩:=own_store einfoId ho5 (i:=s) hs (cs:=idC D) (idC_size _) (idC_one _);have hII : (((idsH R).set s i).map idC).set s (idC D) = (idsH R).map idC:=by
            rw [← List.map_set,List.set_set,← Hsx.out,List.set_getElem_self]
          rw [hII] at ho6;have hb6 : Below W.heap.size W V6:=hb5.trans (hk6.below hb5.size (by simp;omega));have hz6:=hb6.size;obtain ⟨X,hX⟩ : ∃ X : Bool,decide (i ≠ D) = X:=⟨_,rfl⟩
          have hX1 : (i == D) = !X:=by rw [← hX];by_cases h : i = D <;> simp [h]
          go_upto_region 20 with fail
          rw [hX];clear hX hII;go_upto_region 23 with fail
          clear hX1 hst hk6 ho5 hbi5 hbd5 hb5 hgl5 hg5;have hR6 : HsIn V6 A R.length R:=SlR.below hR1 hb6;have hbE : Below V6.heap.size V6 (V6.alloc (.cells #[] 30)):=(Below.refl _ _).alloc (Nat.le_refl _) _;have hown0:=Own.empty V6 V6.heap.size 30 38 (Nat.le_refl _);have hrE : SlR (V6.alloc (.cells #[] 30)) A R.length 38 (R.map hdR):=SlR.below hR6 hbE;have hone : ∀ r ∈ R.map hdR,∀ u ∈ r.toList,u.oneCell' = true:=fun r hr=>(by obtain ⟨y,_,rfl⟩:=List.mem_map.1 hr;exact hdC_one _ (hdO_one y));go_upto_region 24 with (at_builtin;refine L_appends einfoHd rfl hown0 rfl hrE hA hone (by omega) (by omega) (by simp) ?_;intro Am capm w7 hown7 hk7 hsub7)
          simp only [Nat.zero_add,List.nil_append] at hown7 ⊢;have hb7 : Below V6.heap.size V6 w7:=hbE.trans (hk7.below (by simp) (by simp [blk]));have ho7:=ho6.below hb7;have hz7:=hb7.size;have hq6:=ho6.at_base (x:=q1) (by simp [blk]);clear hR6 hbE hown0 hrE hone hk7 hsub7 ho6;rcases hown7.addr with rfl | ⟨qm,rfl⟩
          · have:=(hown7.cap_le.2 rfl).1;omega
          have hgm:=hown7.at_base (x:=qm) (by simp [blk]);obtain ⟨m0,hm0⟩ : ∃ v : Int,(if 1073741824 < d then 1073741824 else d) = v:=⟨_,rfl⟩
          obtain ⟨v,hvd⟩ : ∃ v : Int,(if 1 < m0 then m0 else 1) = v:=⟨_,rfl⟩
          have hvb : 1 ≤ v ∧ v ≤ 1073741824:=by
            rw [← hvd,← hm0];(repeat' split) <;> omega
          have Hm0:=Lib.hid hm0;clear hm0;have Hvd:=Lib.hid hvd;clear hvd;obtain ⟨ho8,hk8,⟨u0,hc0⟩,hf0⟩:=own_cell hown7 (i:=s) (r:=1) (by simpa using hs) (by omega) (.int .i64 v);have hMM : (R.map hdR).set s (((R.map hdR)[s]'(by simpa using hs)).setIfInBounds 1 (.int .i64 v)) = (R.set s (turnH (R[s]'hs) v)).map hdR:=by rw [List.map_set,List.getElem_map,turnH_row]
          rw [hMM] at ho8;go_upto_region 25 with fail
          rw [Hm0.out,Hvd.out];obtain ⟨V8,hV8⟩ : ∃ V8,V8 = w7.setCell ⟨qm,s * 38 + 1,none⟩ (.int .i64 v):=⟨_,rfl⟩
          rw [← hV8] at ho8 hk8 ⊢;have ho78:=ho7.kept hk8 (by simp [blk];omega);have hb8 : Below W.heap.size W V8:=(hb6.trans (hb7.mono hz6)).trans (hk8.below (by omega) (by simp;omega));have hxg : HdGot V8 (R[s]'hs):=(ho1 _ (List.getElem_mem hs)).below hb8;have hxe:=Hall.out _ (List.getElem_mem hs);have hfx : HdFit V8 (turnH (R[s]'hs) v):=⟨hxg.ids,(hxg.fit hxe).len,hxg.tps,by show 0 ≤ v ∧ v ≤ _;omega⟩
          obtain ⟨y,hy⟩ : ∃ y,turnH (R[s]'hs) v = y:=⟨_,rfl⟩
          obtain ⟨R',hR'⟩ : ∃ R',R.set s (turnH (R[s]'hs) v) = R':=⟨_,rfl⟩
          have hRl : R'.length = R.length:=by rw [← hR'];simp
          have hRs : R'[s]'(by omega) = y:=by subst hR';subst hy;simp
          have hff : ∀ x ∈ R',HdFit V8 x:=fun x hx=>by
            rw [← hR'] at hx;rcases List.mem_or_eq_of_mem_set hx with h | rfl
            · exact ((ho1 _ h).below hb8).fit (Hall.out _ h)
            · exact hfx
          rw [hy] at hfx;rw [hR'] at ho8;clear hV8 hMM hown7 hxg hxe hy hR' hk8 hf0 hc0 ho7;obtain ⟨q8,o8,hq8,hrow8⟩:=HsIn.get ho8.slr hs (by rw [hRl];exact hs);injection hq8 with hq8;injection hq8 with eq1 eq2
          subst eq1;subst eq2;rw [Nat.zero_add,hRs] at hrow8;have cc:=rh_ident V8 y.h y.A y.c hfx.ids (Nat.le_trans hfx.len (by decide)) hfx.tps;obtain ⟨E,hE⟩ : ∃ E,hdE y.h = E:=⟨_,rfl⟩
          obtain ⟨D2,hD2⟩ : ∃ D,hdI y.h = D:=⟨_,rfl⟩
          rw [hE,hD2] at cc;have HE:=Lib.hid hE;have HRs:=Lib.hid hRs;clear hE hD2 hRs;(go_wp2_with fail);refine cc.mono ?_;rintro e w9 ⟨rfl,hb9⟩;clear cc hrow8;have hba : Below w9.heap.size w9 (w9.alloc (.cells (idC D2) 24)):=(Below.refl _ _).alloc (Nat.le_refl _) _;have hbz : Below V8.heap.size V8 (w9.alloc (.cells (idC D2) 24)):=bel2 hb9 hba;have hIl : (idsH R).length = R.length:=by simp [idsH]
          go_upto_region 26 with fail
          obtain ⟨Z,hZ⟩ : ∃ Z,Z = w9.alloc (.cells (idC D2) 24):=⟨_,rfl⟩
          rw [← hZ] at hbz ⊢;clear hZ hba hb9;have hIz : TagsIn Z (some ⟨q1,0,none⟩) R'.length (idsH R):=by rw [hRl];exact SlR.below ho78.slr hbz
          have hRz : HsIn Z (some ⟨qm,0,none⟩) R'.length R':=by rw [hRl];exact SlR.below ho8.slr hbz
          have hfz : ∀ x ∈ R',HdFit Z x:=fun x hx=>(hff x hx).below hbz;have hbZ : Below W.heap.size W Z:=bel2 hb8 hbz;have cr:=rau_headers Z _ _ c1 capm (idsH R) R' hIz (by omega) hRz (by omega) hfz;have ca:=fun w0 (hb0 : Below Z.heap.size Z w0)=>au_headers w0 _ _ c1 capm (idsH R) R' (SlR.below hIz hb0) (SlR.below hRz hb0) (by omega) ((hv1.below hbZ).below hb0) (fun x hx=>(hfz x hx).below hb0);have htf : E ≠ 0 → 0 < (fndN ((idsH R).zip R') R'.length).length:=fun h=>turned_found R' (idsH R) (by omega) s (by omega) (by rw [HRs.out,HE.out];exact h);have hGl:=fndN_len ((idsH R).zip R') R'.length;obtain ⟨G,hG⟩ : ∃ G,fndN ((idsH R).zip R') R'.length = G:=⟨_,rfl⟩
          rw [hG] at cr htf hGl;simp only [hG] at ca;rw [hRl] at cr hGl;simp only [hRl] at ca;have Htf:=Lib.hid htf;clear hG htf hIz hRz hfz hff ho78 ho8 hbz;(go_wp2_with fail);refine cr.mono ?_;rintro e w10 ⟨Ar,cr',rfl,hor,hb10⟩;have hG1 : FnIn w10 Ar G:=hor.slr;have ca1:=ca w10 hb10;clear cr ca hor;(go_wp2_with fail);refine ca1.mono ?_;rintro e w11 ⟨Aa,ca',rfl,hoa,hb11⟩;have hG2 : FnIn w11 Aa G:=hoa.slr;have cs:=au_same w11 Aa Ar ca' cr' G hG2 (SlR.below hG1 hb11) (by omega);clear ca1 hoa;(go_wp2_with fail);refine cs.mono ?_;rintro e w12 ⟨rfl,hb12⟩;clear cs;have hbF:=bel2 (bel2 (bel2 hbZ hb10) hb11) hb12;have hvF:=hv1.below hbF;have hbF2:=bel2 hB0 hbF;by_cases h00 : E = 0
          · have e0 : (E == 0) = true:=by simpa using h00
            (go_wp2_with fail);refine (au_awake w12 hvF).mono ?_;rintro e w9 ⟨rfl,hb9⟩;(go_wp2_with fail);go_ret;exact ⟨rfl,bel2 hbF2 hb9⟩
          · have e0 : (E == 0) = false:=by simpa using h00
            have e1 : (0 : Int) < (G.length : Int):=by have:=Htf.out h00;omega
            (go_wp2_with fail);refine (au_awake w12 hvF).mono ?_;rintro e w9 ⟨rfl,hb9⟩;(go_wp2_with fail);go_ret;exact ⟨rfl,bel2 hbF2 hb9⟩
end
end Go.Proofs.YtgedpfebepdcmaaGreatDoor
