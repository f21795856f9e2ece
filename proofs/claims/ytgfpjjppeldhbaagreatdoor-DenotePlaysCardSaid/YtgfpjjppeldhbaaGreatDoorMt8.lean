/- Part 8 of the texts that lead to this claim: the walks of the functions and the plain law, in order. -/
import Derived.Test.YtgfpjjppeldhbaaGreatDoorMt7
import Derived.Test.YtgfpjjppeldhbaaGreatDoorLayGrowA
import Derived.WideKeyEntry
import Derived.RangeFuncNested
import Derived.RangeFuncBound
import Derived.RangeFuncCalls
import Derived.RangeFuncLeaves
import Derived.Shelf.Abstract
import Derived.Shelf.RegionOpen
import Derived.WalkKit
import Derived.OwnWalkIn
import Derived.TacticsInMore
import Derived.LoopNIn
import Derived.LoopIn
namespace Go.Proofs.YtgfpjjppeldhbaaGreatDoor
section
open Go.RowKit Stb
structure ActsAt (w : World) (B : Nat) (A : Option Addr) (n cap : Nat) (L : List ActM) : Prop where
  own : Own w B 139 70 A n cap (L.map actR)
  refs : ∀ a ∈ L,RefsAt w a ∧ ∀ x ∈ blk a.A,x < w.heap.size ∧ x ∉ blk A
theorem ActsAt.below {w w' : World} {B : Nat} {A : Option Addr} {n cap : Nat} {L : List ActM} (h : ActsAt w B A n cap L) (hb : Below w.heap.size w w') : ActsAt w' B A n cap L :=
  ⟨h.own.below hb,fun a ha=>⟨(h.refs a ha).1.below hb,fun x hx=>⟨Nat.lt_of_lt_of_le ((h.refs a ha).2 x hx).1 hb.size,((h.refs a ha).2 x hx).2⟩⟩⟩
theorem ActsAt.mono {w : World} {B B' : Nat} {A : Option Addr} {n cap : Nat} {L : List ActM} (h : ActsAt w B A n cap L) (hB : B' ≤ B) : ActsAt w B' A n cap L:=⟨h.own.mono hB,h.refs⟩
set_option maxRecDepth 100000 in
set_option maxHeartbeats 4000000 in
theorem acts_any (t : ByteArray) (A : Option Addr) (n cap : Nat) (R : List MarkV) (w : World) (hm : MarksIn w A n R) (hn : n ≤ 1000) (ho : (onceM R).length ≤ 30) (hs : ∀ m ∈ R,m.body.size ≤ 600) (hp : PartsVar w) :
    Calls Tryz.prog 44 #[.int .i64 (kindB t),.slice A n cap] w fun e w'=>∃ A' cap' L,e = .returned (.slice A' L.length cap') ∧ ActsAt w' w.heap.size A' L.length cap' L ∧ L.map ActM.m = fitM t R ∧ Below w.heap.size w w':=by
  have c1:=sorted_any A n cap R w hm hn ho;have hSl : (srtM R).length ≤ 30:=by rw [srtM_len];exact ho
  have hSs : ∀ m ∈ srtM R,m.body.size ≤ 600:=fun m h=>hs m (srtM_sub R m h);have hF : fitM t R = (srtM R).filter fun m=>decide (fits t m):=rfl;obtain ⟨S,hS⟩ : ∃ S,srtM R = S:=⟨_,rfl⟩
  rw [hS] at c1 hSl hSs hF;rw [hF];obtain ⟨K,hK⟩ : ∃ K,kindB t = K:=⟨_,rfl⟩
  have HK:=Lib.hid hK;rw [hK];clear hS hF hs hm hK;go_enter Tryz.func44,Tryz.ntmps44
  (go_wp2_with fail);refine c1.mono ?_;rintro e w1 ⟨A1,cap1,rfl,hown,hb1⟩;have hp1:=hp.below hb1;have hSlr : MarksIn w1 A1 S.length S:=hown.slr;clear c1 hown hp;(go_wp2_with fail);go_loopw [5,13] (fun out iv wr=>∃ (k : Nat) (A2 : Option Addr) (cap2 : Nat) (L : List ActM),k ≤ S.length ∧ iv = .int .i64 k ∧ out = .slice A2 L.length cap2 ∧ ActsAt wr w1.heap.size A2 L.length cap2 L ∧ Hid (L.map ActM.m = (S.take k).filter fun m=>decide (fits t m)) ∧ L.length ≤ k ∧ Below w1.heap.size w1 wr) (fun _ iv _=>S.length - (intOf iv).toNat)
  case atStart=>exact ⟨0,none,0,[],Nat.zero_le _,rfl,rfl,⟨Own.nil _ _ _ _,by simp⟩,(show _ = _ by simp),Nat.le_refl _,Below.refl _ _⟩
  case round =>
    obtain ⟨k,A2,cap2,L,hk,rfl,rfl,hacts,hL,hlk,hb⟩:=hrel;by_cases hlt : k < S.length
    · obtain ⟨q,o,rfl,hrow,_,_⟩:=MarksIn.get (SlR.below hSlr hb) hlt hlt;have htk : (S.take (k + 1)).filter (fun m=>decide (fits t m)) = (S.take k).filter (fun m=>decide (fits t m)) ++ if fits t (S[k]'hlt) then [S[k]'hlt] else []:=by
        rw [List.take_succ_eq_append_getElem hlt,List.filter_append];congr 1
        by_cases h : fits t (S[k]'hlt)
        · rw [if_pos h];simp [h]
        · rw [if_neg h];simp [h]
      have hbs:=hSs _ (List.getElem_mem hlt);obtain ⟨m,hmm⟩ : ∃ m,S[k]'hlt = m:=⟨_,rfl⟩
      rw [hmm] at hrow htk hbs;have Htk:=Lib.hid htk;clear hmm htk;have hfit : fits t m ↔ opE m.body.data.toList = 0 ∧ belongs (opO m.body.data.toList).k = K:=by unfold fits;rw [HK.out]
      have hb0 : Below wr.heap.size wr (wr.alloc (.cells (markVC m) 41)):=(Below.refl _ _).alloc (Nat.le_refl _) _;have hr0 : rowAt (wr.alloc (.cells (markVC m) 41)) wr.heap.size 0 34 = some (markVC m):=by simp [go_sem]
      have hp0 : PartsVar (wr.alloc (.cells (markVC m) 41)):=(hp1.below hb).below hb0;have ha0:=hacts.below hb0;have hw0 : Below w1.heap.size w1 (wr.alloc (.cells (markVC m) 41)):=hb.trans (hb0.mono hb.size);go_upto_region 5 with fail
      obtain ⟨gx,hgx⟩ : ∃ gx,wr.heap.size = gx:=⟨_,rfl⟩
      obtain ⟨W0,hW0⟩ : ∃ W0,W0 = wr.alloc (.cells (markVC m) 41):=⟨_,rfl⟩
      rw [← hW0] at hr0 hp0 ha0 hw0 ⊢;rw [hgx] at hr0 ⊢;clear hW0 hgx hb0 hacts hb hrow;have hbd : W0.cell? ⟨gx,33,none⟩ = some (.string m.body):=by have:=rowAt_cell hr0 (j:=33) (by omega);rwa [markVC_g33,Nat.zero_add] at this
      have cop:=op_Of m.body W0 hp0 (by omega);obtain ⟨l,hl⟩ : ∃ l,m.body.data.toList = l:=⟨_,rfl⟩
      have Hl:=Lib.hid hl;rw [hl] at cop hfit;obtain ⟨E,hE⟩ : ∃ E,opE l = E:=⟨_,rfl⟩
      have HE:=Lib.hid hE;rw [hE] at hfit;have Hfit:=Lib.hid hfit;clear hl hfit;(go_wp2_with fail);refine cop.mono ?_;rintro en w3 ⟨V,rfl,hok,hbad,hb3⟩;rw [hE] at hok hbad ⊢;have hr3 : rowAt w3 gx 0 34 = some (markVC m):=(rowAt_of_block (hb3.block gx (rowAt_lt hr0)) _ _).trans hr0;have ha3:=ha0.below hb3;have hw3:=hw0.trans (hb3.mono hw0.size);have HA2 : Hid (∀ x ∈ blk A2,x < W0.heap.size):=fun x hx=>(ha0.own.at_base hx).2;clear cop hb3 ha0 hr0 hbd;by_cases h0 : E = 0
      · subst h0;obtain ⟨A3,c3,rfl,hown⟩:=hok rfl;have hA3 : ∀ x ∈ blk A3,x < w3.heap.size ∧ x ∉ blk A2:=fun x hx=>⟨(hown.at_base hx).2,fun hm=>by have h1:=(hown.at_base hx).1;have h2:=HA2.out x hm;omega⟩;have hoo:=opO_ok l hE;have href : TagsIn w3 A3 (opO l).refs.length (opO l).refs:=hown.slr;obtain ⟨x,hx⟩ : ∃ x : OpP,(⟨(opO l).k,(opO l).n,(opO l).key,(opO l).val,(opO l).ref,.slice A3 (opO l).refs.length c3⟩ : OpP) = x:=⟨_,rfl⟩
        have cb:=fun W=>op_belongs (opO l).k W (by have:=hoo.2.2.1;omega);have hact : (⟨m,A3,c3⟩ : ActM) = ⟨m,A3,c3⟩:=rfl;have hrow : actR ⟨m,A3,c3⟩ = dAC ⟨(opO l).k,(opO l).n,(opO l).key,(opO l).val,(opO l).ref,.slice A3 (opO l).refs.length c3⟩ m.id m.h:=by unfold actR opM oOf;dsimp only;rw [Hl.out]
        have hrf : RefsAt w3 ⟨m,A3,c3⟩:=by unfold RefsAt oOf;dsimp only;rw [Hl.out];exact href
        have hfit' : fits t m ↔ belongs (opO l).k = K:=by rw [Hfit.out];exact ⟨fun h=>h.2,fun h=>⟨rfl,h⟩⟩
        have HA3:=Lib.hid hA3;clear hok hbad hown hE href hx Hfit hact hA3;unfold opC;obtain ⟨o1,ho1⟩ : ∃ o1,opO l = o1:=⟨_,rfl⟩
        rw [ho1] at cb hrow hfit' ⊢;clear ho1 hoo;obtain ⟨B1,hB1⟩ : ∃ B1,belongs o1.k = B1:=⟨_,rfl⟩
        rw [hB1] at cb hfit';have Hfit:=Lib.hid hfit';have Hrow:=Lib.hid hrow;clear hB1 hfit' hrow;have hb4 : Below w3.heap.size w3 (w3.alloc (.cells (opPC ⟨o1.k,o1.n,o1.key,o1.val,o1.ref,.slice A3 o1.refs.length c3⟩) 52)):=(Below.refl _ _).alloc (Nat.le_refl _) _;have hr4 : rowAt (w3.alloc (.cells (opPC ⟨o1.k,o1.n,o1.key,o1.val,o1.ref,.slice A3 o1.refs.length c3⟩) 52)) gx 0 34 = some (markVC m):=(rowAt_of_block (hb4.block gx (rowAt_lt hr3)) _ _).trans hr3;have hro4 : rowAt (w3.alloc (.cells (opPC ⟨o1.k,o1.n,o1.key,o1.val,o1.ref,.slice A3 o1.refs.length c3⟩) 52)) w3.heap.size 0 37 = some (opPC ⟨o1.k,o1.n,o1.key,o1.val,o1.ref,.slice A3 o1.refs.length c3⟩):=by simp [go_sem]
        have ha4:=ha3.below hb4;have hrf4:=hrf.below hb4;have hw4:=hw3.trans (hb4.mono hw3.size);have hz4 : w3.heap.size < (w3.alloc (.cells (opPC ⟨o1.k,o1.n,o1.key,o1.val,o1.ref,.slice A3 o1.refs.length c3⟩) 52)).heap.size:=by simp
        go_upto_region 6 with fail
        obtain ⟨go,hgo⟩ : ∃ go,w3.heap.size = go:=⟨_,rfl⟩
        have Hgo:=Lib.hid hgo;obtain ⟨W4,hW4⟩ : ∃ W4,W4 = (w3.alloc (.cells (opPC ⟨o1.k,o1.n,o1.key,o1.val,o1.ref,.slice A3 o1.refs.length c3⟩) 52)):=⟨_,rfl⟩
        rw [← hW4] at hr4 hro4 ha4 hrf4 hw4 hz4 ⊢;rw [hgo] at hro4 hz4 ⊢;clear hW4 hgo hb4 hr3 ha3 hrf hw3;have hcK:=rowAt_cell hro4 (j:=0) (by omega);rw [opPC_g0,Nat.zero_add] at hcK;change W4.cell? _ = some (.int .i64 (o1.k : Int)) at hcK;have cb1:=cb W4;clear cb;obtain ⟨bb,hbb⟩ : ∃ bb : Bool,(B1 == K) = bb:=⟨_,rfl⟩
        have Hbb:=Lib.hid hbb;(go_wp2_with fail);refine cb1.mono ?_;rintro e w5 ⟨rfl,rfl⟩;clear cb1;have hid : rowAt W4 gx 0 32 = some (idC m.id):=by have:=rowAt_sub hr4 (j:=0) (m:=32) (by omega);rwa [markVC_e0] at this
        have hht : W4.cell? ⟨gx,32,none⟩ = some (.int .i64 m.h):=by have:=rowAt_cell hr4 (j:=32) (by omega);rwa [markVC_g32,Nat.zero_add] at this
        have hLl : L.length ≤ 30:=by omega
        cases bb with
        | true =>
          have hft : fits t m:=Hfit.out.2 (by simpa using Hbb.out);have htk:=Htk.out;rw [if_pos hft] at htk;have Htk2:=Lib.hid htk;clear htk hft;have hbx : Below W4.heap.size W4 (W4.alloc (.cells (dAC ⟨o1.k,o1.n,o1.key,o1.val,o1.ref,.slice A3 o1.refs.length c3⟩ m.id m.h) 139)):=(Below.refl _ _).alloc (Nat.le_refl _) _;have hown1:=ha4.own.below hbx;have hrow2 : rowAt (W4.alloc (.cells (dAC ⟨o1.k,o1.n,o1.key,o1.val,o1.ref,.slice A3 o1.refs.length c3⟩ m.id m.h) 139)) W4.heap.size 0 70 = some (dAC ⟨o1.k,o1.n,o1.key,o1.val,o1.ref,.slice A3 o1.refs.length c3⟩ m.id m.h):=by simp [go_sem]
          have hws:=hw4.size;have hb1s:=hb1.size;have hxs : W4.heap.size < (W4.alloc (.cells (dAC ⟨o1.k,o1.n,o1.key,o1.val,o1.ref,.slice A3 o1.refs.length c3⟩ m.id m.h) 139)).heap.size:=by simp
          go_upto_region 8 with (at_builtin;refine L_append einfoAct rfl hown1 rfl hrow2 (dAC_one _ _ _ rfl) (by omega) (by omega) (by omega) ?_;intro A6 cap6 w6 hown6 hk6 hsub6)
          have hkb : ∀ x ∈ blk A2,w1.heap.size ≤ x:=fun x hx=>(ha4.own.at_base hx).1;have hb6 : Below w1.heap.size w1 w6:=(hw4.trans (hbx.mono hws)).trans (hk6.below (by omega) hkb);have hz6:=hk6.size;have hacts6 : ActsAt w6 w1.heap.size A6 (L ++ [(⟨m,A3,c3⟩ : ActM)]).length cap6 (L ++ [(⟨m,A3,c3⟩ : ActM)]):=by
            refine ⟨by simpa [Hrow.out] using hown6,fun a ha=>?_⟩;have hold : RefsAt W4 a ∧ ∀ x ∈ blk a.A,x < W4.heap.size ∧ x ∉ blk A2:=by
              rcases List.mem_append.1 ha with ha | ha
              · exact ha4.refs a ha
              · have e : a = (⟨m,A3,c3⟩ : ActM):=by simpa using ha
                subst e;exact ⟨hrf4,fun x hx=>⟨by have:=(HA3.out x hx).1;have:=Hgo.out;omega,(HA3.out x hx).2⟩⟩
            refine ⟨SlR.kept (hold.1.below hbx) hk6 (fun x hx=>(hold.2 x hx).2),fun x hx=>⟨by have:=(hold.2 x hx).1;omega,fun hm=>?_⟩⟩;rcases hsub6 x hm with h1 | h1
            · exact (hold.2 x hx).2 h1
            · have:=(hold.2 x hx).1;omega
          have hL6 : Hid ((L ++ [(⟨m,A3,c3⟩ : ActM)]).map ActM.m = (S.take (k + 1)).filter fun m=>decide (fits t m)):=(show _ = _ by rw [Htk2.out,List.map_append,hL.out];rfl)
          have hle6 : ((L.length : Int) + 1) = ((L ++ [(⟨m,A3,c3⟩ : ActM)]).length : Int):=by simp
          clear hown6 hk6 hsub6 hown1 hrow2 hbx ha4 hw4 hbb;(go_wp2_with fail);go_roundw
          case rel=>exact ⟨k + 1,A6,cap6,L ++ [(⟨m,A3,c3⟩ : ActM)],by omega,by go_num,by simp,hacts6,hL6,by simp;omega,hb6⟩
          case measure=>simp [intOf];omega
        | false =>
          have hft : ¬ fits t m:=fun h=>(by have h1:=Hfit.out.1 h;have h2:=Hbb.out;simp [h1] at h2);have htk:=Htk.out;rw [if_neg hft,List.append_nil] at htk;have Htk2:=Lib.hid htk;clear htk hft;(go_wp2_with fail);go_roundw
          case rel=>exact ⟨k + 1,A2,cap2,L,by omega,by go_num,rfl,ha4,(show _ = _ by rw [Htk2.out];exact hL.out),by omega,hw4⟩
          case measure=>simp [intOf];omega
      · have hft : ¬ fits t m:=fun h=>h0 (Hfit.out.1 h).1;have hV:=hbad h0;subst hV;have htk:=Htk.out;rw [if_neg hft,List.append_nil] at htk;have Htk2:=Lib.hid htk;have hne : (E == 0) = false:=by simpa using h0
        have hb4 : Below w3.heap.size w3 (w3.alloc (.cells (opPC opP0) 52)):=(Below.refl _ _).alloc (Nat.le_refl _) _;have ha4:=ha3.below hb4;have hw4:=hw3.trans (hb4.mono hw3.size);clear htk hft hok hbad hE Hfit h0 ha3 hw3 hr3;(go_wp2_with fail);go_roundw
        case rel=>exact ⟨k + 1,A2,cap2,L,by omega,by go_num,rfl,ha4,(show _ = _ by rw [Htk2.out];exact hL.out),by omega,hw4⟩
        case measure=>simp [intOf];omega
    · have e2 : S.take k = S:=List.take_of_length_le (by omega);have hL2:=hL.out;rw [e2] at hL2;have hb2 : Below w.heap.size w wr:=hb1.trans (hb.mono hb1.size);have hacts2:=hacts.mono (B':=w.heap.size) hb1.size;clear e2 hacts hL hb;(go_wp2_with fail);go_ret;exact ⟨A2,cap2,L,rfl,hacts2,hL2,hb2⟩
end
section
open Go.RowKit Stb
abbrev kM (a : ActM) : Nat:=(oOf a.m).k
theorem of1_any (a : ActM) (k : Int) (g : Nat) (w : World) (hc : w.cell? ⟨g,0,none⟩ = some (.int .i64 k)) :
    Calls Tryz.prog 182 #[.agg (actR a),.pointer (some ⟨g,0,none⟩)] w fun e w'=>e = .returned (.bool (decide ((kM a : Int) = k))) ∧ Below w.heap.size w w':=by
  have hb : Below w.heap.size w (w.alloc (.cells (actR a) 139)):=(Below.refl _ _).alloc (Nat.le_refl _) _;have hc1:=(hb.cell (p:=⟨g,0,none⟩) (World.block_lt_of_cell? w _ hc)).trans hc;go_enter Tryz.func182,Tryz.ntmps182
  (go_wp2_with fail);go_ret;exact ⟨ret_bool (by simp [BEq.beq]),hb⟩
set_option maxRecDepth 100000 in
set_option maxHeartbeats 4000000 in
theorem some_of (k : Int) (g : Nat) (A : Option Addr) (n cap : Nat) (L : List ActM) (B : Nat) (w : World) (ha : ActsAt w B A n cap L) (hn : n ≤ 30) (hc : w.cell? ⟨g,0,none⟩ = some (.int .i64 k)) :
    Calls Tryz.prog 181 #[.slice A n cap,.func (.func 182) #[] #[.pointer (some ⟨g,0,none⟩)]] w fun e w'=>∃ A' cap',e = .returned (.slice A' (L.filter fun a=>decide ((kM a : Int) = k)).length cap') ∧ ActsAt w' w.heap.size A' (L.filter fun a=>decide ((kM a : Int) = k)).length cap' (L.filter fun a=>decide ((kM a : Int) = k)) ∧ Below w.heap.size w w':=by
  have hlen : L.length = n:=by simpa using ha.own.len
  have hgl:=World.block_lt_of_cell? w _ hc;go_enter Tryz.func181,Tryz.ntmps181
  (go_wp2_with fail);go_loopw [5,10] (fun out iv wr=>∃ (i : Nat) (A2 : Option Addr) (cap2 : Nat),i ≤ n ∧ iv = .int .i64 i ∧ out = .slice A2 ((L.take i).filter fun a=>decide ((kM a : Int) = k)).length cap2 ∧ ActsAt wr w.heap.size A2 ((L.take i).filter fun a=>decide ((kM a : Int) = k)).length cap2 ((L.take i).filter fun a=>decide ((kM a : Int) = k)) ∧ Below w.heap.size w wr) (fun _ iv _=>n - (intOf iv).toNat)
  case atStart=>exact ⟨0,none,0,Nat.zero_le _,rfl,rfl,⟨Own.nil _ _ _ _,by simp⟩,Below.refl _ _⟩
  case round =>
    obtain ⟨i,A2,cap2,hi,rfl,rfl,hacts,hb⟩:=hrel;by_cases hlt : i < n
    · have hLr:=(ha.below hb)
      obtain ⟨q,o,rfl,hrow⟩:=ActsIn.get hLr.own.slr hlt (by omega);have htk : (L.take (i + 1)).filter (fun a=>decide ((kM a : Int) = k)) = (L.take i).filter (fun a=>decide ((kM a : Int) = k)) ++ if (kM (L[i]'(by omega)) : Int) = k then [L[i]'(by omega)] else []:=by
        rw [List.take_succ_eq_append_getElem (by omega),List.filter_append];congr 1
        by_cases h : (kM (L[i]'(by omega)) : Int) = k
        · rw [if_pos h];simp [h]
        · rw [if_neg h];simp [h]
      obtain ⟨a,haa⟩ : ∃ a,L[i]'(by omega) = a:=⟨_,rfl⟩
      have hraf:=hLr.refs _ (List.getElem_mem (l:=L) (n:=i) (by omega));have hraw:=(ha.refs _ (List.getElem_mem (l:=L) (n:=i) (by omega))).2;rw [haa] at hrow htk hraf hraw;have Htk:=Lib.hid htk;have hP : ((L.take i).filter fun a=>decide ((kM a : Int) = k)).length ≤ 30:=Nat.le_trans (List.length_filter_le _ _) (by rw [List.length_take];omega);obtain ⟨P,hPe⟩ : ∃ P,((L.take i).filter fun a=>decide ((kM a : Int) = k)) = P:=⟨_,rfl⟩
      rw [hPe] at hP hacts Htk ⊢;have hb0 : Below wr.heap.size wr (wr.alloc (.cells (actR a) 139)):=(Below.refl _ _).alloc (Nat.le_refl _) _;have hr0 : rowAt (wr.alloc (.cells (actR a) 139)) wr.heap.size 0 70 = some (actR a):=by simp [go_sem]
      have hc0 : (wr.alloc (.cells (actR a) 139)).cell? ⟨g,0,none⟩ = some (.int .i64 k):=((hb.trans (hb0.mono hb.size)).cell (p:=⟨g,0,none⟩) hgl).trans hc;have ha0:=hacts.below hb0;have hw0 : Below w.heap.size w (wr.alloc (.cells (actR a) 139)):=hb.trans (hb0.mono hb.size);have hraf0 : RefsAt (wr.alloc (.cells (actR a) 139)) a:=hraf.1.below hb0;have hz0 : wr.heap.size < (wr.alloc (.cells (actR a) 139)).heap.size:=by simp
      clear haa hPe htk hLr hacts;go_upto_region 5 with fail
      obtain ⟨gx,hgx⟩ : ∃ gx,wr.heap.size = gx:=⟨_,rfl⟩
      obtain ⟨W0,hW0⟩ : ∃ W0,W0 = wr.alloc (.cells (actR a) 139):=⟨_,rfl⟩
      rw [← hW0] at hr0 hc0 ha0 hw0 hraf0 hz0 ⊢;have hbk : ∀ x ∈ blk a.A,x < W0.heap.size ∧ x ∉ blk A2:=fun x hx=>⟨by have:=(hraf.2 x hx).1;omega,fun hm=>by have h1:=(hraw x hx).1;have h2:=(ha0.own.at_base hm).1;omega⟩;rw [hgx] at hr0 hz0 ⊢;have c1:=of1_any a k g W0 hc0;clear hW0 hgx hb0 hb hrow;obtain ⟨bb,hbb⟩ : ∃ bb : Bool,decide ((kM a : Int) = k) = bb:=⟨_,rfl⟩
      rw [hbb] at c1;have Hbb:=Lib.hid hbb;have Hbk:=Lib.hid hbk;clear hbb hraw hraf hbk;(go_wp2_with fail);refine c1.mono ?_;rintro e W1 ⟨rfl,hb1⟩;have hr1 : rowAt W1 gx 0 70 = some (actR a):=(rowAt_of_block (hb1.block gx hz0) _ _).trans hr0;have ha1:=ha0.below hb1;have hw1:=hw0.trans (hb1.mono hw0.size);have hraf1:=hraf0.below hb1;have hz1:=hb1.size;clear c1 hb1 hr0 ha0 hw0 hraf0;cases bb with
      | true =>
        have htk:=Htk.out;rw [if_pos (of_decide_eq_true Hbb.out)] at htk;have Htk2:=Lib.hid htk;clear htk;have hbx : Below W1.heap.size W1 (W1.alloc (.cells (actR a) 139)):=(Below.refl _ _).alloc (Nat.le_refl _) _;have hown1:=ha1.own.below hbx;have hrow2 : rowAt (W1.alloc (.cells (actR a) 139)) W1.heap.size 0 70 = some (actR a):=by simp [go_sem]
        have hws:=hw1.size;have hxs : W1.heap.size < (W1.alloc (.cells (actR a) 139)).heap.size:=by simp
        go_upto_region 7 with (at_builtin;refine L_append einfoAct rfl hown1 rfl hrow2 (actR_one _) (by omega) (by omega) (by omega) ?_;intro A6 cap6 w6 hown6 hk6 hsub6)
        have hkb : ∀ x ∈ blk A2,w.heap.size ≤ x:=fun x hx=>(ha1.own.at_base hx).1;have hb6 : Below w.heap.size w w6:=(hw1.trans (hbx.mono hws)).trans (hk6.below (by omega) hkb);have hacts6 : ActsAt w6 w.heap.size A6 (P ++ [a]).length cap6 (P ++ [a]):=by
          have hz6:=hk6.size;refine ⟨by simpa using hown6,fun y hy=>?_⟩;have hold : RefsAt W1 y ∧ ∀ x ∈ blk y.A,x < W1.heap.size ∧ x ∉ blk A2:=by
            rcases List.mem_append.1 hy with hy | hy
            · exact ha1.refs y hy
            · have e : y = a:=by simpa using hy
              subst e;exact ⟨hraf1,fun x hx=>⟨by have:=(Hbk.out x hx).1;omega,(Hbk.out x hx).2⟩⟩
          refine ⟨SlR.kept (hold.1.below hbx) hk6 (fun x hx=>(hold.2 x hx).2),fun x hx=>⟨by have:=(hold.2 x hx).1;omega,fun hm=>?_⟩⟩;rcases hsub6 x hm with h1 | h1
          · exact (hold.2 x hx).2 h1
          · have:=(hold.2 x hx).1;omega
        clear hown6 hk6 hsub6 hown1 hrow2 hbx ha1 hw1;(go_wp2_with fail);go_roundw
        case rel=>exact ⟨i + 1,A6,cap6,by omega,by go_num,by rw [Htk2.out];simp,by rw [Htk2.out];exact hacts6,hb6⟩
        case measure=>simp [intOf];omega
      | false =>
        have htk:=Htk.out;rw [if_neg (of_decide_eq_false Hbb.out),List.append_nil] at htk;have Htk2:=Lib.hid htk;clear htk;(go_wp2_with fail);go_roundw
        case rel=>exact ⟨i + 1,A2,cap2,by omega,by go_num,by rw [Htk2.out],by rw [Htk2.out];exact ha1,hw1⟩
        case measure=>simp [intOf];omega
    · have e2 : L.take i = L:=List.take_of_length_le (by omega);rw [e2] at hacts ⊢;clear e2;(go_wp2_with fail);go_ret;exact ⟨A2,cap2,rfl,hacts,hb⟩
theorem of_any (k : Int) (A : Option Addr) (n cap : Nat) (L : List ActM) (B : Nat) (w : World) (ha : ActsAt w B A n cap L) (hn : n ≤ 30) :
    Calls Tryz.prog 103 #[.slice A n cap,.int .i64 k] w fun e w'=>∃ A' cap',e = .returned (.slice A' (L.filter fun a=>decide ((kM a : Int) = k)).length cap') ∧ ActsAt w' w.heap.size A' (L.filter fun a=>decide ((kM a : Int) = k)).length cap' (L.filter fun a=>decide ((kM a : Int) = k)) ∧ Below w.heap.size w w':=by
  have hb : Below w.heap.size w (w.alloc (.cells #[.int .i64 k] 3)):=(Below.refl _ _).alloc (Nat.le_refl _) _;have c1:=some_of k w.heap.size A n cap L B (w.alloc (.cells #[.int .i64 k] 3)) (ha.below hb) hn (by simp [go_sem]);go_enter Tryz.func103,Tryz.ntmps103
  (go_wp2_with fail);refine c1.mono ?_;rintro e w1 ⟨A',cap',rfl,h1,hb1⟩;have hbb:=bel2 hb hb1;have h2:=h1.mono (B':=w.heap.size) hb.size;clear c1 h1 hb1 hb;(go_wp2_with fail);go_ret;exact ⟨A',cap',rfl,h2,hbb⟩
theorem total_any (A : Option Addr) (n cap : Nat) (L : List ActM) (B : Nat) (w : World) (ha : ActsAt w B A n cap L) (hn : n ≤ 30) (hlo : ∀ a ∈ L,-2147483648 ≤ (oOf a.m).n ∧ (oOf a.m).n < 2147483648) :
    Calls Tryz.prog 45 #[.slice A n cap] w fun e w'=>e = .returned (.int .i64 (sumD (L.map ActM.m))) ∧ Below w.heap.size w w':=by
  have hlen : L.length = n:=by simpa using ha.own.len
  go_enter Tryz.func45,Tryz.ntmps45
  (go_wp2_with fail);go_loopw [3,8] (fun s iv wr=>∃ i : Nat,i ≤ n ∧ iv = .int .i64 i ∧ s = .int .i64 (sumD ((L.take i).map ActM.m)) ∧ Below w.heap.size w wr) (fun _ iv _=>n - (intOf iv).toNat)
  case atStart=>exact ⟨0,Nat.zero_le _,rfl,rfl,Below.refl _ _⟩
  case round =>
    obtain ⟨i,hi,rfl,rfl,hb⟩:=hrel;by_cases hlt : i < n
    · obtain ⟨q,o,rfl,hrow⟩:=ActsIn.get (ha.below hb).own.slr hlt (by omega);have htk : sumD ((L.take (i + 1)).map ActM.m) = wrap64 (sumD ((L.take i).map ActM.m) + (oOf (L[i]'(by omega)).m).n):=by
        rw [List.map_take,List.map_take,sumD_take _ _ (by simp;omega)];simp
      have hl:=hlo _ (List.getElem_mem (l:=L) (n:=i) (by omega));obtain ⟨a,haa⟩ : ∃ a,L[i]'(by omega) = a:=⟨_,rfl⟩
      rw [haa] at hrow htk hl;obtain ⟨s,hs⟩ : ∃ s,sumD ((L.take i).map ActM.m) = s:=⟨_,rfl⟩
      rw [hs] at htk ⊢;have Htk:=Lib.hid htk;have hb0 : Below w.heap.size w (wr.alloc (.cells (actR a) 139)):=hb.alloc hb.size _;clear haa hs htk;(go_wp2_with fail);go_roundw
      case rel=>exact ⟨i + 1,by omega,by go_num,by rw [Htk.out],hb0⟩
      case measure=>simp [intOf];omega
    · have e2 : L.take i = L:=List.take_of_length_le (by omega);rw [e2];clear e2;(go_wp2_with fail);go_ret;exact ⟨rfl,hb⟩
end
section
open Go.RowKit Go.Sort Go.Shelf
set_option maxHeartbeats 1000000 in
theorem dpcmp (x y : Pair) (w : World) : Calls Tryz.prog 186 #[.agg (pairC x),.agg (pairC y)] w fun e w'=>e = .returned (.int .i64 (cmpPair x y)) ∧ Gr w w':=by
  go_enter Tryz.func186,Tryz.ntmps186
  go_upto_region 1 with fail
  obtain ⟨W,hW⟩ : ∃ W,W = (w.alloc (.cells (pairC x) 98)).alloc (.cells (pairC y) 98):=⟨_,rfl⟩
  have hB : Gr w W:=by rw [hW];exact ((Gr.refl _).alloc _).alloc _
  have a3 : W.cell? ⟨w.heap.size,0,none⟩ = some (.string x.key):=by rw [hW];simp [go_sem]
  have a4 : W.cell? ⟨w.heap.size + 1,0,none⟩ = some (.string y.key):=by rw [hW];simp [go_sem]
  have a5 : W.cell? ⟨w.heap.size,1,none⟩ = some (.string x.val):=by rw [hW];simp [go_sem]
  have a6 : W.cell? ⟨w.heap.size + 1,1,none⟩ = some (.string y.val):=by rw [hW];simp [go_sem]
  rw [← hW];clear hW;refine wp_region_lex (Gr W) false (by kernel_rfl) (by kernel_rfl) (by kernel_rfl) (Gr.drew W) ?_;have hne:=gr_some W;have hS:=Gr.drew W;have b3:=gsub_cell a3;have b4:=gsub_cell a4;have b5:=gsub_cell a5;have b6:=gsub_cell a6;repeat (refine wpLx_loose ?_ ?_;(focus (simp only [chainOp];done));intro K hK;go_simp;refine hK _ ?_;clear hK K)
  refine wpLx_chain ?_ ?_ ?_;(focus (exact hS));(focus (simp only [chainOp];done));intro K hK;go_simp;refine (cmp_str _ _ _).mono ?_;rintro e w' ⟨rfl,rfl⟩;refine ⟨_,rfl,hS,hK _ _ ?_⟩;clear hK K;repeat (refine wpLx_loose ?_ ?_;(focus (simp only [chainOp];done));intro K hK;go_simp;refine hK _ ?_;clear hK K)
  refine wpLx_chain ?_ ?_ ?_;(focus (exact hS));(focus (simp only [chainOp];done));intro K hK;go_simp;refine (cmp_str _ _ _).mono ?_;rintro e w' ⟨rfl,rfl⟩;refine ⟨_,rfl,hS,hK _ _ ?_⟩;clear hK K;refine wpLx_chain ?_ ?_ ?_;(focus (exact hS));(focus (simp only [chainOp];done));intro K hK;go_simp;refine step_keep (Gr.alloc hS _) (fun hS=>?_);refine hK _ _ ?_;clear hK K;refine wpLx_chain ?_ ?_ ?_;(focus (exact hS));(focus (simp only [chainOp];done));intro K hK;go_simp;refine (or_any W.heap.size 2 [cmpS x.key y.key,cmpS x.val y.val] (by simp) (W.alloc (.cells #[.int .i64 (cmpS x.key y.key),.int .i64 (cmpS x.val y.val)] 3)).drew (or2_cells W _ _)).mono ?_;rintro e w' ⟨rfl,rfl⟩;refine ⟨_,rfl,hS,hK _ _ ?_⟩;clear hK K;repeat (refine wpLx_loose ?_ ?_;(focus (simp only [chainOp];done));intro K hK;go_simp;refine hK _ ?_;clear hK K)
  refine wpLx_nil ?_;intro hS;(go_wp2_with fail);go_ret;exact ⟨rfl,hB.trans hS⟩
theorem dsort_pairs (w : World) (B : Nat) (A : Option Addr) (n cap : Nat) (S : List Pair) (hown : Own w B 98 2 A n cap (S.map pairC)) (hn : S.length ≤ 1000000) :
    Calls Tryz.prog 128 #[.slice A n cap,.func (.func 186) #[] #[]] w fun e w'=>e = .returned (.tuple #[]) ∧ Own w' B 98 2 A n cap ((psort S).map pairC) ∧ Keep (blk A) w w':=by
  have hl : S.length = n:=by simpa using hown.len
  rcases hown.addr with rfl | ⟨g,rfl⟩
  · have hn0 : n = 0:=(hown.cap_le.2 rfl).1;subst hn0;have hS : S = []:=List.eq_nil_of_length_eq_zero hl;subst hS;refine (AnyF.slices_SortFunc_none Tryz.laySortPair none cap (.func (.func 186) #[] #[]) w).mono ?_;rintro e w' ⟨rfl,rfl⟩;exact ⟨rfl,by simpa [psort] using hown,Keep.refl _ _⟩
  · subst hl;have hH:=own_holds (enc:=pairC) (by omega) pairC_size hown;have hcmp : CmpLays Tryz.prog 186 #[] (fun x : Pair=>(pairC x).toList) 2 cmpPair g 0 S.toArray.size w:=fun m os dk _ x y=>dpcmp x y _;have hgl : g < w.heap.size:=(hown.at_base (x:=g) (by simp [blk])).2;have hcon:=AnyQ.slices_SortFunc_total Tryz.laySortPair 2 isAggPair size_pairs (fun x : Pair=>(pairC x).toList) (by simp) (fun x v hv=>pairC_one x v hv) cmpPair (swo_of totPair) 186 #[] g 0 cap S.toArray w
      (enters_of Tryz.func186 (by kernel_rfl) rfl) hcmp hH hgl (by simp;omega) (fun x y h1 h2=>by
        simp only [ltOf,decide_eq_false_iff_not] at h1 h2;exact Classical.byContradiction fun e=>h2 (totPair.flip h1 e))
    have e1 : S.toArray.size = S.length:=by simp
    rw [e1] at hcon;refine hcon.mono ?_;rintro e w' ⟨rfl,n,os,rfl⟩;have e2 : (S.toArray.toList.mergeSort fun x y=>!(ltOf cmpPair y x)) = psort S:=rfl;rw [e2];obtain ⟨h1,h2⟩:=own_sorted (enc:=pairC) (by omega) pairC_size hown n (psort S) (psort_perm S).length_eq os;exact ⟨rfl,h1,h2.mono (by simp [blk])⟩
theorem dpairs (w : World) (B : Nat) (A : Option Addr) (k cap : Nat) (S : List Pair) (hown : Own w B 98 2 A k cap (S.map pairC)) (hn : k ≤ 1000000) (hB : B ≤ w.heap.size) :
    Calls Tryz.prog 105 #[.slice A k cap] w fun e w'=>∃ A' cap',e = .returned (.slice A' (sortC cmpPair S).length cap') ∧ Own w' B 98 2 A' (sortC cmpPair S).length cap' ((sortC cmpPair S).map pairC) ∧ Below B w w':=by
  have hSl : S.length = k:=by simpa using hown.len
  have hlist : sortC cmpPair S = sortC cmpPair (psort S):=sortC_congr totPair fun z=>(psort_perm S).mem_iff.symm;have Hlist:=Lib.hid hlist;have cs:=dsort_pairs w B A k cap S hown (by omega);clear hlist;go_enter Tryz.func105,Tryz.ntmps105
  (go_wp2_with fail);refine cs.mono ?_;rintro e w2 ⟨rfl,hown2,hk2⟩;have hb2 : Below B w w2:=hk2.below hB fun x hx=>(hown.at_base hx).1;clear cs hk2;rcases hown2.addr with rfl | ⟨q,rfl⟩
  · have hk0 : k = 0:=(hown2.cap_le.2 rfl).1;have hS0 : S = []:=List.eq_nil_of_length_eq_zero (hSl.trans hk0);subst hS0;subst hk0;clear hSl;have cn:=compact_nil w2 cap;(go_wp2_with fail);refine cn.mono ?_;rintro e w3 ⟨rfl,rfl⟩;(go_wp2_with fail);go_ret;exact ⟨none,cap,rfl,by simpa [psort,sortC] using hown2,hb2⟩
  · have cc:=compact_pairs w2 B q k cap (psort S) hown2 (by omega) (psort_le S);(go_wp2_with fail);refine cc.mono ?_;rintro e w3 ⟨rfl,hown3,hk3⟩;have hb3:=hb2.trans (hk3.below (B:=B) (Nat.le_trans hB hb2.size) (by have:=(hown2.at_base (x:=q) (by simp [blk])).1;simp;omega));rw [← Hlist.out] at hown3 ⊢;clear cc hk3 hown2 hown hb2;(go_wp2_with fail);go_ret;exact ⟨_,cap,rfl,hown3,hb3⟩
end
section
open Go.RowKit Stb
@[go_sem] theorem storeAct0_run (w : World) (g : Nat) (hg : g = w.heap.size) (z : Array Value) (hz : z.size = 70) (e : TypeId) : (stS 139 ⟨g,0,none⟩ (.agg (dAC opP0 id0 0))).run Tryz.prog (w.alloc (.cells z e)) = .ok () (w.alloc (.cells (dAC opP0 id0 0) e)) :=
  hg ▸ run_stS_new infoAct w z _ hz (dAC_size _ _ _) (dAC_one _ _ _ rfl)
def actV (a : ActM) : Value:=.agg (actR a)
theorem putL_map (M : List (ByteArray × ActM)) (k : ByteArray) (a : ActM) : (putL M k a).map (fun p=>(p.1,p.2.m)) = putL (M.map fun p=>(p.1,p.2.m)) k a.m:=by
  have hk : (M.map fun p=>(p.1,p.2.m)).map (·.1) = M.map (·.1):=by rw [List.map_map];rfl
  unfold putL;rw [hk];split
  · rw [List.map_map,List.map_map];refine List.map_congr_left fun p _=>?_;simp only [Function.comp_apply];split <;> rfl
  · rw [List.map_append];rfl
abbrev okS (k : ByteArray) : Prop:=k.size ≤ maxLen
abbrev BestA (w : World) (b : Nat) (F : List ActM) (M : List (ByteArray × ActM)) : Prop:=∃ es clk,MapAt w b Value.string actV okS M es clk ∧ BestInv (F.map ActM.m) (M.map fun p=>(p.1,p.2.m))
set_option maxRecDepth 100000 in
set_option maxHeartbeats 4000000 in
theorem dlast (A : Option Addr) (n cap : Nat) (L : List ActM) (B : Nat) (w : World) (h : ActsAt w B A n cap L) (hn : n ≤ 30) (hl : ∀ a ∈ L,(oOf a.m).key.size ≤ 16) (Ps : List Pair) (hPs : ∀ M,BestInv (L.map ActM.m) M → sortC cmpPair (M.map bestP) = Ps) :
    Calls Tryz.prog 47 #[.slice A n cap] w fun e w'=>∃ A' cap',e = .returned (.slice A' Ps.length cap') ∧ Own w' w.heap.size 98 2 A' Ps.length cap' (Ps.map pairC) ∧ Below w.heap.size w w':=by
  have hlen : L.length = n:=by simpa using h.own.len
  have hmm:=@run_makeMap Tryz.prog;have k1:=MapAt.new (kv:=Value.string) (vv:=actV) (ok:=okS) w w.heap.size rfl;have hb0 : Below w.heap.size w (w.alloc (.map #[] 0)):=(Below.refl _ _).alloc (Nat.le_refl _) _;have h0:=(h.below hb0).own;have hAb : ∀ x ∈ blk A,x < w.heap.size:=fun x hx=>(h.own.at_base hx).2;go_enter Tryz.func47,Tryz.ntmps47
  go_upto_region 2 with fail
  obtain ⟨gm,hgm⟩ : ∃ gm,w.heap.size = gm:=⟨_,rfl⟩
  have hgs : (w.alloc (.map #[] 0)).heap.size = gm + 1:=by simp [hgm]
  obtain ⟨W,hW⟩ : ∃ W,w.alloc (.map #[] 0) = W:=⟨_,rfl⟩
  rw [hW] at k1 hb0 hgs h0;rw [hW,hgm];rw [hgm] at k1 hb0 hAb;have Hgm:=Lib.hid hgm;clear hW hgm h;(go_wp2_with fail);go_loopw [14] (fun iv wr=>∃ (i : Nat) (M : List (ByteArray × ActM)),i ≤ n ∧ iv = .int .i64 i ∧ BestA wr gm (L.take i) M ∧ Keep [gm] W wr) (fun iv _=>n - (intOf iv).toNat)
  case atStart=>exact ⟨0,[],Nat.zero_le _,rfl,⟨_,_,k1,best_nil⟩,Keep.refl _ _⟩
  case round =>
    clear k1;obtain ⟨i,M,hi,rfl,⟨es,clk,hmap,hbest⟩,hk⟩:=hrel;by_cases hlt : i < n
    · obtain ⟨q,o,rfl,hrow⟩:=ActsIn.get (h0.kept hk (fun x hx=>by have:=hAb x hx;simp;omega)).slr hlt (by omega);have hkey:=hl _ (List.getElem_mem (l:=L) (n:=i) (by omega));have htk : (L.take (i + 1)).map ActM.m = (L.take i).map ActM.m ++ [(L[i]'(by omega)).m]:=by rw [List.take_succ_eq_append_getElem (by omega),List.map_append];rfl
      obtain ⟨x,hx⟩ : ∃ x,L[i]'(by omega) = x:=⟨_,rfl⟩
      rw [hx] at hrow hkey htk;have Htk:=Lib.hid htk;have Hbest:=Lib.hid hbest;clear hx htk hbest;have hba : Below wr.heap.size wr (wr.alloc (.cells (actR x) 139)):=(Below.refl _ _).alloc (Nat.le_refl _) _;have hra : rowAt (wr.alloc (.cells (actR x) 139)) wr.heap.size 0 70 = some (actR x):=by simp [go_sem]
      have hma:=hmap.kept (Keep.of_below hba) (by simp);have hka : Keep [gm] W (wr.alloc (.cells (actR x) 139)):=Keep.trans hk (Keep.of_below hba) (by simp);have hgl:=hmap.lt;go_upto_region 5 with fail
      obtain ⟨gx,hgx⟩ : ∃ gx,wr.heap.size = gx:=⟨_,rfl⟩
      have hsx : gx < (wr.alloc (.cells (actR x) 139)).heap.size:=by simp [hgx]
      obtain ⟨W0,hW0⟩ : ∃ W0,W0 = wr.alloc (.cells (actR x) 139):=⟨_,rfl⟩
      rw [← hW0] at hra hma hka hsx ⊢;rw [hgx] at hra hgl ⊢;clear hW0 hgx hba hmap hk hrow;have f2 : W0.cell? ⟨gx,2,none⟩ = some (.string (oOf x.m).key):=by have:=rowAt_cell hra (j:=2) (by omega);rwa [actR_g2,Nat.zero_add] at this
      by_cases hin : (oOf x.m).key ∈ M.map (·.1)
      · obtain ⟨p,hp,hpk⟩:=List.mem_map.1 hin;have hlk:=hma.hit strKey Tryz.underlying143 (show okS p.1 by rw [hpk];show _ ≤ _;unfold maxLen;omega) hp true;rw [hpk] at hlk;have hlk' : (Instr.lookup 143 (.map (some gm)) (.string (oOf x.m).key) true).run Tryz.prog W0 = .ok (.tuple #[.agg (actR p.2),.bool true]) W0:=hlk;clear hlk;have hbb : Below W0.heap.size W0 (W0.alloc (.cells (actR p.2) 139)):=(Below.refl _ _).alloc (Nat.le_refl _) _;have hrb : rowAt (W0.alloc (.cells (actR p.2) 139)) W0.heap.size 0 70 = some (actR p.2):=by simp [go_sem]
        have hra2:=(rowAt_of_block (hbb.block gx hsx) 0 70).trans hra;have hmb:=hma.kept (Keep.of_below hbb) (by simp);have hkb : Keep [gm] W (W0.alloc (.cells (actR p.2) 139)):=Keep.trans hka (Keep.of_below hbb) (by simp);go_upto_region 6 with fail
        obtain ⟨gp,hgp⟩ : ∃ gp,W0.heap.size = gp:=⟨_,rfl⟩
        have hsp : gp < (W0.alloc (.cells (actR p.2) 139)).heap.size:=by simp [hgp]
        obtain ⟨W1,hW1⟩ : ∃ W1,W1 = W0.alloc (.cells (actR p.2) 139):=⟨_,rfl⟩
        rw [← hW1] at hrb hra2 hmb hkb hsp ⊢;rw [hgp] at hrb hsx ⊢;clear hW1 hgp hbb hma hka hra f2 hlk';have e1 : W1.cell? ⟨gx,1,none⟩ = some (.int .i64 (oOf x.m).n):=by have:=rowAt_cell hra2 (j:=1) (by omega);rwa [actR_g1,Nat.zero_add] at this
        have e2 : W1.cell? ⟨gp,1,none⟩ = some (.int .i64 (oOf p.2.m).n):=by have:=rowAt_cell hrb (j:=1) (by omega);rwa [actR_g1,Nat.zero_add] at this
        have e3 : rowAt W1 gx 37 32 = some (idC x.m.id):=by have:=rowAt_sub hra2 (j:=37) (m:=32) (by omega);rwa [actR_e37,Nat.zero_add] at this
        have e4 : rowAt W1 gp 37 32 = some (idC p.2.m.id):=by have:=rowAt_sub hrb (j:=37) (m:=32) (by omega);rwa [actR_e37,Nat.zero_add] at this
        have hO : orL [cmpI (oOf x.m).n (oOf p.2.m).n,cmpId x.m.id p.2.m.id] = ordB x.m p.2.m:=rfl;obtain ⟨N1,hN1⟩ : ∃ N1,cmpI (oOf x.m).n (oOf p.2.m).n = N1:=⟨_,rfl⟩
        obtain ⟨N2,hN2⟩ : ∃ N2,cmpId x.m.id p.2.m.id = N2:=⟨_,rfl⟩
        have ci:=fun w=>cmp_int (oOf x.m).n (oOf p.2.m).n w;have cd:=fun w=>cmp_id x.m.id p.2.m.id w;rw [hN1,hN2] at hO;simp only [hN1] at ci;simp only [hN2] at cd;have co:=fun (W : World)=>or_any W.heap.size 2 [N1,N2] (by simp) (W.alloc (.cells #[.int .i64 N1,.int .i64 N2] 3)) (or2_cells W _ _);rw [hO] at co;obtain ⟨c,hc⟩ : ∃ c,ordB x.m p.2.m = c:=⟨_,rfl⟩
        rw [hc] at co;have Hc:=Lib.hid hc;clear hN1 hN2 hO hc;refine wp_region_lex (Bel W1) false (by kernel_rfl) (by kernel_rfl) (by kernel_rfl) (bel_drew W1) ?_;have hne:=bel_some W1;have hS:=bel_drew W1;have b1:=sub_cell e1;have b2:=sub_cell e2;have b3:=sub_row e3;have b4:=sub_row e4;repeat (refine wpLx_loose ?_ ?_;(focus (simp only [chainOp];done));intro K hK;go_simp;refine hK _ ?_;clear hK K)
        refine wpLx_chain ?_ ?_ ?_;(focus (exact hS));(focus (simp only [chainOp];done));intro K hK;go_simp;refine (ci _).mono ?_;rintro e w' ⟨rfl,rfl⟩;refine ⟨_,rfl,hS,hK _ _ ?_⟩;clear hK K;repeat (refine wpLx_loose ?_ ?_;(focus (simp only [chainOp];done));intro K hK;go_simp;refine hK _ ?_;clear hK K)
        refine wpLx_chain ?_ ?_ ?_;(focus (exact hS));(focus (simp only [chainOp];done));intro K hK;go_simp;refine (cd _).mono ?_;rintro e w' ⟨rfl,hb⟩;replace hS:=bel_next hS hb;refine ⟨_,rfl,hS,hK _ _ ?_⟩;clear hK K hb;repeat (refine wpLx_loose ?_ ?_;(focus (simp only [chainOp];done));intro K hK;go_simp;refine hK _ ?_;clear hK K)
        refine wpLx_chain ?_ ?_ ?_;(focus (exact hS));(focus (simp only [chainOp];done));intro K hK;go_simp;refine step_keep (bel_alloc hS _) (fun hS=>?_);refine hK _ _ ?_;clear hK K;repeat (refine wpLx_loose ?_ ?_;(focus (simp only [chainOp];done));intro K hK;go_simp;refine hK _ ?_;clear hK K)
        refine wpLx_chain ?_ ?_ ?_;(focus (exact hS));(focus (simp only [chainOp];done));intro K hK;go_simp;refine (co w').mono ?_;rintro e w' ⟨rfl,rfl⟩;refine ⟨_,rfl,hS,hK _ _ ?_⟩;clear hK K;repeat (refine wpLx_loose ?_ ?_;(focus (simp only [chainOp];done));intro K hK;go_simp;refine hK _ ?_;clear hK K)
        refine wpLx_nil ?_;intro hS;have hbz : Below W1.heap.size W1 (w'.alloc (.cells #[.int .i64 N1,.int .i64 N2] 3)):=hS;obtain ⟨W2,hW2⟩ : ∃ W2,w'.alloc (.cells #[.int .i64 N1,.int .i64 N2] 3) = W2:=⟨_,rfl⟩
        rw [hW2] at hbz ⊢;have hra3:=(rowAt_of_block (hbz.block gx (rowAt_lt hra2)) 0 70).trans hra2;have hmc:=hmb.kept (Keep.of_below hbz) (by simp);have hkc : Keep [gm] W W2:=Keep.trans hkb (Keep.of_below hbz) (by simp);clear b1 b2 b3 b4 hne hS ci cd co hW2 e1 e2 e3 e4 hra2 hmb hkb hrb hbz;by_cases hc0 : 0 < c
        · have f2 : W2.cell? ⟨gx,2,none⟩ = some (.string (oOf x.m).key):=by have:=rowAt_cell hra3 (j:=2) (by omega);rwa [actR_g2,Nat.zero_add] at this
          obtain ⟨w5,es5,clk5,hrun,hm5,hk5⟩:=hmc.update (v:=x) strKey Tryz.underlying143 (show okS (oOf x.m).key by show _ ≤ _;unfold maxLen;omega);have hrun' : (Instr.mapUpdate 143 (.map (some gm)) (.string (oOf x.m).key) (.agg (actR x))).run Tryz.prog W2 = .ok () w5:=hrun;have hnew : Hid (BestInv ((L.take (i + 1)).map ActM.m) ((putL M (oOf x.m).key x).map fun p=>(p.1,p.2.m))):=(show BestInv _ _ by
            rw [Htk.out,putL_map];refine Hbest.out.better (List.mem_map.2 ⟨p,hp,?_⟩) (a:=x.m) (b:=p.2.m) (by rw [Hc.out];exact hc0);rw [hpk])
          have hkd : Keep [gm] W w5:=Keep.trans hkc hk5 (fun y hy=>.inl hy);clear hrun hmc hkc;(go_wp2_with fail);go_roundw
          case rel=>exact ⟨i + 1,_,by omega,by go_num,⟨es5,clk5,hm5,hnew.out⟩,hkd⟩
          case measure=>simp [intOf];omega
        · have hnew : Hid (BestInv ((L.take (i + 1)).map ActM.m) (M.map fun p=>(p.1,p.2.m))):=(show BestInv _ _ by
            rw [Htk.out];refine Hbest.out.worse (List.mem_map.2 ⟨p,hp,?_⟩) (a:=x.m) (b:=p.2.m) ?_ (by rw [Hc.out];exact hc0)
            · rw [hpk]
            · have e : (M.map fun p=>(p.1,p.2.m)).map (·.1) = M.map (·.1):=by rw [List.map_map];rfl
              rw [e];exact hmc.nodup)
          (go_wp2_with fail);go_roundw
          case rel=>exact ⟨i + 1,M,by omega,by go_num,⟨es,clk,hmc,hnew.out⟩,hkc⟩
          case measure=>simp [intOf];omega
      · have hlk:=hma.miss strKey Tryz.underlying143 (zeroAct_run W0) (show okS (oOf x.m).key by show _ ≤ _;unfold maxLen;omega) hin true;have hlk' : (Instr.lookup 143 (.map (some gm)) (.string (oOf x.m).key) true).run Tryz.prog W0 = .ok (.tuple #[.agg (dAC opP0 id0 0),.bool false]) W0:=hlk;clear hlk;have hbb : Below W0.heap.size W0 (W0.alloc (.cells (dAC opP0 id0 0) 139)):=(Below.refl _ _).alloc (Nat.le_refl _) _;have hra2:=(rowAt_of_block (hbb.block gx hsx) 0 70).trans hra;have hmb:=hma.kept (Keep.of_below hbb) (by simp);have hkb : Keep [gm] W (W0.alloc (.cells (dAC opP0 id0 0) 139)):=Keep.trans hka (Keep.of_below hbb) (by simp);go_upto_region 6 with fail
        obtain ⟨gp,hgp⟩ : ∃ gp,W0.heap.size = gp:=⟨_,rfl⟩
        obtain ⟨W1,hW1⟩ : ∃ W1,W1 = W0.alloc (.cells (dAC opP0 id0 0) 139):=⟨_,rfl⟩
        rw [← hW1] at hra2 hmb hkb ⊢;rw [hgp] at hsx ⊢;clear hW1 hgp hbb hma hka hra f2 hlk';refine wp_region_lex (Bel W1) false (by kernel_rfl) (by kernel_rfl) (by kernel_rfl) (bel_drew W1) ?_;have hne:=bel_some W1;have hS:=bel_drew W1;repeat (refine wpLx_loose ?_ ?_;(focus (simp only [chainOp];done));intro K hK;go_simp;refine hK _ ?_;clear hK K)
        refine wpLx_chain ?_ ?_ ?_;(focus (exact hS));(focus (simp only [chainOp];done));intro K hK;go_simp;refine hK _ _ ?_;clear hK K;repeat (refine wpLx_loose ?_ ?_;(focus (simp only [chainOp];done));intro K hK;go_simp;refine hK _ ?_;clear hK K)
        refine wpLx_chain ?_ ?_ ?_;(focus (exact hS));(focus (simp only [chainOp];done));intro K hK;go_simp;refine hK _ _ ?_;clear hK K;repeat (refine wpLx_loose ?_ ?_;(focus (simp only [chainOp];done));intro K hK;go_simp;refine hK _ ?_;clear hK K)
        refine wpLx_chain ?_ ?_ ?_;(focus (exact hS));(focus (simp only [chainOp];done));intro K hK;go_simp;refine hK _ _ ?_;clear hK K;repeat (refine wpLx_loose ?_ ?_;(focus (simp only [chainOp];done));intro K hK;go_simp;refine hK _ ?_;clear hK K)
        refine wpLx_chain ?_ ?_ ?_;(focus (exact hS));(focus (simp only [chainOp];done));intro K hK;go_simp;refine hK _ _ ?_;clear hK K;repeat (refine wpLx_loose ?_ ?_;(focus (simp only [chainOp];done));intro K hK;go_simp;refine hK _ ?_;clear hK K)
        refine wpLx_nil ?_;intro hS;have hra3 : rowAt W1.drew gx 0 70 = some (actR x):=hra2;have hmc:=hmb.kept (Keep.drew W1) (by simp);have hkc : Keep [gm] W W1.drew:=Keep.trans hkb (Keep.drew W1) (by simp);obtain ⟨W2,hW2⟩ : ∃ W2,W1.drew = W2:=⟨_,rfl⟩
        rw [hW2] at hra3 hmc hkc ⊢;clear hne hS hW2 hra2 hmb hkb;have f2 : W2.cell? ⟨gx,2,none⟩ = some (.string (oOf x.m).key):=by have:=rowAt_cell hra3 (j:=2) (by omega);rwa [actR_g2,Nat.zero_add] at this
        obtain ⟨w5,es5,clk5,hrun,hm5,hk5⟩:=hmc.update (v:=x) strKey Tryz.underlying143 (show okS (oOf x.m).key by show _ ≤ _;unfold maxLen;omega);have hrun' : (Instr.mapUpdate 143 (.map (some gm)) (.string (oOf x.m).key) (.agg (actR x))).run Tryz.prog W2 = .ok () w5:=hrun;have hnew : Hid (BestInv ((L.take (i + 1)).map ActM.m) ((putL M (oOf x.m).key x).map fun p=>(p.1,p.2.m))):=(show BestInv _ _ by
          rw [Htk.out,putL_map];refine Hbest.out.new (a:=x.m) fun h=>hin ?_;have e : (M.map fun p=>(p.1,p.2.m)).map (·.1) = M.map (·.1):=by rw [List.map_map];rfl
          rwa [e] at h)
        have hkd : Keep [gm] W w5:=Keep.trans hkc hk5 (fun y hy=>.inl hy);clear hrun hmc hkc;(go_wp2_with fail);go_roundw
        case rel=>exact ⟨i + 1,_,by omega,by go_num,⟨es5,clk5,hm5,hnew.out⟩,hkd⟩
        case measure=>simp [intOf];omega
    · have e2 : L.take i = L:=List.take_of_length_le (by omega);rw [e2] at hbest;have hres:=hPs _ hbest;have hML : M.length ≤ 30:=by
        have h1 : (M.map (·.1)).length ≤ ((L.map fun a=>(oOf a.m).key)).length:=nodup_len hmap.nodup (fun k hk'=>by
          obtain ⟨p,hp,rfl⟩:=List.mem_map.1 hk';obtain ⟨h1,h2,_⟩:=hbest.mem (p.1,p.2.m) (List.mem_map.2 ⟨p,hp,rfl⟩);obtain ⟨a,ha,e⟩:=List.mem_map.1 h1;exact List.mem_map.2 ⟨a,ha,by rw [e];exact h2⟩)
        simp at h1;omega
      have hMP : M.map (fun p=>bestP (p.1,p.2.m)) = (M.map fun p=>(p.1,p.2.m)).map bestP:=by rw [List.map_map];rfl
      rw [← hMP] at hres;have Hres:=Lib.hid hres;have hbw : Below gm w wr:=hb0.trans (hk.below (B:=gm) (by omega) (by simp));obtain ⟨w0,hrun,hR,hb1,hs0⟩:=MapAt.range (P:=Tryz.prog) hmap Tryz.underlying143;have hlts:=hmap.lt;clear e2 hbest hres hMP hmap hk;go_upto_region 11 with fail
      have hbw0 : Below gm w w0:=hbw.trans (hb1.mono (by omega));obtain ⟨br,hbr⟩ : ∃ br,wr.heap.size = br:=⟨_,rfl⟩
      rw [hbr] at hrun hR hs0 hlts ⊢;clear hrun hbw hb1 hbr;go_loopw [8] (fun out wr=>∃ (S : List (ByteArray × ActM)) (A2 : Option Addr) (cap2 : Nat),out = .slice A2 S.length cap2 ∧ RangeAt wr gm br Value.string actV okS M S ∧ Own wr w0.heap.size 98 2 A2 S.length cap2 (S.map fun p=>pairC (bestP (p.1,p.2.m))) ∧ Below gm w wr ∧ w0.heap.size ≤ wr.heap.size) (fun _ wr=>wr.rangeLeft gm br)
      case atStart=>exact ⟨[],none,0,rfl,hR,Own.nil _ _ _ _,hbw0,Nat.le_refl _⟩
      case round =>
        clear hR hbw0;obtain ⟨S,A2,cap2,rfl,hR,hown,hb,hsz⟩:=hrel;have hSl : S.length ≤ 30:=Nat.le_trans hR.length hML;rcases hR.next (P:=Tryz.prog) 0 with ⟨hperm,hrun⟩ | ⟨p,w1,hpM,hpS,hrun,hR1,hk1,hs1,hl1,hen⟩
        · have hPs2 : sortC cmpPair (S.map fun p=>bestP (p.1,p.2.m)) = Ps:=by
            rw [← Hres.out];exact sortC_congr totPair fun z=>(hperm.map _).mem_iff
          have hown' : Own wr gm 98 2 A2 S.length cap2 ((S.map fun p=>bestP (p.1,p.2.m)).map pairC):=by
            rw [List.map_map];exact hown.mono (by omega)
          have cp:=dpairs wr gm A2 S.length cap2 _ hown' (by omega) (by omega);rw [hPs2] at cp;clear hperm hPs2 hown hown' hR;(go_wp2_with fail);refine cp.mono ?_;rintro e w5 ⟨A5,cap5,rfl,ho5,hb5⟩;have hb6:=hb.trans hb5;clear cp;(go_wp2_with fail);go_ret;exact ⟨A5,cap5,rfl,by rw [Hgm.out];exact ho5,by rw [Hgm.out];exact hb6⟩
        · have hownr:=hown.kept hk1 (fun y hy=>by have:=(hown.at_base hy).1;simp;omega);have hb1 : Below gm w w1:=hb.trans (hk1.below (by omega) (by simp;omega));obtain ⟨pk,px⟩:=p;change (Instr.next _ _ _).run Tryz.prog wr = .ok (.tuple #[.bool true,.string pk,.agg (actR px)]) w1 at hrun;change (Instr.entry _).run Tryz.prog w1 = .ok (.tuple #[.string pk,.agg (actR px)]) w1 at hen;have hbx : Below w1.heap.size w1 ((w1.alloc (.cells (actR px) 139)).alloc (.cells (pairC ⟨pk,(oOf px.m).val⟩) 98)):=((Below.refl _ _).alloc (Nat.le_refl _) _).alloc (by simp) _;have hown2:=hownr.below hbx;have hrow2 : rowAt ((w1.alloc (.cells (actR px) 139)).alloc (.cells (pairC ⟨pk,(oOf px.m).val⟩) 98)) (w1.heap.size + 1) 0 2 = some (pairC ⟨pk,(oOf px.m).val⟩):=by simp [go_sem]
          have Hs1:=Lib.hid hs1;clear hs1;go_upto_region 13 with fail
          go_wp2_with (at_builtin;refine L_append einfoPair rfl hown2 rfl hrow2 (pairC_one _) (by omega) (by omega) (by simp;have:=Hs1.out;omega) ?_;intro A' cap' w2 hownA hkA hsubA)
          have hbA : gm ∉ blk A2:=fun hx=>(by have:=(hown.at_base hx).1;omega);have hrA : br ∉ blk A2:=fun hx=>(by have:=(hown.at_base hx).1;omega);have hR1x:=hR1.kept (Keep.of_below hbx) (by simp) (by simp);have hR2:=hR1x.kept hkA hbA hrA;have hl2 : w2.rangeLeft gm br = w1.rangeLeft gm br :=
            (rangeLeft_kept hkA hbA hrA hR1x.lt.2 hR1x.lt.1).trans (rangeLeft_kept (Keep.of_below hbx) (by simp) (by simp) hR1.lt.2 hR1.lt.1)
          have hsz2 : w0.heap.size ≤ w2.heap.size:=by
            have e1:=hbx.size;have e2:=hkA.size;have e3:=Hs1.out;omega
          have hb2 : Below gm w w2:=hb1.trans ((hbx.mono (by have:=Hs1.out;omega)).trans (hkA.below (B:=gm) (by simp;have:=Hs1.out;omega) fun y hy=>by have:=(hown.at_base hy).1;omega));clear hrun hen;(go_wp2_with fail);go_roundw
          case rel=>exact ⟨S ++ [(pk,px)],A',cap',by simp,hR2,by simpa [bestP] using hownA,hb2,hsz2⟩
          case measure=>omega
end
section
open Go.RowKit Stb
theorem overD_snoc (F : List MarkV) (m : MarkV) : overD (F ++ [m]) = overD F ++ (oOf m).refs:=by unfold overD;rw [List.flatMap_append];simp
set_option maxRecDepth 100000 in
set_option maxHeartbeats 4000000 in
theorem dmulti (A : Option Addr) (n cap : Nat) (L : List ActM) (B : Nat) (w : World) (h : ActsAt w B A n cap L) (hn : n ≤ 30) (hl : ∀ a ∈ L,(oOf a.m).refs.length ≤ 8) :
    Calls Tryz.prog 48 #[.slice A n cap] w fun e w'=>∃ A' cap',e = .returned (.slice A' (sortC cmpPair (multiD (L.map ActM.m))).length cap') ∧ Own w' w.heap.size 98 2 A' (sortC cmpPair (multiD (L.map ActM.m))).length cap' ((sortC cmpPair (multiD (L.map ActM.m))).map pairC) ∧ Below w.heap.size w w':=by
  have hlen : L.length = n:=by simpa using h.own.len
  have hmm:=@run_makeMap Tryz.prog;have k1:=SetAt.new (kv:=idV) (ok:=okId) w w.heap.size rfl;have hb0 : Below w.heap.size w (w.alloc (.map #[] 0)):=(Below.refl _ _).alloc (Nat.le_refl _) _;have h0:=h.below hb0;have hAb : ∀ x ∈ blk A,x < w.heap.size:=fun x hx=>(h.own.at_base hx).2;have hRb : ∀ a ∈ L,∀ x ∈ blk a.A,x < w.heap.size:=fun a ha x hx=>((h.refs a ha).2 x hx).1;go_enter Tryz.func48,Tryz.ntmps48
  go_upto_region 2 with fail
  obtain ⟨gm,hgm⟩ : ∃ gm,w.heap.size = gm:=⟨_,rfl⟩
  have hgs : (w.alloc (.map #[] 0)).heap.size = gm + 1:=by simp [hgm]
  obtain ⟨W,hW⟩ : ∃ W,w.alloc (.map #[] 0) = W:=⟨_,rfl⟩
  rw [hW] at k1 hb0 hgs h0;rw [hW,hgm];rw [hgm] at k1 hb0 hAb hRb;have Hgm:=Lib.hid hgm;clear hW hgm h;(go_wp2_with fail);go_loopw [14] (fun iv wr=>∃ (i : Nat),i ≤ n ∧ iv = .int .i64 i ∧ IdSet wr gm (overD ((L.take i).map ActM.m)) ∧ Keep [gm] W wr) (fun iv _=>n - (intOf iv).toNat)
  case atStart=>exact ⟨0,Nat.zero_le _,rfl,k1,Keep.refl _ _⟩
  case round =>
    clear k1;obtain ⟨i,hi,rfl,hset,hk⟩:=hrel;by_cases hlt : i < n
    · obtain ⟨q,o,rfl,hrow⟩:=ActsIn.get (h0.own.kept hk (fun x hx=>by have:=hAb x hx;simp;omega)).slr hlt (by omega);have hmem:=List.getElem_mem (l:=L) (n:=i) (by omega);have hrl:=hl _ hmem;have hrf:=SlR.kept (h0.refs _ hmem).1 hk (fun x hx=>by have:=hRb _ hmem x hx;simp;omega);have hrx:=hRb _ hmem;have htk : overD ((L.take (i + 1)).map ActM.m) = overD ((L.take i).map ActM.m) ++ (oOf (L[i]'(by omega)).m).refs:=by rw [List.take_succ_eq_append_getElem (by omega),List.map_append];exact overD_snoc _ _
      obtain ⟨x,hx⟩ : ∃ x,L[i]'(by omega) = x:=⟨_,rfl⟩
      rw [hx] at hrow hrl htk hrf hrx;obtain ⟨X,hX⟩ : ∃ X,overD ((L.take i).map ActM.m) = X:=⟨_,rfl⟩
      rw [hX] at htk hset;have Htk:=Lib.hid htk;clear hx htk hX hmem;have hba : Below wr.heap.size wr (wr.alloc (.cells (actR x) 139)):=(Below.refl _ _).alloc (Nat.le_refl _) _;have hra : rowAt (wr.alloc (.cells (actR x) 139)) wr.heap.size 0 70 = some (actR x):=by simp [go_sem]
      have hsa:=SetAt.below hset hba;have hrfa : RefsAt (wr.alloc (.cells (actR x) 139)) x:=SlR.below hrf hba;have hka : Keep [gm] W (wr.alloc (.cells (actR x) 139)):=Keep.trans hk (Keep.of_below hba) (by simp);have hgl:=hset.lt;go_upto_region 5 with fail
      obtain ⟨gx,hgx⟩ : ∃ gx,wr.heap.size = gx:=⟨_,rfl⟩
      obtain ⟨W0,hW0⟩ : ∃ W0,W0 = wr.alloc (.cells (actR x) 139):=⟨_,rfl⟩
      rw [← hW0] at hra hsa hka hrfa ⊢;rw [hgx] at hra hgl ⊢;clear hW0 hgx hba hset hk hrow hrf;have f36 : W0.cell? ⟨gx,36,none⟩ = some (.slice x.A (oOf x.m).refs.length x.c):=by have:=rowAt_cell hra (j:=36) (by omega);rwa [actR_g36,Nat.zero_add] at this
      obtain ⟨J,hJ⟩ : ∃ J,(oOf x.m).refs = J:=⟨_,rfl⟩
      unfold RefsAt at hrfa;rw [hJ] at f36 Htk hrfa hrl;clear hJ;have hrB : ∀ y ∈ blk x.A,y ∉ [gm]:=fun y hy=>(by have:=hrx y hy;simp;omega);(go_wp2_with fail);go_loopw [22] (fun jv wq=>∃ (j : Nat),j ≤ J.length ∧ jv = .int .i64 j ∧ IdSet wq gm (X ++ J.take j) ∧ Keep [gm] W0 wq) (fun jv _=>J.length - (intOf jv).toNat)
      case atStart=>exact ⟨0,Nat.zero_le _,rfl,by simpa using hsa,Keep.refl _ _⟩
      case round =>
        obtain ⟨j,hj,rfl,hset,hk⟩:=hrel;by_cases hlt2 : j < J.length
        · obtain ⟨q2,o2,hxa,hrow2⟩:=TagsIn.get (SlR.kept hrfa hk hrB) hlt2 hlt2;have hJk : J.take (j + 1) = J.take j ++ [J[j]'hlt2]:=List.take_succ_eq_append_getElem hlt2;obtain ⟨d,hd⟩ : ∃ d,J[j]'hlt2 = d:=⟨_,rfl⟩
          rw [hd] at hrow2 hJk;have HJk:=Lib.hid hJk;rw [hxa] at f36 ⊢;have hbd : Below wr.heap.size wr (wr.alloc (.cells (idC d) 39)):=(Below.refl _ _).alloc (Nat.le_refl _) _;have hsd:=SetAt.below hset hbd;obtain ⟨w5,hrun,hs5,hk5⟩:=iput (x:=d) hsd;have hkd : Keep [gm] W0 w5:=Keep.trans hk ((Keep.of_below hbd).mono (S':=[gm]) (by simp) |>.trans hk5 (fun y hy=>.inl hy)) (fun y hy=>.inl hy);have hs6 : IdSet w5 gm (X ++ J.take (j + 1)):=SetAt.congr hs5 (fun y=>by rw [HJk.out,← List.append_assoc,List.mem_append (s:=X ++ J.take j),List.mem_singleton,List.mem_cons];exact Or.comm);clear hd hJk hset hk hsd hs5 hk5 hbd;(go_wp2_with fail);go_roundw
          case rel=>exact ⟨j + 1,by omega,by go_num,hs6,hkd⟩
          case measure=>simp [intOf];omega
        · have e2 : J.take j = J:=List.take_of_length_le (by omega);rw [e2] at hset;have hkd : Keep [gm] W wr:=Keep.trans hka hk (fun y hy=>.inl hy);clear e2 hk hka;(go_wp2_with fail);go_roundw
          case rel=>exact ⟨i + 1,by omega,by go_num,by rw [Htk.out];exact hset,hkd⟩
          case measure=>simp [intOf];omega
    · have e2 : L.take i = L:=List.take_of_length_le (by omega);rw [e2] at hset;have hbw : Below gm w wr:=hb0.trans (hk.below (B:=gm) (by omega) (by simp));have hown0:=h0.own.kept hk (fun x hx=>by have:=hAb x hx;simp;omega);have hD : multiD (L.map ActM.m) = (L.filter fun a=>decide (a.m.id ∉ overD (L.map ActM.m))).map fun a=>keyP a.m:=by
        unfold multiD;rw [List.filter_map,List.map_map];rfl
      obtain ⟨O,hO⟩ : ∃ O,overD (L.map ActM.m) = O:=⟨_,rfl⟩
      rw [hO] at hset hD;have HD:=Lib.hid hD;have hgl:=hset.lt;clear e2 hO hD hk h0;obtain ⟨V,hV⟩ : ∃ V,V = wr:=⟨_,rfl⟩
      rw [← hV] at hset hbw hown0 hgl ⊢;clear hV;(go_wp2_with fail);go_loopw [8,32] (fun out iv wq=>∃ (j : Nat) (A2 : Option Addr) (n2 cap2 : Nat),j ≤ n ∧ iv = .int .i64 j ∧ out = .slice A2 n2 cap2 ∧ n2 ≤ j ∧ Own wq V.heap.size 98 2 A2 n2 cap2 ((((L.take j).filter fun a=>decide (a.m.id ∉ O)).map fun a=>keyP a.m).map pairC) ∧ Below V.heap.size V wq) (fun _ iv _=>n - (intOf iv).toNat)
      case atStart=>exact ⟨0,none,0,0,Nat.zero_le _,rfl,rfl,Nat.le_refl _,Own.nil _ _ _ _,Below.refl _ _⟩
      case round =>
        obtain ⟨j,A2,n2,cap2,hj,rfl,rfl,hnj,hown,hb⟩:=hrel;by_cases hlt2 : j < n
        · obtain ⟨q,o,rfl,hrow⟩:=ActsIn.get (hown0.below hb).slr hlt2 (by omega);have htk : ((L.take (j + 1)).filter fun a=>decide (a.m.id ∉ O)) = ((L.take j).filter fun a=>decide (a.m.id ∉ O)) ++ if (L[j]'(by omega)).m.id ∈ O then [] else [L[j]'(by omega)]:=by
            rw [List.take_succ_eq_append_getElem (by omega),List.filter_append];congr 1
            by_cases h : (L[j]'(by omega)).m.id ∈ O <;> simp [h]
          obtain ⟨x,hx⟩ : ∃ x,L[j]'(by omega) = x:=⟨_,rfl⟩
          rw [hx] at hrow htk;obtain ⟨P,hP⟩ : ∃ P,((L.take j).filter fun a=>decide (a.m.id ∉ O)) = P:=⟨_,rfl⟩
          rw [hP] at htk hown;have Htk:=Lib.hid htk;clear hx htk hP;have hba : Below wr.heap.size wr (wr.alloc (.cells (actR x) 139)):=(Below.refl _ _).alloc (Nat.le_refl _) _;have hra : rowAt (wr.alloc (.cells (actR x) 139)) wr.heap.size 0 70 = some (actR x):=by simp [go_sem]
          have hsa:=SetAt.below (SetAt.below hset hb) hba;have ho0:=hown.below hba;have hw0 : Below V.heap.size V (wr.alloc (.cells (actR x) 139)):=hb.trans (hba.mono hb.size);go_upto_region 15 with fail
          obtain ⟨gx,hgx⟩ : ∃ gx,wr.heap.size = gx:=⟨_,rfl⟩
          obtain ⟨W0,hW0⟩ : ∃ W0,W0 = wr.alloc (.cells (actR x) 139):=⟨_,rfl⟩
          rw [← hW0] at hra hsa ho0 hw0 ⊢;rw [hgx] at hra ⊢;clear hW0 hgx hba hown hb hrow;have f37 : rowAt W0 gx 37 32 = some (idC x.m.id):=by have:=rowAt_sub hra (j:=37) (m:=32) (by omega);rwa [actR_e37,Nat.zero_add] at this
          have f2 : W0.cell? ⟨gx,2,none⟩ = some (.string (oOf x.m).key):=by have:=rowAt_cell hra (j:=2) (by omega);rwa [actR_g2,Nat.zero_add] at this
          have f3 : W0.cell? ⟨gx,3,none⟩ = some (.string (oOf x.m).val):=by have:=rowAt_cell hra (j:=3) (by omega);rwa [actR_g3,Nat.zero_add] at this
          have hws:=hw0.size;by_cases hin : x.m.id ∈ O
          · have hlk:=ihit hsa hin;have htk:=Htk.out;rw [if_pos hin,List.append_nil] at htk;have Htk2:=Lib.hid htk;clear htk hin;(go_wp2_with fail);go_roundw
            case rel=>exact ⟨j + 1,A2,n2,cap2,by omega,by go_num,rfl,by omega,by rw [Htk2.out];exact ho0,hw0⟩
            case measure=>simp [intOf];omega
          · have hlk:=imiss hsa hin;have htk:=Htk.out;rw [if_neg hin] at htk;have Htk2:=Lib.hid htk;clear htk hin;have hbx : Below W0.heap.size W0 (W0.alloc (.cells (pairC ⟨(oOf x.m).key,(oOf x.m).val⟩) 98)):=(Below.refl _ _).alloc (Nat.le_refl _) _;have hown2:=ho0.below hbx;have hrow2 : rowAt (W0.alloc (.cells (pairC ⟨(oOf x.m).key,(oOf x.m).val⟩) 98)) W0.heap.size 0 2 = some (pairC ⟨(oOf x.m).key,(oOf x.m).val⟩):=by simp [go_sem]
            go_upto_region 17 with (at_builtin;refine L_append einfoPair rfl hown2 rfl hrow2 (pairC_one _) (by omega) (by omega) (by simp;omega) ?_;intro A6 cap6 w6 hown6 hk6 hsub6)
            have hb6 : Below V.heap.size V w6:=(hw0.trans (hbx.mono hws)).trans (hk6.below (by simp;omega) (fun y hy=>(ho0.at_base hy).1));clear hk6 hsub6 hown2 hrow2 hbx ho0 hw0;(go_wp2_with fail);go_roundw
            case rel=>exact ⟨j + 1,A6,n2 + 1,cap6,by omega,by go_num,rfl,by omega,by rw [Htk2.out];simpa [keyP] using hown6,hb6⟩
            case measure=>simp [intOf];omega
        · have e2 : L.take j = L:=List.take_of_length_le (by omega);rw [e2,← HD.out] at hown;have cp:=dpairs wr V.heap.size A2 n2 cap2 _ hown (by omega) hb.size;have hVs:=hbw.size;have hVg : gm ≤ V.heap.size:=by omega
          have hb0 : Below gm w wr:=hbw.trans (hb.mono hVg);clear e2;(go_wp2_with fail);refine cp.mono ?_;rintro e w5 ⟨A5,cap5,rfl,ho5,hb5⟩;have hb05:=hb0.trans (hb5.mono hVg);have ho6:=ho5.mono (B':=gm) hVg;clear cp ho5 hb5 hown;(go_wp2_with fail);go_ret;exact ⟨A5,cap5,rfl,by rw [Hgm.out];exact ho6,by rw [Hgm.out];exact hb05⟩
end
section
open Go.RowKit Go.Shelf Stb
theorem onesA (R : List ActM) : ∀ r ∈ R.map actR,∀ u ∈ r.toList,u.oneCell' = true:=fun r hr=>by
  obtain ⟨x,_,rfl⟩:=List.mem_map.1 hr;exact actR_one x
theorem clone_acts (w : World) (A : Option Addr) (n cap : Nat) (R : List ActM) (h : ActsIn w A n R) (hn : n ≤ 1000) (hA : A = none → cap = 0) :
    Calls Tryz.prog 110 #[.slice A n cap] w fun e w'=>∃ A' cap',e = .returned (.slice A' n cap') ∧ Own w' w.heap.size 139 70 A' n cap' (R.map actR) ∧ Below w.heap.size w w':=by
  have hnil : ∀ (w : World) (a : Option Addr) (n c n' c' : Nat),(binOp .eql 89 (.slice a n c) (.slice none n' c') ).run Tryz.prog w = .ok (.bool a.isNone) w:=fun w a n c n' c'=>Lib.run_eql_slice_nil w _ _ a n c n' c' Tryz.underlying89;have hlen : R.length = n:=by simpa using h.1
  cases A with
  | none =>
    have hn0 : n = 0:=by
      rcases Nat.eq_zero_or_pos n with e | e
      · exact e
      · obtain ⟨g,o,e',_⟩:=h.2 e;cases e'
    subst hn0;have hR : R = []:=List.eq_nil_of_length_eq_zero hlen;subst hR;clear h hlen;go_enter Tryz.func110,Tryz.ntmps110
    (go_wp2_with fail);go_ret;exact ⟨none,0,rfl,Own.nil _ _ _ _,Below.refl _ _⟩
  | some a =>
    have hb0 : Below w.heap.size w (w.alloc (.cells #[] 139)):=(Below.refl _ _).alloc (Nat.le_refl _) _;have hown0:=Own.empty w w.heap.size 139 70 (Nat.le_refl _);have hs0 : SlR (w.alloc (.cells #[] 139)) (some a) n 70 (R.map actR):=SlR.below h hb0;have hone:=onesA R;have hbs0:=fun w=>run_bsS0 einfoAct w;clear hlen;go_enter Tryz.func110,Tryz.ntmps110
    go_wp2_with (at_builtin;refine L_appends einfoAct rfl hown0 rfl hs0 hA hone (by omega) (by omega) (by simp) ?_;intro A2 cap2 w2 hown2 hk2 hsub2)
    simp only [Nat.zero_add,List.nil_append] at hown2;have hb2 : Below w.heap.size w w2:=hb0.trans (hk2.below (by simp) (by simp [blk]));clear hown0 hs0 hk2 hsub2 h;(go_wp2_with fail);go_ret;exact ⟨A2,cap2,by simp,hown2,hb2⟩
theorem growA0 (w : World) (n : Nat) (h0 : 0 < n) (hn : n ≤ 1000) :
    Calls Tryz.prog 190 #[.slice none 0 0,.int .i64 n] w fun e w'=>∃ A cap,e = .returned (.slice A 0 cap) ∧ Own w' w.heap.size 139 70 A 0 cap [] ∧ Below w.heap.size w w':=by
  obtain ⟨i,z,hi,hz,hsz,hby,hzs⟩:=einfoAct.info;have c:=Any8.slices_Grow_grow Tryz.layGrowAct i z hi hz (by omega) none 0 0 n [] w (Nat.le_refl _) (by omega) (by rw [hby];omega) (by omega) (by simp) (fun _=>rfl) (by simp);have e25 : Tryz.layGrowAct_ren.t 25 = 139:=rfl;have hG:=grownCap_ge w (0 + n) 0 139;have hM:=grownCap_le_maxLen w (0 + n) 0 139 (by unfold maxLen;omega);rw [e25] at c;obtain ⟨G,hGe⟩ : ∃ G,grownCap w (0 + n) 0 139 = G:=⟨_,rfl⟩
  rw [hGe] at c hG hM;clear hGe e25;refine c.mono ?_;rintro e w' ⟨rfl,rfl⟩;obtain ⟨cs,hcs⟩ : ∃ cs,(#[] ++ Builtin.zeroCells z.cells (0 + n - 0) ++ Builtin.zeroCells z.cells (G - (0 + n)) : Array Value) = cs:=⟨_,rfl⟩
  have hsz2 : cs.size = G * 70:=by
    rw [← hcs,Array.size_append,Array.size_append,size_zeroCells,size_zeroCells,hzs];simp only [List.size_toArray,List.length_nil,Nat.zero_add,Nat.sub_zero];rw [← Nat.add_mul,show n + (G - n) = G from by omega]
  have hcs' : (([] : List Value).toArray ++ Builtin.zeroCells z.cells (0 + n - 0) ++ Builtin.zeroCells z.cells (G - (0 + n)) : Array Value) = cs:=hcs;rw [hcs'];refine ⟨some ⟨w.heap.size,0,none⟩,G,rfl,⟨⟨rfl,.inr ⟨w.heap.size,G,cs,rfl,Nat.le_refl _,heap_alloc_new w.drew _,Nat.zero_le _,hM,hsz2,rfl⟩⟩,rfl,by simp⟩,((Below.refl _ _).drew).alloc (Nat.le_refl _) _⟩
theorem growA_any (w : World) (n : Nat) (hn : n ≤ 1000) :
    Calls Tryz.prog 190 #[.slice none 0 0,.int .i64 n] w fun e w'=>∃ A cap,e = .returned (.slice A 0 cap) ∧ Own w' w.heap.size 139 70 A 0 cap [] ∧ Below w.heap.size w w':=by
  rcases Nat.eq_zero_or_pos n with rfl | h0
  · go_enter Tryz.func190,Tryz.ntmps190
    (go_wp2_with fail);go_ret;exact ⟨none,0,rfl,Own.nil _ _ _ _,Below.refl _ _⟩
  · exact growA0 w n h0 hn
theorem concatA (w : World) (q c0 : Nat) (A1 A2 : Option Addr) (n1 n2 c1 c2 : Nat) (R1 R2 : List ActM) (h1 : ActsIn w A1 n1 R1) (h2 : ActsIn w A2 n2 R2) (f1 : A1 = none → c1 = 0) (f2 : A2 = none → c2 = 0)
    (k0 : w.cell? ⟨q,0,none⟩ = some (.slice A1 n1 c1)) (k1 : w.cell? ⟨q,1,none⟩ = some (.slice A2 n2 c2)) (hn : n1 + n2 ≤ 1000) :
    Calls Tryz.prog 111 #[.slice (some ⟨q,0,none⟩) 2 c0] w fun e w'=>∃ A cap,e = .returned (.slice A (n1 + n2) cap) ∧ Own w' w.heap.size 139 70 A (n1 + n2) cap ((R1 ++ R2).map actR) ∧ Below w.heap.size w w':=by
  have cg:=growA_any w (n1 + n2) hn;rw [show ((n1 + n2 : Nat) : Int) = (n1 : Int) + (n2 : Int) from by omega] at cg;go_enter Tryz.func111,Tryz.ntmps111
  (go_wp2_with fail);refine wp_loop_rounds 3 ?_;rw [rounds_succ];(go_wp2_with fail);rw [rounds_succ];(go_wp2_with fail);rw [rounds_succ];(go_wp2_with fail);refine cg.mono ?_;rintro e w1 ⟨A,cap,rfl,hown,hb⟩;have k0':=(hb.cell (World.block_lt_of_cell? w _ k0)).trans k0;have k1':=(hb.cell (World.block_lt_of_cell? w _ k1)).trans k1;have t1 : ActsIn w1 A1 n1 R1:=SlR.below h1 hb;have hq : q < w.heap.size:=World.block_lt_of_cell? w _ k0;have hone:=onesA;have hsz:=hb.size;have Hone:=Lib.hid hone;clear cg hone;(go_wp2_with fail);refine wp_loop_rounds 3 ?_;rw [rounds_succ];go_wp2_with (at_builtin;refine L_appends einfoAct rfl hown rfl t1 f1 (Hone.out _) (by omega) (by omega) (by omega) ?_;intro B1 d1 w2 hown2 hk2 hsub2)
  simp only [Nat.zero_add,List.nil_append] at hown2;have hb2 : Below w.heap.size w w2:=hb.trans (hk2.below (by have:=hb.size;omega) (fun x hx=>(hown.at_base hx).1));have hsz2:=hb2.size;have k12:=(hb2.cell (World.block_lt_of_cell? w _ k1)).trans k1;have k02:=(hb2.cell (World.block_lt_of_cell? w _ k0)).trans k0;have t22 : ActsIn w2 A2 n2 R2:=SlR.below h2 hb2;clear hk2 hsub2 hown k0' k1';rw [rounds_succ];go_wp2_with (at_builtin;refine L_appends einfoAct rfl hown2 rfl t22 f2 (Hone.out _) (by omega) (by omega) (by omega) ?_;intro B3 d3 w3 hown3 hk3 hsub3)
  simp only [← List.map_append] at hown3;have hb3 : Below w.heap.size w w3:=hb2.trans (hk3.below (by have:=hb2.size;omega) (fun x hx=>(hown2.at_base hx).1));have k03:=(hb3.cell (World.block_lt_of_cell? w _ k0)).trans k0;have Hown3:=Lib.hid hown3;clear hk3 hsub3 hown2 k02 k12 hown3;rw [rounds_succ];(go_wp2_with fail);go_ret;exact ⟨B3,d3,rfl,Hown3.out,hb3⟩
end
section
open Go.RowKit
section
variable {κ ν : Type} {P : Program} {K T E' : TypeId} {kv : κ → Value} {vv : ν → Value} {ok : κ → Prop} {w : World} {b : Nat} {M : List (κ × ν)} {es : Array MapEntry} {clk : Nat}
theorem MapAt.at_heap {w' : World} (h : MapAt w b kv vv ok M es clk) (hw : w'.heap[b]? = some (.map es clk)) : MapAt w' b kv vv ok M es clk:={ h with heap:=hw }
theorem MapAt.entry [DecidableEq κ] (h : MapAt w b kv vv ok M es clk) (E : KeyEnc P K kv ok) (ht : P.underlying T = some (.map K E')) {z0 : ν} (hz : ∀ w,(zeroValue E').run P w = .ok (vv z0) w) {k : κ} (hk : ok k) :
    ∃ (v0 : ν) (st : Int) (w1 : World),(Instr.mapEntry T (.map (some b)) (kv k)).run P w = .ok (.tuple #[vv v0,.int .i64 st]) w1 ∧ ((k,v0) ∈ M ∨ (k ∉ M.map (·.1) ∧ v0 = z0)) ∧ Keep [b] w w1 ∧ w1.heap.size = w.heap.size ∧
      ∀ (w2 : World) (v : ν),w2.heap[b]? = w1.heap[b]? → ∃ (w3 : World) (es3 : Array MapEntry) (clk3 : Nat),(Instr.entryStore T (.map (some b)) (.int .i64 st) (vv v)).run P w2 = .ok () w3 ∧ MapAt w3 b kv vv ok (putL M k v) es3 clk3 ∧ Keep [b] w2 w3 ∧ w3.heap.size = w2.heap.size:=by
  obtain ⟨l,hl⟩:=E.key k hk;rcases h.find E hk with ⟨hf,hno⟩ | ⟨j,p,hf,hp,hpk⟩
  · refine ⟨z0,clk,_,?_,.inr ⟨hno,rfl⟩,keep_setObj w b (.map (es.push { key:=kv k,val:=vv z0,born:=clk }) (clk + 1)),by simp,fun w2 v hw2=>?_⟩
    · simp only [Instr.mapEntry,Sem.run_bind,run_underlying ht,Result.andThen_ok,run_getObj_map h.heap,E.law.check w false hl,hf,hz,run_setObj' h.heap,goInt,Sem.run_pure]
    · rw [heap_setObj _ h.lt] at hw2;obtain ⟨w',es',clk',hrun,hm',_⟩:=h.update E ht hk (v:=v);have hrun2 : (Instr.mapUpdate T (.map (some b)) (kv k) (vv v)).run P w = .ok () { w with heap:=w.heap.setIfInBounds b (.map (es.push { key:=kv k,val:=vv v,born:=clk }) (clk + 1)) }:=by
        simp only [Instr.mapUpdate,Sem.run_bind,run_underlying ht,Result.andThen_ok,run_getObj_map h.heap,E.law.check w false hl,hf,run_setObj' h.heap]
      rw [hrun2] at hrun;injection hrun with _ hw'
      subst hw';have hh:=hm'.heap;rw [heap_setObj _ h.lt] at hh;injection hh with hh
      injection hh with e1 e2
      subst e1;subst e2;have hidx : (es.push { key:=kv k,val:=vv z0,born:=clk }).findIdx? (fun e=>((e.born : Nat) : Int) == ((clk : Nat) : Int)) = some es.size:=by
        rw [WideElems.findIdx_arr];exact WideElems.findIdx_born (l:=(es.push { key:=kv k,val:=vv z0,born:=clk }).toList) (j:=es.size) (e0:={ key:=kv k,val:=vv z0,born:=clk }) (by
          simp only [Array.toList_push,List.map_append,List.map_cons,List.map_nil];refine List.nodup_append.2 ⟨h.born,by simp,fun a ha c hc e1=>?_⟩;simp only [List.mem_singleton] at hc;obtain ⟨x,hx,rfl⟩:=List.mem_map.1 ha;have:=h.clock x hx;omega) (by simp)
      have hmod : (es.push { key:=kv k,val:=vv z0,born:=clk }).modify es.size (fun e=>{ e with val:=vv v }) = es.push { key:=kv k,val:=vv v,born:=clk }:=by
        apply Array.ext';rw [Array.toList_modify,Array.toList_push,Array.toList_push,← Array.length_toList,WideElems.modify_last]
      have hb2 : b < w2.heap.size:=(Array.getElem?_eq_some_iff.1 hw2).1;refine ⟨_,_,_,?_,hm'.at_heap (heap_setObj (w:=w2) _ hb2),keep_setObj w2 b _,by simp⟩;simp only [Instr.entryStore,Sem.run_bind,run_getObj_map hw2,Result.andThen_ok,asInt,asIntOf,Sem.run_pure,hidx,hmod,run_setObj' hw2]
  · obtain ⟨e0,he0,hek,hev⟩:=h.at_ hp;have hj : es[j]? = some e0:=by simpa using he0
    have hold : ((es[j]?).map (·.key)).getD (kv k) = kv k:=by rw [hj];simp [hek,hpk]
    have hborn : ((es[j]?).map fun x=>((x.born : Nat) : Int)).getD 0 = ((e0.born : Nat) : Int):=by rw [hj];rfl
    have hsame : es.modify j (fun e=>{ e with key:=kv k }) = es:=by
      apply Array.ext';rw [Array.toList_modify,ChangeMaps.modify_eq_set _ _ _ _ he0];have e1 : ({ e0 with key:=kv k } : MapEntry) = e0:=by rw [← hpk,← hek]
      rw [e1];exact WideElems.set_self _ _ _ he0
    refine ⟨p.2,e0.born,_,?_,.inl ?_,keep_setObj w b (.map es clk),by simp,fun w2 v hw2=>?_⟩
    · simp only [Instr.mapEntry,Sem.run_bind,run_underlying ht,Result.andThen_ok,run_getObj_map h.heap,E.law.check w false hl,hf,hold,hborn,E.law.stays w hl,hsame,run_setObj' h.heap,goInt,Sem.run_pure]
    · rw [← hpk];exact List.mem_of_getElem? hp
    · rw [heap_setObj _ h.lt] at hw2;obtain ⟨w',es',clk',hrun,hm',_⟩:=h.update E ht hk (v:=v);have hrun2 : (Instr.mapUpdate T (.map (some b)) (kv k) (vv v)).run P w = .ok () { w with heap:=w.heap.setIfInBounds b (.map (es.modify j fun e=>{ e with key:=kv k,val:=vv v }) clk) }:=by
        simp only [Instr.mapUpdate,Sem.run_bind,run_underlying ht,Result.andThen_ok,run_getObj_map h.heap,E.law.check w false hl,hf,hold,E.law.stays w hl,run_setObj' h.heap]
      rw [hrun2] at hrun;injection hrun with _ hw'
      subst hw';have hh:=hm'.heap;rw [heap_setObj _ h.lt] at hh;injection hh with hh
      injection hh with e1 e2
      subst e1;subst e2;have hidx : es.findIdx? (fun e=>((e.born : Nat) : Int) == ((e0.born : Nat) : Int)) = some j:=by
        rw [WideElems.findIdx_arr];exact WideElems.findIdx_born h.born he0
      have hmod : es.modify j (fun e=>{ e with val:=vv v }) = es.modify j (fun e'=>{ e' with key:=kv k,val:=vv v }):=by
        apply Array.ext';have e1 : e0.key = kv k:=by rw [hek,hpk]
        rw [Array.toList_modify,Array.toList_modify,ChangeMaps.modify_eq_set _ _ _ _ he0,ChangeMaps.modify_eq_set _ _ _ _ he0,← e1]
      have hb2 : b < w2.heap.size:=(Array.getElem?_eq_some_iff.1 hw2).1;refine ⟨_,_,_,?_,hm'.at_heap (heap_setObj (w:=w2) _ hb2),keep_setObj w2 b _,by simp⟩;simp only [Instr.entryStore,Sem.run_bind,run_getObj_map hw2,Result.andThen_ok,asInt,asIntOf,Sem.run_pure,hidx,hmod,run_setObj' hw2]
end
end
section
open Go.RowKit Go.Shelf Stb
attribute [local go_sem] Oper.semAt_some
def Kq (n0 gm : Nat) (W W' : World) : Prop:=W.heap.size ≤ W'.heap.size ∧ ∀ x,x < n0 → x ≠ gm → W'.heap[x]? = W.heap[x]?
theorem Kq.refl (n0 gm : Nat) (W : World) : Kq n0 gm W W:=⟨Nat.le_refl _,fun _ _ _=>rfl⟩
theorem Kq.trans {n0 gm : Nat} {A B C : World} (h : Kq n0 gm A B) (k : Kq n0 gm B C) : Kq n0 gm A C:=⟨Nat.le_trans h.1 k.1,fun x h1 h2=>(k.2 x h1 h2).trans (h.2 x h1 h2)⟩
theorem kq_acts {n0 gm : Nat} {W W' : World} {A : Option Addr} {n : Nat} {zs : List ActM} (k : Kq n0 gm W W') (h : ActsIn W A n zs) (hA : ∀ x ∈ blk A,x < n0 ∧ x ≠ gm) : ActsIn W' A n zs :=
  ⟨h.1,fun h0=>by
    obtain ⟨q,o,e,hc⟩:=h.2 h0;refine ⟨q,o,e,fun i hi=>?_⟩;have hq:=hA q (by simp [blk,e]);rw [rowAt_of_block (k.2 q hq.1 hq.2)];exact hc i hi⟩
def backF (zs : List ActM) (k : Nat) : Nat × ActM:=(zs.length - 1 - k,zs[zs.length - 1 - k]?.getD ⟨markV0,none,0⟩)
def backU (zs : List ActM) (k : Nat) : List (Nat × ActM):=(List.range k).map (backF zs)
theorem backU_succ (zs : List ActM) (k : Nat) : backU zs (k + 1) = backU zs k ++ [backF zs k]:=by simp [backU,List.range_succ]
theorem backU_length (zs : List ActM) (k : Nat) : (backU zs k).length = k:=by simp [backU]
theorem backU_all (zs : List ActM) : (backU zs zs.length).map (·.2) = zs.reverse:=by
  apply List.ext_getElem
  · simp [backU]
  · intro i h1 h2;simp [backU] at h1;have hl : zs.length - 1 - i < zs.length:=by omega
    simp only [backU,backF,List.map_map,List.getElem_map,List.getElem_range,Function.comp_apply,List.getElem_reverse];rw [List.getElem?_eq_getElem hl];rfl
set_option maxRecDepth 100000 in
set_option maxHeartbeats 4000000 in
theorem back1_in (n : Nat) (hn : 1 ≤ n) (l Bs n0 gm : Nat) (A : Option Addr) (zs : List ActM) (cap : Nat) (J Jx : List (Nat × ActM) → World → Prop)
    (hY : ∀ pre x W,J pre W → pre.length < zs.length → YieldAt Fence.wide (n - 1) Tryz.prog l #[.int .i64 (x.1 : Nat),.agg (actR x.2)] W fun e W' =>
      (e = .returned (.bool true) ∧ J (pre ++ [x]) W' ∧ Kq n0 gm W W') ∨ (e = .returned (.bool false) ∧ Jx (pre ++ [x]) W'))
    (W : World) (hBs : W.cell? ⟨Bs,0,none⟩ = some (.slice A zs.length cap)) (hBl : Bs < n0 ∧ Bs ≠ gm) (hz : ActsIn W A zs.length zs) (hA : ∀ x ∈ blk A,x < n0 ∧ x ≠ gm) (hzl : zs.length ≤ 1000) (h0 : J [] W) :
    CallsIn Fence.wide n Tryz.prog 239 #[.func (.yield l) #[] #[],.pointer (some ⟨Bs,0,none⟩)] W fun e W'=>(∃ v,e = .returned v) ∧
      ((∃ ys,ys = backU zs zs.length ∧ J ys W') ∨ (∃ pre,True ∧ Jx pre W')):=by
  refine callsIn_of_wp Tryz.func239 rfl trivial ?_ rfl;simp only [Tryz.ntmps239,List.size_toArray,List.length_cons,List.length_nil,Nat.reduceAdd,Nat.reduceSub,Array.replicate_succ,Array.replicate_zero,List.push_toArray,List.append_toArray,List.nil_append,List.cons_append]
  gi_wp2
  gi_loopw [3] (fun i wr=>∃ k : Nat,k ≤ zs.length ∧ i = .int .i64 ((zs.length : Int) - 1 - k) ∧ J (backU zs k) wr ∧ Kq n0 gm W wr)
    (fun i _=>(intOf i + 1).toNat)
  case atStart=>exact ⟨0,Nat.zero_le _,by simp,h0,Kq.refl _ _ _⟩
  case round =>
    obtain ⟨k,hk,rfl,hJs,hnx⟩:=hrel;have hBr : wr.cell? ⟨Bs,0,none⟩ = some (.slice A zs.length cap):=(World.cell?_of_block (w:=W) (hnx.2 Bs hBl.1 hBl.2)).trans hBs;by_cases hlt : k < zs.length
    · have hzr:=kq_acts hnx hz hA;obtain ⟨q,o,rfl,hrow⟩:=ActsIn.get hzr (i:=zs.length - 1 - k) (by omega) (by omega);have hx : backF zs k = (zs.length - 1 - k,zs[zs.length - 1 - k]'(by omega)):=by unfold backF;rw [List.getElem?_eq_getElem (by omega)];rfl
      obtain ⟨fn,tmps,assign,body,hy,hR⟩:=hY _ (backF zs k) wr hJs (by rw [backU_length];exact hlt);rw [← backU_succ] at hR;rw [hx] at hy;dsimp only at hy;obtain ⟨x,hxx⟩ : ∃ x,zs[zs.length - 1 - k]'(by omega) = x:=⟨_,rfl⟩
      rw [hxx] at hrow hy;obtain ⟨m,hm⟩ : ∃ m,zs.length - 1 - k = m:=⟨_,rfl⟩
      have hmi : ((zs.length : Int) - 1 - (k : Int)) = (m : Int):=by omega
      rw [hm] at hrow hy;rw [hmi];have Hm:=Lib.hid hm;have hml : m < zs.length:=by omega
      clear hx hxx hm hmi hzr
      gi_wp2
      refine hR.mono ?_;rintro e W3 (⟨rfl,hJ3,hk3⟩ | ⟨rfl,hJx3⟩)
      · have hk4:=hnx.trans hk3;clear hR hy hrow hBr hJs hnx hk3
        gi_wp2
        go_roundw
        case rel=>exact ⟨k + 1,by omega,by have:=Hm.out;go_num,hJ3,hk4⟩
        case measure=>simp [intOf]
      · clear hR hy hrow hBr hJs hnx
        gi_wp2
        refine bodyPost_ret (results_none rfl _ _ _) rfl ?_;exact ⟨⟨_,rfl⟩,.inr ⟨_,trivial,hJx3⟩⟩
    · obtain rfl : k = zs.length:=by omega
      have hmi : ((zs.length : Int) - 1 - (zs.length : Int)) = -1:=by omega
      rw [hmi]
      gi_wp2
      go_end0;exact ⟨⟨_,rfl⟩,.inl ⟨_,rfl,hJs⟩⟩
theorem back_any (A : Option Addr) (n cap : Nat) (w : World) : Calls Tryz.prog 189 #[.slice A n cap] w fun e w'=>e = .returned (.func (.func 239) #[] #[.pointer (some ⟨w.heap.size,0,none⟩)]) ∧ w' = w.alloc (.cells #[.slice A n cap] 89):=by
  go_enter Tryz.func189,Tryz.ntmps189
  (go_wp2_with fail);go_ret;exact ⟨rfl,rfl⟩
theorem back_stops (n : Nat) (hn : 1 ≤ n) (Bs n0 gm : Nat) (A : Option Addr) (zs : List ActM) (cap : Nat) (w : World) (hBs : w.cell? ⟨Bs,0,none⟩ = some (.slice A zs.length cap)) (hBl : Bs < n0 ∧ Bs ≠ gm) (hz : ActsIn w A zs.length zs) (hA : ∀ x ∈ blk A,x < n0 ∧ x ≠ gm) (hzl : zs.length ≤ 1000) (hn0 : n0 ≤ w.heap.size) :
    SeqStopsK Fence.wide n Tryz.prog 239 #[.pointer (some ⟨Bs,0,none⟩)] (fun x : Nat × ActM=>#[.int .i64 (x.1 : Nat),.agg (actR x.2)]) (Kq n0 gm) (fun ys=>ys = backU zs zs.length) (fun _=>True) zs.length w:=fun l J Jx W hW _ _ hY h0 =>
  back1_in n hn l Bs n0 gm A zs cap J Jx hY W ((hW.cell (p:=⟨Bs,0,none⟩) (by show Bs < _;omega)).trans hBs) hBl (SlR.below hz hW) hA hzl h0
theorem L_appendIn {F : Fence} {fu : Nat} {P : Program} {ops : Array Oper} {Q : Exit → Act → World → Prop} {a : Act} {w : World} {rest : List Oper} {dst : Option Tmp} {s x : Operand} {ty : TypeId} {pos : String} {after : Array Edge} {T E : TypeId} {k bytes : Nat} (I : ElemInfo P T E k bytes)
    {B : Nat} {A : Option Addr} {n cap : Nat} {L : List (Array Value)} (hs : a.eval s = .slice A n cap) (hown : Own w B E k A n cap L)
    {q o c : Nat} {cs : Array Value} (hx : a.eval x = .slice (some ⟨q,o,none⟩) 1 c) (hrow : rowAt w q o k = some cs) (hone : ∀ u ∈ cs.toList,u.oneCell' = true) (hbytes : (n + 1) * bytes ≤ 140737488355328) (hn : n + 1 ≤ 9223372036854775807) (hB : B ≤ w.heap.size)
    (h : ∀ A' cap' w',Own w' B E k A' (n + 1) cap' (L ++ [cs]) → Keep (blk A) w w' → (∀ x ∈ blk A',x ∈ blk A ∨ w.heap.size ≤ x) → wpListIn F fu P ops Q rest (a.put dst (.slice A' (n + 1) cap')) w') :
    wpListIn F fu P ops Q ({ dst:=dst,op:=.call { callee:=.builtin .append,args:=#[s,x],argTypes:=#[T,T] },type:=ty,pos:=pos,after:=after,guard:=none } :: rest) a w:=by
  refine wpListIn_plain rfl fun K hK'=>?_;obtain ⟨A',cap',w',hrun,h1,h2,h3⟩:=append_one I hown hrow hone hbytes hn hB ty;unfold Oper.wpIn;refine ⟨?_,?_⟩
  · simp [Oper.about,resolve,Target.leads,Sem.run_pure]
  · rw [Oper.semAt_plain F _ _ (by intro c hc';cases hc')];simp [execOp,resolve,invoke,builtin,hs,hx,Result.andThen];rw [hrun];exact hK' _ _ (h A' cap' w' h1 h2 h3)
def refF (P : List ActM) (r : Id32) : List ActM:=P.filter fun a=>decide ((oOf a.m).ref = r)
theorem refF_snoc (P : List ActM) (a : ActM) (r : Id32) : refF (P ++ [a]) r = if (oOf a.m).ref = r then refF P r ++ [a] else refF P r:=by
  unfold refF;rw [List.filter_append];by_cases h : (oOf a.m).ref = r <;> simp [h]
structure TreeIn (w : World) (b B : Nat) (P : List ActM) (BM : List (Id32 × Sl)) (es : Array MapEntry) (clk : Nat) : Prop where
  map : MapAt w b idV slV okId BM es clk
  own : ∀ p ∈ BM,Own w B 139 70 p.2.A p.2.n p.2.c ((refF P p.1).map actR)
  dis : ∀ p ∈ BM,∀ q ∈ BM,p.1 ≠ q.1 → ∀ x ∈ blk p.2.A,x ∉ blk q.2.A
  no : ∀ r,r ∉ BM.map (·.1) → refF P r = []
def TreeW (w : World) (b B : Nat) (P : List ActM) : Prop:=∃ BM es clk,TreeIn w b B P BM es clk
theorem own_grown {w w' : World} {B : Nat} {E : TypeId} {k : Nat} {A : Option Addr} {n cap : Nat} {L : List (Array Value)} {row : Option Nat} (h : Own w B E k A n cap L) (hg : w.grownBy w' row) (hr : ∀ r,row = some r → ∃ o : Obj,w.heap[r]? = some o ∧ o.isCells = false) : Own w' B E k A n cap L:=by
  refine h.kept (Keep.grown hg) fun x hx hm=>?_;cases row with
  | none=>simp at hm
  | some r =>
    have e : x = r:=by simpa using hm
    subst e;obtain ⟨o,ho,hc⟩:=hr x rfl;rcases h.row.2 with ⟨hv,_⟩ | ⟨g,c,cur,hv,_,hgc,_⟩
    · injection hv with h1;subst h1;simp [blk] at hx
    · injection hv with h1 h2 h3
      subst h1;have e : x = g:=by simpa [blk] using hx
      subst e;rw [hgc] at ho;injection ho with ho
      subst ho;simp [Obj.isCells] at hc
theorem TreeW.grown {w w' : World} {b B : Nat} {P : List ActM} {row : Option Nat} (h : TreeW w b B P) (hb : b < B) (hg : w.grownBy w' row) (hr : ∀ r,row = some r → B ≤ r ∧ ∃ o : Obj,w.heap[r]? = some o ∧ o.isCells = false) : TreeW w' b B P:=by
  obtain ⟨BM,es,clk,h⟩:=h;refine ⟨BM,es,clk,h.map.kept (Keep.grown hg) ?_,fun p hp=>own_grown (h.own p hp) hg (fun r e=>(hr r e).2),h.dis,h.no⟩;intro hm;cases row with
  | none=>simp at hm
  | some r =>
    have e : b = r:=by simpa using hm
    have:=(hr r rfl).1;omega
theorem zeroSlActs (w : World) : (zeroValue 89).run Tryz.prog w = .ok (.slice none 0 0) w:=by kernel_rfl
theorem TreeW.new (w : World) (b B : Nat) (hb : b = w.heap.size) : TreeW (w.alloc (.map #[] 0)) b B [] :=
  ⟨[],#[],0,MapAt.new w b hb,by simp,by simp,fun r _=>rfl⟩
theorem TreeW.below {w w' : World} {b B : Nat} {P : List ActM} (h : TreeW w b B P) (hb : Below w.heap.size w w') : TreeW w' b B P:=by
  obtain ⟨BM,es,clk,h⟩:=h;exact ⟨BM,es,clk,h.map.kept (Keep.of_below hb) (by simp),fun p hp=>(h.own p hp).below hb,h.dis,h.no⟩
theorem TreeW.entry {w : World} {b B : Nat} {P : List ActM} (h : TreeW w b B P) (hbB : b < B) (a : ActM) :
    ∃ (s : Sl) (st : Int) (w1 : World),(Instr.mapEntry 148 (.map (some b)) (.agg (idC (oOf a.m).ref))).run Tryz.prog w = .ok (.tuple #[.slice s.A s.n s.c,.int .i64 st]) w1 ∧
      Own w1 B 139 70 s.A s.n s.c ((refF P (oOf a.m).ref).map actR) ∧ Keep [b] w w1 ∧ w1.heap.size = w.heap.size ∧
      ∀ (w2 : World) (s2 : Sl),Keep (blk s.A) w1 w2 → Own w2 B 139 70 s2.A s2.n s2.c ((refF P (oOf a.m).ref ++ [a]).map actR) → (∀ x ∈ blk s2.A,x ∈ blk s.A ∨ w1.heap.size ≤ x) →
        ∃ w3,(Instr.entryStore 148 (.map (some b)) (.int .i64 st) (.slice s2.A s2.n s2.c)).run Tryz.prog w2 = .ok () w3 ∧ TreeW w3 b B (P ++ [a]) ∧ Keep [b] w2 w3 ∧ w3.heap.size = w2.heap.size:=by
  obtain ⟨BM,es,clk,hm,hown,hdis,hno⟩:=h;obtain ⟨s,st,w1,hrun,hs,hk,hsz,hst⟩:=hm.entry (P:=Tryz.prog) (z0:=(⟨none,0,0⟩ : Sl)) idKey Tryz.underlying148 (fun w=>zeroSlActs w) (k:=(oOf a.m).ref) trivial;have hnb : ∀ {p : Id32 × Sl},p ∈ BM → ∀ x ∈ blk p.2.A,x ∉ [b]:=fun hp x hx=>(by have:=((hown _ hp).at_base hx).1;simp;omega);have hown1 : Own w1 B 139 70 s.A s.n s.c ((refF P (oOf a.m).ref).map actR):=by
    rcases hs with hs | ⟨hs,rfl⟩
    · exact (hown _ hs).kept hk (hnb hs)
    · rw [hno _ hs];exact Own.nil _ _ _ _
  have hsb : b ∉ blk s.A:=fun hx=>(by have:=(hown1.at_base hx).1;omega);have hbl : b < w1.heap.size:=by have:=hm.lt;omega
  refine ⟨s,st,w1,hrun,hown1,hk,hsz,fun w2 s2 hk2 ho2 hsub=>?_⟩;obtain ⟨w3,es3,clk3,hrun3,hm3,hk3,hsz3⟩:=hst w2 s2 (hk2.block b hbl hsb);have hdx : ∀ q ∈ BM,q.1 ≠ (oOf a.m).ref → ∀ x ∈ blk q.2.A,x ∉ blk s.A:=fun q hq hne x hx=>by
    rcases hs with hs | ⟨_,rfl⟩
    · exact hdis q hq _ hs hne x hx
    · simp [blk]
  refine ⟨w3,hrun3,⟨_,es3,clk3,hm3,fun p hp=>?_,fun p hp q hq hne x hx=>?_,fun r hr=>?_⟩,hk3,hsz3⟩
  · rcases mem_putL hp with e | ⟨hp,hne⟩
    · subst e;dsimp only;rw [refF_snoc,if_pos rfl];exact ho2.kept hk3 (fun x hx=>by have:=(ho2.at_base hx).1;simp;omega)
    · rw [refF_snoc,if_neg (fun e=>hne e.symm)];refine (((hown p hp).kept hk (hnb hp)).kept hk2 (hdx p hp hne)).kept hk3 (hnb hp)
  · have hlt : ∀ q ∈ BM,∀ x ∈ blk q.2.A,x < w1.heap.size:=fun q hq x hx=>(by have:=((hown q hq).at_base hx).2;omega);rcases mem_putL hp with e | ⟨hp,hpn⟩ <;> rcases mem_putL hq with e' | ⟨hq,hqn⟩
    · subst e;subst e';exact absurd rfl hne
    · subst e;intro hm;rcases hsub x hx with h1 | h1
      · exact hdx q hq hqn x hm h1
      · have:=hlt q hq x hm;omega
    · subst e';intro hm;rcases hsub x hm with h1 | h1
      · exact hdx p hp hpn x hx h1
      · have:=hlt p hp x hx;omega
    · exact hdis p hp q hq hne x hx
  · obtain ⟨h1,h2⟩:=keys_putL hr;rw [refF_snoc,if_neg (fun e=>h2 e.symm)];exact hno r h1
theorem own_cells {w : World} {B : Nat} {E : TypeId} {k : Nat} {A : Option Addr} {n cap : Nat} {L : List (Array Value)} (h : Own w B E k A n cap L) {x : Nat} (hx : x ∈ blk A) : ∃ o : Obj,w.heap[x]? = some o ∧ o.isCells = true:=by
  rcases h.row.2 with ⟨hv,_⟩ | ⟨g,c,cur,hv,_,hgc,_⟩
  · injection hv with h1;subst h1;simp [blk] at hx
  · injection hv with h1 h2 h3
    subst h1;have e : x = g:=by simpa [blk] using hx
    subst e;exact ⟨_,hgc,rfl⟩
end
section
open Go.RowKit Go.Shelf Stb
attribute [local go_sem] Oper.semAt_some
def okA (a : ActM) : Bool:=decide (a.m.id ≠ id0) && (decide (1 ≤ a.m.h) && decide (a.m.h ≤ 1073741824))
def treeL (L : List ActM) : List ActM:=((L.filter fun a=>decide ((kM a : Int) = 6)).reverse).filter okA
set_option maxRecDepth 100000 in
set_option maxHeartbeats 4000000 in
theorem dtree (A : Option Addr) (n cap : Nat) (L : List ActM) (B : Nat) (w : World) (h : ActsAt w B A n cap L) (hn : n ≤ 30) :
    Calls Tryz.prog 109 #[.slice A n cap] w fun e w'=>∃ gm BT,e = .returned (.map (some gm)) ∧ TreeW w' gm BT (treeL L) ∧ w.heap.size ≤ gm ∧ gm < BT ∧ Below w.heap.size w w':=by
  have hmm:=@run_makeMap Tryz.prog;have hlen : L.length = n:=by simpa using h.own.len
  obtain ⟨L6,hL6⟩ : ∃ L6,(L.filter fun a=>decide ((kM a : Int) = 6)) = L6:=⟨_,rfl⟩
  have hl6 : L6.length ≤ 30:=by rw [← hL6];exact Nat.le_trans (List.length_filter_le _ _) (by omega)
  have c6:=fun w' (hb : Below w.heap.size w w')=>of_any 6 A n cap L B w' (h.below hb) hn;have htl : treeL L = L6.reverse.filter okA:=by unfold treeL;rw [hL6]
  simp only [hL6] at c6;rw [htl];have k1:=fun B=>TreeW.new w w.heap.size B rfl;have hb0 : Below w.heap.size w ((w.alloc (.map #[] 0)).alloc (.cells #[.map (some w.heap.size)] 148)):=((Below.refl _ _).alloc (Nat.le_refl _) _).alloc (by simp) _;have k2:=fun B=>(k1 B).below ((Below.refl _ (w.alloc (.map #[] 0))).alloc (Nat.le_refl _) (.cells #[.map (some w.heap.size)] 148));have kc : ((w.alloc (.map #[] 0)).alloc (.cells #[.map (some w.heap.size)] 148)).cell? ⟨w.heap.size + 1,0,none⟩ = some (.map (some w.heap.size)):=by simp [go_sem]
  have hz0 : ((w.alloc (.map #[] 0)).alloc (.cells #[.map (some w.heap.size)] 148)).heap.size = w.heap.size + 2:=by simp
  clear k1 hL6 htl;refine (callsIn_wide (n:=6)).1 ?_;refine callsIn_of_wp_marks Tryz.func109 rfl trivial ?_ rfl;simp only [Tryz.ntmps109,List.size_toArray,List.length_cons,List.length_nil,Nat.reduceAdd,Nat.reduceSub,Array.replicate_succ,Array.replicate_zero,List.push_toArray,List.append_toArray,List.nil_append,List.cons_append]
  gi_wp2_with fail
  refine ⟨trivial,(callsIn_wide.2 (c6 _ hb0)).mono ?_⟩;rintro e w1 ⟨A6,cap6,rfl,h6,hb1⟩;obtain ⟨gm,hgm⟩ : ∃ gm,w.heap.size = gm:=⟨_,rfl⟩
  have Hgm:=Lib.hid hgm;simp only [hgm] at k2;rw [hgm] at hz0 kc hb0 h6 hb1 ⊢;obtain ⟨W0,hW0⟩ : ∃ W0,(w.alloc (.map #[] 0)).alloc (.cells #[.map (some gm)] 148) = W0:=⟨_,rfl⟩
  simp only [hW0] at k2;rw [hW0] at hz0 kc hb0 h6 hb1;have kc1:=(hb1.cell (p:=⟨gm + 1,0,none⟩) (by show gm + 1 < _;omega)).trans kc;have k3:=fun B=>(k2 B).below hb1;have hb2 : Below gm w w1:=hb0.trans (hb1.mono (by omega));have hsz1:=hb1.size;have hA6 : ∀ x ∈ blk A6,gm + 2 ≤ x ∧ x < w1.heap.size:=fun x hx=>(by have:=h6.own.at_base hx;omega);have hz6 : ActsIn w1 A6 L6.length L6:=h6.own.slr;clear hW0 hgm c6 k2 kc hb0 hb1 h6;have hbx : Below w1.heap.size w1 (w1.alloc (.cells #[.slice A6 L6.length cap6] 89)):=(Below.refl _ _).alloc (Nat.le_refl _) _;have kc2:=(hbx.cell (p:=⟨gm + 1,0,none⟩) (by show gm + 1 < _;omega)).trans kc1;have k4:=fun B=>(k3 B).below hbx;have hb3 : Below gm w (w1.alloc (.cells #[.slice A6 L6.length cap6] 89)):=hb2.trans (hbx.mono (by omega));have hz7 : ActsIn (w1.alloc (.cells #[.slice A6 L6.length cap6] 89)) A6 L6.length L6:=SlR.below hz6 hbx;have hbs : (w1.alloc (.cells #[.slice A6 L6.length cap6] 89)).cell? ⟨w1.heap.size,0,none⟩ = some (.slice A6 L6.length cap6):=by simp [go_sem]
  have hsz2 : (w1.alloc (.cells #[.slice A6 L6.length cap6] 89)).heap.size = w1.heap.size + 1:=by simp
  gi_wp2_with fail
  refine ⟨trivial,(callsIn_wide.2 (back_any A6 L6.length cap6 w1)).mono ?_⟩;rintro e w2 ⟨rfl,rfl⟩;obtain ⟨Bs,hBs⟩ : ∃ Bs,w1.heap.size = Bs:=⟨_,rfl⟩
  obtain ⟨W2,hW2⟩ : ∃ W2,(w1.alloc (.cells #[.slice A6 L6.length cap6] 89)) = W2:=⟨_,rfl⟩
  simp only [hW2] at k4;rw [hW2] at kc2 hb3 hz7 hbs hsz2 ⊢;rw [hBs] at hbs hsz1 hsz2 hA6 ⊢;clear hW2 hBs hbx kc1 k3 hb2 hz6
  gi_wp2_with fail
  have hI : OwnFrom W2.heap.size (fun (pre : List (Nat × ActM)) (W : World)=>((W.cell? ⟨gm + 1,0,none⟩ = some (.map (some gm)) ∧ TreeW W gm W2.heap.size ((pre.map fun x=>x.2).filter okA)) ∧ W2.heap.size ≤ W.heap.size) ∧ Below gm w W) :=
    OwnFrom.and (fun s X Y row hs hg hr=>⟨⟨cell_kept hs.1.1 hg (fun r e=>(hr r e).2),hs.1.2.grown (B:=W2.heap.size) (by omega) hg hr⟩,Nat.le_trans hs.2 hg.size⟩) (ownFrom_below (by rw [Hgm.out];exact Nat.le_refl _) (by omega))
  refine wpIn_rangeFunc_ownH rfl (by omega) (gf:=239) (lb:=#[.pointer (some ⟨Bs,0,none⟩)]) rfl trivial (enters_of Tryz.func239 (by kernel_rfl) rfl)
    (back_stops 5 (by omega) Bs W2.heap.size gm A6 L6 cap6 W2 hbs (by omega) hz7 (fun x hx=>by have:=hA6 x hx;omega) (by omega) (Nat.le_refl _)) Kq.trans (fun W l o o' hl _ _ _=>⟨by simp [World.putObj],fun x hx _=>World.putObj_heap_other (by omega)⟩) (Below.refl _ _) (fun _=>rfl)
    (fun (pre : List (Nat × ActM)) (W : World)=>((W.cell? ⟨gm + 1,0,none⟩ = some (.map (some gm)) ∧ TreeW W gm W2.heap.size ((pre.map fun x=>x.2).filter okA)) ∧ W2.heap.size ≤ W.heap.size) ∧ Below gm w W)
    (fun _ _ _=>False)
    hI
    (fun _ _ _ _ _ hs _ _=>hs)
    ⟨⟨⟨kc2,k4 _⟩,Nat.le_refl _⟩,hb3⟩
    (fun x a' W=>∃ Bx,W2.heap.size ≤ Bx ∧ W.heap[Bx]? = some (.cells (actR x.2) 139 (0,0)) ∧ a' = { tmps:=#[.slice A n cap,undef,.map none,.pointer (some ⟨gm + 1,0,none⟩),undef,.pointer (some ⟨Bx,0,none⟩),.map (some gm),.slice A n cap,.slice A6 L6.length cap6,.func (.func 239) #[] #[.pointer (some ⟨Bs,0,none⟩)],.int .i64 (x.1 : Nat),.agg (actR x.2),undef,undef,undef,undef,undef,undef,undef,undef,undef,undef,undef,undef,undef,undef,undef,undef,undef,undef,undef,undef,undef,undef,undef,undef,undef],defers:=[] })
    (fun x a' _ X Y row hs hg hr=>by
      obtain ⟨Bx,h1,h2,h3⟩:=hs;refine ⟨Bx,h1,(hg.block Bx (Array.getElem?_eq_some_iff.1 h2).1 (fun e=>?_)).trans h2,h3⟩;obtain ⟨_,o,ho,hc⟩:=hr Bx e.symm;rw [h2] at ho;injection ho with ho
      subst ho;simp [Obj.isCells] at hc)
    ?assign ?body ?done ?stop
  case assign =>
    rintro l pre ⟨xi,xa⟩ W K ⟨⟨⟨hc,ht⟩,hsW⟩,hb⟩ hK;have hbn : Below W.heap.size W (W.alloc (.cells (actR xa) 139)):=(Below.refl _ _).alloc (Nat.le_refl _) _;have hfin:=hK { tmps:=#[.slice A n cap,undef,.map none,.pointer (some ⟨gm + 1,0,none⟩),undef,.pointer (some ⟨W.heap.size,0,none⟩),.map (some gm),.slice A n cap,.slice A6 L6.length cap6,.func (.func 239) #[] #[.pointer (some ⟨Bs,0,none⟩)],.int .i64 (xi : Nat),.agg (actR xa),undef,undef,undef,undef,undef,undef,undef,undef,undef,undef,undef,undef,undef,undef,undef,undef,undef,undef,undef,undef,undef,undef,undef,undef,undef],defers:=[] } (W.alloc (.cells (actR xa) 139)) ((KeepsOthers.alloc _ _).from _) ⟨hbn.size,fun x hx _=>hbn.block x (by omega)⟩ ⟨⟨⟨(hbn.cell (p:=⟨gm + 1,0,none⟩) (by show gm + 1 < _;omega)).trans hc,ht.below hbn⟩,Nat.le_trans hsW hbn.size⟩,hb.trans (hbn.mono (by omega))⟩ ⟨W.heap.size,hsW,heap_alloc_new _ _,rfl⟩;clear hK hb ht hc
    gi_wp2
    exact hfin
  case body =>
    rintro l pre ⟨xi,xa⟩ a' W hl ⟨r,hr⟩ ⟨⟨⟨hc,ht⟩,hsW⟩,hb⟩ ⟨Bx,hBx,hx,rfl⟩ hlt;have hsn : (((pre ++ [(xi,xa)]).map fun x=>x.2).filter okA) = ((pre.map fun x=>x.2).filter okA) ++ if okA xa then [xa] else []:=by
      rw [List.map_append,List.filter_append];congr 1
      cases h : okA xa <;> simp [h]
    obtain ⟨P,hP⟩ : ∃ P,((pre.map fun x=>x.2).filter okA) = P:=⟨_,rfl⟩
    have hPl : P.length ≤ 30:=by rw [← hP];refine Nat.le_trans (List.length_filter_le _ _) ?_;rw [List.length_map];omega
    rw [hP] at hsn ht;have Hsn:=Lib.hid hsn;have hok : okA xa = (decide (xa.m.id ≠ id0) && (decide (1 ≤ xa.m.h) && decide (xa.m.h ≤ 1073741824))):=rfl;have Hok:=Lib.hid hok;clear hsn hP hok hlt;have hrx : rowAt W Bx 0 70 = some (actR xa):=by unfold rowAt;rw [hx];simp
    have hBl:=rowAt_lt hrx;have f37 : rowAt W Bx 37 32 = some (idC xa.m.id):=by have:=rowAt_sub hrx (j:=37) (m:=32) (by omega);rwa [actR_e37,Nat.zero_add] at this
    have f69 : W.cell? ⟨Bx,69,none⟩ = some (.int .i64 xa.m.h):=by have:=rowAt_cell hrx (j:=69) (by omega);rwa [actR_g69,Nat.zero_add] at this
    have f4 : rowAt W Bx 4 32 = some (idC (oOf xa.m).ref):=by have:=rowAt_sub hrx (j:=4) (m:=32) (by omega);rwa [actR_e4,Nat.zero_add] at this
    have hsW' : Bs + 1 ≤ W.heap.size:=by omega
    have hskip : okA xa = false → KeepsFrom (Bs + 1) W W ∧ Kq (Bs + 1) gm W W ∧ ((W.cell? ⟨gm + 1,0,none⟩ = some (.map (some gm)) ∧ TreeW W gm (Bs + 1) (((pre ++ [(xi,xa)]).map fun x=>x.2).filter okA)) ∧ Bs + 1 ≤ W.heap.size) ∧ Below gm w W:=fun h=>by
      refine ⟨KeepsFrom.refl _ _,Kq.refl _ _ _,⟨⟨hc,?_⟩,hsW'⟩,hb⟩;have h2:=Hsn.out;rw [h,if_neg (by simp),List.append_nil] at h2;rw [h2,← hsz2];exact ht
    have Hskip:=Lib.hid hskip;clear hskip;by_cases hid0 : xa.m.id = id0
    · have hb1 : (xa.m.id == id0) = true:=by simpa using hid0
      have hno : okA xa = false:=by rw [Hok.out];simp [hid0]
      have Hno:=Lib.hid hno;clear hid0 hno
      gi_wp2
      exact Hskip.out Hno.out
    · have hb1 : (xa.m.id == id0) = false:=by simpa using hid0
      by_cases hh1 : 1 ≤ xa.m.h
      · by_cases hh2 : xa.m.h ≤ 1073741824
        · have hyes : okA xa = true:=by rw [Hok.out];simp [hid0,hh1,hh2]
          have h2:=Hsn.out;rw [hyes,if_pos rfl] at h2;have Hsn2:=Lib.hid h2;clear hyes h2 hid0 Hskip;have hbn : Below W.heap.size W (W.alloc (.cells (actR xa) 139)):=(Below.refl _ _).alloc (Nat.le_refl _) _;have hrow1 : rowAt (W.alloc (.cells (actR xa) 139)) W.heap.size 0 70 = some (actR xa):=by simp [go_sem]
          have hz1 : (W.alloc (.cells (actR xa) 139)).heap.size = W.heap.size + 1:=by simp
          obtain ⟨s,st,w5,hrunE,hownE,hkE,hszE,hst⟩:=(ht.below hbn).entry (by omega) xa;have hrow5 : rowAt w5 W.heap.size 0 70 = some (actR xa):=(hkE.row (by omega) (by simp;omega) _ _).trans hrow1;have hPl2 : s.n ≤ 30:=by
            have h3:=hownE.len;have h4 : (refF P (oOf xa.m).ref).length ≤ P.length:=List.length_filter_le _ _;simp at h3;omega
          have Hst:=Lib.hid hst;have HszE:=Lib.hid hszE;have Hz1:=Lib.hid hz1;clear hst hszE hz1
          gi_wp2_with (gi_at_builtin;refine L_appendIn einfoAct rfl hownE rfl hrow5 (actR_one _) (by omega) (by omega) (by have:=HszE.out;have:=Hz1.out;omega) ?_;intro A7 cap7 w6 hown6 hk6 hsub6;obtain ⟨w7,hrun7,ht7,hk7,hsz7⟩:=Hst.out w6 ⟨A7,s.n + 1,cap7⟩ hk6 (by simpa using hown6) hsub6)
          have hz7:=hsz7;have hz5:=HszE.out;have hz1:=Hz1.out;have hz6:=hk6.size;have hbB:=fun x (hx : x ∈ blk s.A)=>(hownE.at_base hx).1;have hkAll : ∀ x,x < W.heap.size → x ≠ gm → x ∉ blk s.A → w7.heap[x]? = W.heap[x]?:=fun x h1 h2 h3=>by
            rw [hk7.block x (by omega) (by simpa using h2),hk6.block x (by omega) h3,hkE.block x (by omega) (by simpa using h2),hbn.block x h1]
          refine ⟨⟨by omega,fun k o hk ho hno=>?_⟩,⟨by omega,fun x hx hne=>hkAll x (by omega) hne (fun hm=>by have:=hbB x hm;omega)⟩,⟨⟨?_,?_⟩,by omega⟩,?_⟩
          · have hkl : k < W.heap.size:=(Array.getElem?_eq_some_iff.1 ho).1;rw [hkAll k hkl (by omega) (fun hm=>?_),ho];obtain ⟨o',ho',hc'⟩:=own_cells hownE hm;rw [hkE.block k (by omega) (by simp;omega),hbn.block k hkl,ho] at ho';injection ho' with ho'
            rw [← ho',hno] at hc';cases hc'
          · rw [← hc];exact World.cell?_of_block (w:=W) (hkAll (gm + 1) (by omega) (by omega) (fun hm=>by have:=hbB _ hm;omega))
          · rw [Hsn2.out,← hsz2];exact ht7
          · exact hb.trans ⟨(hk7.os.trans hk6.os).trans (hkE.os.trans hbn.os),(hk7.tape.trans hk6.tape).trans (hkE.tape.trans hbn.tape),(hk7.output.trans hk6.output).trans (hkE.output.trans hbn.output),by omega,fun k hk=>hkAll k (by omega) (by omega) (fun hm=>by have:=hbB _ hm;omega)⟩
        · have hno : okA xa = false:=by rw [Hok.out];simp [hh2]
          have Hno:=Lib.hid hno;clear hid0 hno
          gi_wp2
          exact Hskip.out Hno.out
      · have hno : okA xa = false:=by rw [Hok.out];simp [hh1]
        have Hno:=Lib.hid hno;clear hid0 hno
        gi_wp2
        exact Hskip.out Hno.out
  case done =>
    rintro D ys W hD rfl ⟨⟨⟨hc,ht⟩,hsW⟩,hb⟩ hK;have e1 : ((backU L6 L6.length).map fun x=>x.2) = L6.reverse:=backU_all L6;rw [e1] at ht
    gi_wp2
    refine ⟨by simp,.inl ⟨_,_,rfl,run_takeDeferred hK,?_⟩⟩;exact ⟨_,results_tmp rfl _ _ _,⟨gm,Bs + 1,rfl,by rw [← hsz2];exact ht.grown (B:=W2.heap.size) (by omega) (grownBy_putObj' W D _) (fun r e=>by cases e;exact ⟨hD,_,hK,rfl⟩),by rw [Hgm.out];exact Nat.le_refl _,by omega,by rw [Hgm.out];exact hb.trans (belowK_b (w:=w) (by rw [Hgm.out];exact Nat.le_refl _) W D _ _ (by have:=Hgm.out;omega) hK rfl rfl)⟩⟩
  case stop =>
    rintro D c pre W _ _ h _;exact h.elim
end
section
open Go.RowKit
theorem infoMem : (Tryz.prog.info? 325).map (·.size) = some 32:=by kernel_rfl
@[go_sem ↓] theorem loadMem_rw (a : Addr) : loadVar 325 a = ldS 325 a:=rfl
@[go_sem] theorem loadMem_run (w : World) (g o : Nat) : (ldS 325 ⟨g,o,none⟩).run Tryz.prog w = match rowAt w g o 32 with | some cs=>.ok (.agg cs) w | none=>(loadVar 325 ⟨g,o,none⟩).run Tryz.prog w :=
  run_ldS Tryz.underlying325 rfl infoMem w g o
@[go_sem ↓] theorem storeMem_rw (a : Addr) (v : Value) : storeVar 325 a v = stS 325 a v:=rfl
theorem msame (d x : Id32) (w : World) : Calls Tryz.prog 237 #[.agg (idC d),.agg (idC x)] w fun e w'=>e = .returned (.bool (d == x)) ∧ Below w.heap.size w w':=by
  have hb : Below w.heap.size w ((w.alloc (.cells (idC d) 325)).alloc (.cells (idC x) 39)):=((Below.refl _ _).alloc (Nat.le_refl _) _).alloc (by simp) _;go_enter Tryz.func237,Tryz.ntmps237
  (go_wp2_with fail);go_ret;exact ⟨rfl,hb⟩
set_option maxRecDepth 100000 in
theorem index_id (d : Id32) (A : Option Addr) (n cap : Nat) (R : List Id32) (w : World) (h : TagsIn w A n R) (hn : n ≤ 1000000) :
    Calls Tryz.prog 278 #[.slice A n cap,.func (.func 237) #[.agg (idC d)] #[]] w fun e w'=>∃ j : Int,e = .returned (.int .i64 j) ∧ (0 ≤ j ↔ d ∈ R) ∧ Below w.heap.size w w':=by
  have hlen : R.length = n:=by simpa using h.1
  go_enter Tryz.func278,Tryz.ntmps278
  (go_wp2_with fail);go_loopw [8] (fun iv wr=>∃ i : Nat,i ≤ n ∧ iv = .int .i64 i ∧ Hid (d ∉ R.take i) ∧ Below w.heap.size w wr) (fun iv _=>n - (intOf iv).toNat)
  case atStart=>exact ⟨0,Nat.zero_le _,rfl,(show d ∉ R.take 0 by simp),Below.refl _ _⟩
  case round =>
    obtain ⟨i,hi,rfl,hno,hb⟩:=hrel;by_cases hlt : i < n
    · obtain ⟨q,o,rfl,hrow⟩:=TagsIn.get (SlR.below h hb) hlt (by omega);have hmem:=List.getElem_mem (l:=R) (n:=i) (by omega);have htk : R.take (i + 1) = R.take i ++ [R[i]'(by omega)]:=by rw [List.take_succ_eq_append_getElem (by omega)]
      obtain ⟨x,hx⟩ : ∃ x,R[i]'(by omega) = x:=⟨_,rfl⟩
      rw [hx] at hrow hmem htk;have Htk:=Lib.hid htk;have Hmem:=Lib.hid hmem;clear hx htk hmem;have c1:=msame d x wr;obtain ⟨bb,hbb⟩ : ∃ bb,(d == x) = bb:=⟨_,rfl⟩
      rw [hbb] at c1;have Hbb:=Lib.hid hbb;clear hbb;(go_wp2_with fail);refine c1.mono ?_;rintro e w1 ⟨rfl,hb1⟩;have hb2:=hb.trans (hb1.mono hb.size);clear c1 hb1 hb;cases bb with
      | true =>
        have e : d = x:=by simpa using Hbb.out
        have hin : d ∈ R:=by rw [e];exact Hmem.out
        have Hin:=Lib.hid hin;clear e hin;(go_wp2_with fail);go_ret;exact ⟨_,rfl,⟨fun _=>Hin.out,fun _=>by omega⟩,hb2⟩
      | false =>
        have e : d ≠ x:=by simpa using Hbb.out
        have hno2 : d ∉ R.take (i + 1):=by rw [Htk.out,List.mem_append,List.mem_singleton];exact fun h=>h.elim hno.out e
        have Hno2:=Lib.hid hno2;clear hno2 e;(go_wp2_with fail);go_roundw
        case rel=>exact ⟨i + 1,by omega,by go_num,Hno2,hb2⟩
        case measure=>simp [intOf];omega
    · have e2 : R.take i = R:=List.take_of_length_le (by omega);have hno2:=hno.out;rw [e2] at hno2;have Hno2:=Lib.hid hno2;clear e2 hno2;(go_wp2_with fail);go_ret;exact ⟨_,rfl,⟨fun h=>by omega,fun h=>absurd h Hno2.out⟩,hb⟩
theorem ihas (d : Id32) (A : Option Addr) (n cap : Nat) (R : List Id32) (w : World) (h : TagsIn w A n R) (hn : n ≤ 1000000) :
    Calls Tryz.prog 185 #[.slice A n cap,.agg (idC d)] w fun e w'=>e = .returned (.bool (decide (d ∈ R))) ∧ Below w.heap.size w w':=by
  have hb : Below w.heap.size w (w.alloc (.cells (idC d) 39)):=(Below.refl _ _).alloc (Nat.le_refl _) _;have c2:=index_id d A n cap R (w.alloc (.cells (idC d) 39)) (SlR.below h hb) hn;have c1 : Calls Tryz.prog 236 #[.slice A n cap,.func (.func 237) #[.agg (idC d)] #[]] (w.alloc (.cells (idC d) 39)) fun e w'=>e = .returned (.bool (decide (d ∈ R))) ∧ Below (w.alloc (.cells (idC d) 39)).heap.size (w.alloc (.cells (idC d) 39)) w':=by
    clear hb
    revert c2
    generalize w.alloc (.cells (idC d) 39) = W;intro c2;go_enter Tryz.func236,Tryz.ntmps236
    (go_wp2_with fail);refine c2.mono ?_;rintro e w1 ⟨j,rfl,hj,hb1⟩;have Hj:=Lib.hid hj;clear c2 hj;(go_wp2_with fail);go_ret;exact ⟨ret_bool (by rw [decide_eq_decide];exact Hj.out),hb1⟩
  clear c2;go_enter Tryz.func185,Tryz.ntmps185
  (go_wp2_with fail);refine c1.mono ?_;rintro e w1 ⟨rfl,hb1⟩;clear c1;(go_wp2_with fail);go_ret;exact ⟨rfl,bel2 hb hb1⟩
end
section
open Go.RowKit Stb
theorem ofK_map (L : List ActM) (k : Nat) : ofK k (L.map ActM.m) = (L.filter fun a=>decide ((kM a : Int) = (k : Int))).map ActM.m:=by
  unfold ofK;rw [List.filter_map];congr 1
  refine List.filter_congr fun a _=>?_;show decide ((oOf a.m).k = k) = decide (((oOf a.m).k : Int) = (k : Int));rw [decide_eq_decide];omega
def remP (a r : ActM) : Bool:=decide ((oOf r.m).val = (oOf a.m).val) && decide (a.m.id ∈ (oOf r.m).refs)
set_option maxRecDepth 100000 in
theorem rem1_any (r a : ActM) (g : Nat) (w : World) (hr : RefsAt w r) (hl : (oOf r.m).refs.length ≤ 1000000) (hc : rowAt w g 0 70 = some (actR a)) :
    Calls Tryz.prog 184 #[.agg (actR r),.pointer (some ⟨g,0,none⟩)] w fun e w'=>e = .returned (.bool (remP a r)) ∧ Below w.heap.size w w':=by
  have hb : Below w.heap.size w (w.alloc (.cells (actR r) 139)):=(Below.refl _ _).alloc (Nat.le_refl _) _;have hgl:=rowAt_lt hc;have hc1:=(rowAt_of_block (hb.block g hgl) 0 70).trans hc;have hr1 : rowAt (w.alloc (.cells (actR r) 139)) w.heap.size 0 70 = some (actR r):=by simp [go_sem]
  have hrf:=hr.below hb;have hP : remP a r = (decide ((oOf r.m).val = (oOf a.m).val) && decide (a.m.id ∈ (oOf r.m).refs)):=rfl;have HP:=Lib.hid hP;clear hP hc hr;go_enter Tryz.func184,Tryz.ntmps184
  go_upto_region 1 with fail
  obtain ⟨gx,hgx⟩ : ∃ gx,w.heap.size = gx:=⟨_,rfl⟩
  obtain ⟨W,hW⟩ : ∃ W,W = w.alloc (.cells (actR r) 139):=⟨_,rfl⟩
  have Hgx:=Lib.hid hgx;rw [hgx] at hr1 hb ⊢;rw [← hW] at hr1 hrf hb hc1 ⊢;clear hW hgx;have f3 : W.cell? ⟨gx,3,none⟩ = some (.string (oOf r.m).val):=by have:=rowAt_cell hr1 (j:=3) (by omega);rwa [actR_g3,Nat.zero_add] at this
  have f36 : W.cell? ⟨gx,36,none⟩ = some (.slice r.A (oOf r.m).refs.length r.c):=by have:=rowAt_cell hr1 (j:=36) (by omega);rwa [actR_g36,Nat.zero_add] at this
  have k3 : W.cell? ⟨g,3,none⟩ = some (.string (oOf a.m).val):=by have:=rowAt_cell hc1 (j:=3) (by omega);rwa [actR_g3,Nat.zero_add] at this
  have k37 : rowAt W g 37 32 = some (idC a.m.id):=by have:=rowAt_sub hc1 (j:=37) (m:=32) (by omega);rwa [actR_e37,Nat.zero_add] at this
  have cc:=ihas a.m.id r.A (oOf r.m).refs.length r.c (oOf r.m).refs W hrf hl;obtain ⟨b2,hb2⟩ : ∃ b2,decide (a.m.id ∈ (oOf r.m).refs) = b2:=⟨_,rfl⟩
  rw [hb2] at cc;have Hb2:=Lib.hid hb2;clear hb2 hr1 hc1;obtain ⟨v1,hv1⟩ : ∃ v1,(oOf r.m).val = v1:=⟨_,rfl⟩
  obtain ⟨v2,hv2⟩ : ∃ v2,(oOf a.m).val = v2:=⟨_,rfl⟩
  rw [hv1] at f3;rw [hv2] at k3;have Hv1:=Lib.hid hv1;have Hv2:=Lib.hid hv2;clear hv1 hv2;obtain ⟨b1,hb1⟩ : ∃ b1 : Bool,(v1.toList == v2.toList) = b1:=⟨_,rfl⟩
  have Hb1:=Lib.hid hb1;cases b1 with
  | true =>
    have hv : v1 = v2:=toList_inj.1 (by simpa using Hb1.out);have hfin : remP a r = b2:=by rw [HP.out,Hv1.out,Hv2.out,hv,Hb2.out];simp
    have Hfin:=Lib.hid hfin;clear hv hfin;(go_wp2_with fail);refine cc.mono ?_;rintro e w1 ⟨rfl,hbw⟩;clear cc;(go_wp2_with fail);go_ret;exact ⟨ret_bool Hfin.out.symm,by rw [Hgx.out];exact hb.trans (hbw.mono (by have:=hb.size;have:=Hgx.out;omega))⟩
  | false =>
    have hv : v1 ≠ v2:=fun h=>(by have:=Hb1.out;rw [h] at this;simp at this);have hfin : remP a r = false:=by rw [HP.out,Hv1.out,Hv2.out];simp [hv]
    have Hfin:=Lib.hid hfin;clear hv hfin cc;(go_wp2_with fail);go_ret;exact ⟨ret_bool Hfin.out.symm,by rw [Hgx.out];exact hb⟩
set_option maxRecDepth 100000 in
theorem index_rem (a : ActM) (g : Nat) (A : Option Addr) (n cap : Nat) (L : List ActM) (B : Nat) (w : World) (h : ActsAt w B A n cap L) (hn : n ≤ 30) (hl : ∀ r ∈ L,(oOf r.m).refs.length ≤ 1000000) (hc : rowAt w g 0 70 = some (actR a)) :
    Calls Tryz.prog 235 #[.slice A n cap,.func (.func 184) #[] #[.pointer (some ⟨g,0,none⟩)]] w fun e w'=>∃ j : Int,e = .returned (.int .i64 j) ∧ (0 ≤ j ↔ L.any (remP a) = true) ∧ Below w.heap.size w w':=by
  have hlen : L.length = n:=by simpa using h.own.len
  go_enter Tryz.func235,Tryz.ntmps235
  (go_wp2_with fail);go_loopw [8] (fun iv wr=>∃ i : Nat,i ≤ n ∧ iv = .int .i64 i ∧ Hid ((L.take i).any (remP a) = false) ∧ Below w.heap.size w wr) (fun iv _=>n - (intOf iv).toNat)
  case atStart=>exact ⟨0,Nat.zero_le _,rfl,(show (L.take 0).any (remP a) = false by simp),Below.refl _ _⟩
  case round =>
    obtain ⟨i,hi,rfl,hno,hb⟩:=hrel;by_cases hlt : i < n
    · have hLr:=h.below hb;obtain ⟨q,o,rfl,hrow⟩:=ActsIn.get hLr.own.slr hlt (by omega);have hmem:=List.getElem_mem (l:=L) (n:=i) (by omega);have hrf:=(hLr.refs _ hmem).1;have hlx:=hl _ hmem;have htk : (L.take (i + 1)).any (remP a) = remP a (L[i]'(by omega)):=by
        rw [List.take_succ_eq_append_getElem (by omega),List.any_append,hno.out];simp
      have hany : remP a (L[i]'(by omega)) = true → L.any (remP a) = true:=fun h=>List.any_eq_true.2 ⟨_,hmem,h⟩;obtain ⟨x,hx⟩ : ∃ x,L[i]'(by omega) = x:=⟨_,rfl⟩
      rw [hx] at hrow hrf hlx htk hany;have hcr:=(rowAt_of_block (hb.block g (rowAt_lt hc)) 0 70).trans hc;have c1:=rem1_any x a g wr hrf hlx hcr;obtain ⟨bb,hbb⟩ : ∃ bb,remP a x = bb:=⟨_,rfl⟩
      rw [hbb] at c1 htk hany;have Htk:=Lib.hid htk;have Hany:=Lib.hid hany;clear hbb htk hany hx hmem hrf hLr;(go_wp2_with fail);refine c1.mono ?_;rintro e w1 ⟨rfl,hb1⟩;have hb2:=hb.trans (hb1.mono hb.size);clear c1 hb1 hb hcr;cases bb with
      | true =>
        (go_wp2_with fail);go_ret;exact ⟨_,rfl,⟨fun _=>Hany.out trivial,fun _=>by omega⟩,hb2⟩
      | false =>
        (go_wp2_with fail);go_roundw
        case rel=>exact ⟨i + 1,by omega,by go_num,Htk,hb2⟩
        case measure=>simp [intOf];omega
    · have e2 : L.take i = L:=List.take_of_length_le (by omega);have hno2:=hno.out;rw [e2] at hno2;have Hno2:=Lib.hid hno2;clear e2 hno2;(go_wp2_with fail);go_ret;exact ⟨_,rfl,⟨fun h=>by omega,fun h=>by rw [Hno2.out] at h;cases h⟩,hb⟩
theorem removed_any (a : ActM) (A : Option Addr) (n cap : Nat) (L : List ActM) (B : Nat) (w : World) (h : ActsAt w B A n cap L) (hn : n ≤ 30) (hl : ∀ r ∈ L,(oOf r.m).refs.length ≤ 1000000) :
    Calls Tryz.prog 104 #[.slice A n cap,.agg (actR a)] w fun e w'=>e = .returned (.bool (L.any (remP a))) ∧ Below w.heap.size w w':=by
  have hb : Below w.heap.size w (w.alloc (.cells (actR a) 139)):=(Below.refl _ _).alloc (Nat.le_refl _) _;have c2:=index_rem a w.heap.size A n cap L B (w.alloc (.cells (actR a) 139)) (h.below hb) hn hl (by simp [go_sem]);have c1 : Calls Tryz.prog 183 #[.slice A n cap,.func (.func 184) #[] #[.pointer (some ⟨w.heap.size,0,none⟩)]] (w.alloc (.cells (actR a) 139)) fun e w'=>e = .returned (.bool (L.any (remP a))) ∧ Below (w.alloc (.cells (actR a) 139)).heap.size (w.alloc (.cells (actR a) 139)) w':=by
    clear hb
    revert c2
    generalize w.alloc (.cells (actR a) 139) = W;intro c2;go_enter Tryz.func183,Tryz.ntmps183
    (go_wp2_with fail);refine c2.mono ?_;rintro e w1 ⟨j,rfl,hj,hb1⟩;have Hj:=Lib.hid hj;clear c2 hj;(go_wp2_with fail);go_ret;exact ⟨ret_bool (by have h:=Hj.out;generalize L.any (remP a) = b at h;cases b <;> simp at h ⊢ <;> omega),hb1⟩
  clear c2;go_enter Tryz.func104,Tryz.ntmps104
  (go_wp2_with fail);refine c1.mono ?_;rintro e w1 ⟨rfl,hb1⟩;clear c1;(go_wp2_with fail);go_ret;exact ⟨rfl,bel2 hb hb1⟩
set_option maxRecDepth 100000 in
set_option maxHeartbeats 4000000 in
theorem dbag (A : Option Addr) (n cap : Nat) (L : List ActM) (B : Nat) (w : World) (h : ActsAt w B A n cap L) (hn : n ≤ 30) (hl : ∀ r ∈ L,(oOf r.m).refs.length ≤ 1000000) :
    Calls Tryz.prog 46 #[.slice A n cap] w fun e w'=>∃ A' cap',e = .returned (.slice A' (sortC cmpPair (bagD (L.map ActM.m))).length cap') ∧ Own w' w.heap.size 98 2 A' (sortC cmpPair (bagD (L.map ActM.m))).length cap' ((sortC cmpPair (bagD (L.map ActM.m))).map pairC) ∧ Below w.heap.size w w':=by
  have hlen : L.length = n:=by simpa using h.own.len
  obtain ⟨L3,hL3⟩ : ∃ L3,(L.filter fun a=>decide ((kM a : Int) = 3)) = L3:=⟨_,rfl⟩
  obtain ⟨L2,hL2⟩ : ∃ L2,(L.filter fun a=>decide ((kM a : Int) = 2)) = L2:=⟨_,rfl⟩
  have c3:=of_any 3 A n cap L B w h hn;have c2:=fun w' (hb : Below w.heap.size w w')=>of_any 2 A n cap L B w' (h.below hb) hn;rw [hL3] at c3;simp only [hL2] at c2;have hl3 : L3.length ≤ 30:=by rw [← hL3];exact Nat.le_trans (List.length_filter_le _ _) (by omega)
  have hl2 : L2.length ≤ 30:=by rw [← hL2];exact Nat.le_trans (List.length_filter_le _ _) (by omega)
  have hlr : ∀ r ∈ L3,(oOf r.m).refs.length ≤ 1000000:=fun r hr=>hl r (by rw [← hL3] at hr;exact (List.mem_filter.1 hr).1);have hD : bagD (L.map ActM.m) = ((L2.filter fun a=>!L3.any (remP a)).map fun a=>pairV (oOf a.m).val):=by
    have e3 : ofK 3 (L.map ActM.m) = L3.map ActM.m:=by
      rw [← hL3];exact ofK_map L 3
    have e2 : ofK 2 (L.map ActM.m) = L2.map ActM.m:=by
      rw [← hL2];exact ofK_map L 2
    unfold bagD;rw [e2,e3,List.filter_map,List.map_map];have e4 : ∀ a : ActM,remB (L3.map ActM.m) a.m = L3.any (remP a):=fun a=>by
      unfold remB;rw [List.any_map];rfl
    have e5 : ((fun a=>!remB (L3.map ActM.m) a) ∘ ActM.m) = fun a=>!L3.any (remP a):=by funext a;simp only [Function.comp_apply,e4]
    rw [e5];rfl
  rw [hD];have HL : Hid (L2.length ≤ 30):=hl2;clear hD hL3 hL2 hl h hlen;go_enter Tryz.func46,Tryz.ntmps46
  (go_wp2_with fail);refine c3.mono ?_;rintro e w1 ⟨A3,cap3,rfl,h3,hb1⟩;have c2':=c2 w1 hb1;clear c3 c2;(go_wp2_with fail);refine c2'.mono ?_;rintro e w2 ⟨A2,cap2,rfl,h2,hb2⟩;have h32:=h3.below hb2;have hb02:=bel2 hb1 hb2;have hz12:=hb2.size;have hz01:=hb1.size;clear c2' h3 hb1 hb2;(go_wp2_with fail);go_loopw [4,12] (fun out iv wr=>∃ (i : Nat) (A4 : Option Addr) (n4 cap4 : Nat),i ≤ L2.length ∧ iv = .int .i64 i ∧ out = .slice A4 n4 cap4 ∧ n4 ≤ i ∧ Own wr w2.heap.size 98 2 A4 n4 cap4 ((((L2.take i).filter fun a=>!L3.any (remP a)).map fun a=>pairV (oOf a.m).val).map pairC) ∧ Below w2.heap.size w2 wr) (fun _ iv _=>L2.length - (intOf iv).toNat)
  case atStart=>exact ⟨0,none,0,0,Nat.zero_le _,rfl,rfl,Nat.le_refl _,Own.nil _ _ _ _,Below.refl _ _⟩
  case round =>
    obtain ⟨i,A4,n4,cap4,hi,rfl,rfl,hni,hown,hb⟩:=hrel;by_cases hlt : i < L2.length
    · have hLr:=h2.below hb;obtain ⟨q,o,rfl,hrow⟩:=ActsIn.get hLr.own.slr hlt (by omega);have htk : ((L2.take (i + 1)).filter fun a=>!L3.any (remP a)) = ((L2.take i).filter fun a=>!L3.any (remP a)) ++ if L3.any (remP (L2[i]'hlt)) = true then [] else [L2[i]'hlt]:=by
        rw [List.take_succ_eq_append_getElem hlt,List.filter_append];congr 1
        cases h : L3.any (remP (L2[i]'hlt)) <;> simp [h]
      obtain ⟨x,hx⟩ : ∃ x,L2[i]'hlt = x:=⟨_,rfl⟩
      rw [hx] at hrow htk;obtain ⟨P,hP⟩ : ∃ P,((L2.take i).filter fun a=>!L3.any (remP a)) = P:=⟨_,rfl⟩
      rw [hP] at htk hown;have Htk:=Lib.hid htk;clear hx htk hP;have hb0 : Below wr.heap.size wr (wr.alloc (.cells (actR x) 139)):=(Below.refl _ _).alloc (Nat.le_refl _) _;have hr0 : rowAt (wr.alloc (.cells (actR x) 139)) wr.heap.size 0 70 = some (actR x):=by simp [go_sem]
      have ho0:=hown.below hb0;have hw0 : Below w2.heap.size w2 (wr.alloc (.cells (actR x) 139)):=hb.trans (hb0.mono hb.size);go_upto_region 6 with fail
      obtain ⟨gx,hgx⟩ : ∃ gx,wr.heap.size = gx:=⟨_,rfl⟩
      obtain ⟨W0,hW0⟩ : ∃ W0,W0 = wr.alloc (.cells (actR x) 139):=⟨_,rfl⟩
      rw [← hW0] at hr0 ho0 hw0 ⊢;rw [hgx] at hr0 ⊢;clear hW0 hgx hb0 hown hb hrow hLr;have c1:=removed_any x A3 L3.length cap3 L3 _ W0 (h32.below hw0) hl3 hlr;obtain ⟨bb,hbb⟩ : ∃ bb,L3.any (remP x) = bb:=⟨_,rfl⟩
      rw [hbb] at c1;have Hbb:=Lib.hid hbb;clear hbb;(go_wp2_with fail);refine c1.mono ?_;rintro e W1 ⟨rfl,hb1⟩;have hr1 : rowAt W1 gx 0 70 = some (actR x):=(rowAt_of_block (hb1.block gx (rowAt_lt hr0)) _ _).trans hr0;have ho1:=ho0.below hb1;have hw1:=hw0.trans (hb1.mono hw0.size);have f3 : W1.cell? ⟨gx,3,none⟩ = some (.string (oOf x.m).val):=by have:=rowAt_cell hr1 (j:=3) (by omega);rwa [actR_g3,Nat.zero_add] at this
      have hws:=hw1.size;clear c1 hb1 hr0 ho0 hw0;cases bb with
      | true =>
        have htk:=Htk.out;rw [if_pos Hbb.out,List.append_nil] at htk;have Htk2:=Lib.hid htk;clear htk;(go_wp2_with fail);go_roundw
        case rel=>exact ⟨i + 1,A4,n4,cap4,by omega,by go_num,rfl,by omega,by rw [Htk2.out];exact ho1,hw1⟩
        case measure=>simp [intOf];omega
      | false =>
        have htk:=Htk.out;rw [if_neg (by rw [Hbb.out];simp)] at htk;have Htk2:=Lib.hid htk;clear htk;have hbx : Below W1.heap.size W1 (W1.alloc (.cells (pairC ⟨(oOf x.m).val,⟨#[]⟩⟩) 98)):=(Below.refl _ _).alloc (Nat.le_refl _) _;have hown2:=ho1.below hbx;have hrow2 : rowAt (W1.alloc (.cells (pairC ⟨(oOf x.m).val,⟨#[]⟩⟩) 98)) W1.heap.size 0 2 = some (pairC ⟨(oOf x.m).val,⟨#[]⟩⟩):=by simp [go_sem]
        go_upto_region 8 with (at_builtin;refine L_append einfoPair rfl hown2 rfl hrow2 (pairC_one _) (by omega) (by omega) (by simp;omega) ?_;intro A6 cap6 w6 hown6 hk6 hsub6)
        have hb6 : Below w2.heap.size w2 w6:=(hw1.trans (hbx.mono hws)).trans (hk6.below (by simp;omega) (fun y hy=>(ho1.at_base hy).1));clear hk6 hsub6 hown2 hrow2 hbx ho1 hw1;(go_wp2_with fail);go_roundw
        case rel=>exact ⟨i + 1,A6,n4 + 1,cap6,by omega,by go_num,rfl,by omega,by rw [Htk2.out];simpa [pairV] using hown6,hb6⟩
        case measure=>simp [intOf];omega
    · have e2 : L2.take i = L2:=List.take_of_length_le (by omega);rw [e2] at hown;have cp:=dpairs wr w2.heap.size A4 n4 cap4 _ hown (by omega) hb.size;have hb0 : Below w.heap.size w wr:=bel2 hb02 hb;clear e2;(go_wp2_with fail);refine cp.mono ?_;rintro e w5 ⟨A5,cap5,rfl,ho5,hb5⟩;have hb05:=hb0.trans (hb5.mono (by omega));have ho6:=ho5.mono (B':=w.heap.size) (by omega);clear cp ho5 hb5 hown;(go_wp2_with fail);go_ret;exact ⟨A5,cap5,rfl,ho6,hb05⟩
end
end Go.Proofs.YtgfpjjppeldhbaaGreatDoor
