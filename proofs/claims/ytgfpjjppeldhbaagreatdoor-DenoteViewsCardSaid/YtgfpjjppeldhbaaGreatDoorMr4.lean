/- Part 4 of the texts that lead to this claim: the walks of the functions and the plain law, in order. -/
import Derived.Test.YtgfpjjppeldhbaaGreatDoorMr3
import Derived.IntWalk
namespace Go.Proofs.YtgfpjjppeldhbaaGreatDoor
section
open Go.RowKit
def markC (m : MarkV) : Array Value:=markVC m
def fits (t : ByteArray) (m : MarkV) : Prop:=opE m.body.data.toList = 0 ∧ belongs (opO m.body.data.toList).k = kindB t
instance (t : ByteArray) (m : MarkV) : Decidable (fits t m):=by unfold fits;infer_instance
@[go_sem] theorem storeOp0_run (w : World) (g : Nat) (hg : g = w.heap.size) (z : Array Value) (hz : z.size = 37) (e : TypeId) : (stS 52 ⟨g,0,none⟩ (.agg (opPC opP0))).run Tryz.prog (w.alloc (.cells z e)) = .ok () (w.alloc (.cells (opPC opP0) e)):=storeOpP_run w g hg z hz opP0 rfl e
theorem opO_ok (l : List UInt8) (h : opE l = 0) : plainO (opO l) ∧ 1 ≤ (opO l).k ∧ (opO l).k ≤ 7 ∧ (opO l).key.size ≤ 16 ∧ (opO l).val.size ≤ 16 ∧ (opO l).refs.length ≤ 8 ∧ risI (opO l).refs = true ∧ (opO l).n < 2147483648:=by
  unfold opE at h;split at h
  · contradiction
  split at h
  · cases h
  split at h
  · contradiction
  rename_i h1 h2 h3
  have hp:=plain_take (numV 1 l 0) (rawL 1 l 0) 0 (by omega) (by omega);unfold chkO at h;have e : (takeO (numV 1 l 0) (rawL 1 l 0) 0).o = opO l:=rfl;rw [e] at h hp;split at h
  · cases h
  split at h
  · cases h
  split at h
  · cases h
  split at h
  · cases h
  rename_i k1 k2 k3 k4
  refine ⟨hp.1,by omega,by omega,by omega,by omega,by omega,?_,by omega⟩;cases hr : risI (opO l).refs with
  | true=>rfl
  | false=>exact absurd hr k4
theorem vfold_old (m : MarkV) (w : World) (g : Nat) (t : ByteArray) (b : Nat) (I : List Id32) (sv : Value) (h : ViewAt w g t b I sv) (hm : m.id ∈ I) :
    Calls Tryz.prog 26 #[.pointer (some ⟨g,0,none⟩),.agg (markVC m)] w fun e w'=>e = .returned (.bool false) ∧ Below w.heap.size w w':=by
  have hB : Below w.heap.size w (w.alloc (.cells (markVC m) 41)):=(Below.refl _ _).alloc (Nat.le_refl _) _;have h1:=h.below hB;have hr : rowAt (w.alloc (.cells (markVC m) 41)) w.heap.size 0 32 = some (idC m.id):=by simp [go_sem]
  go_enter Tryz.func26,Tryz.ntmps26
  go_upto_region 1 with fail
  generalize w.alloc (.cells (markVC m) 41) = W at *;have hc:=h1.cell1;have hk : ∀ x : Subtype (Bel W),(Instr.lookup 75 (.map (some b)) (.agg (idC m.id)) false).run Tryz.prog x.1 = .ok (.bool true) x.1:=fun x=>ihit (h1.ids.below x.2) hm;clear h h1 hm;refine wp_region_lex (Bel W) false (by kernel_rfl) (by kernel_rfl) (by kernel_rfl) (bel_drew W) ?_;have hne:=bel_some W;have hS:=bel_drew W;have b1:=sub_cell hc;have b2:=sub_row hr;repeat (refine wpLx_loose ?_ ?_;(focus (simp only [chainOp];done));intro K hK;go_simp;refine hK _ ?_;clear hK K)
  refine wpLx_chain ?_ ?_ ?_;(focus (exact hS));(focus (simp only [chainOp];done));intro K hK;go_simp;refine (vnone_live W.drew g b hc).mono ?_;rintro e w' ⟨rfl,rfl⟩;refine ⟨_,rfl,hS,hK _ _ ?_⟩;clear hK K;repeat (refine wpLx_loose ?_ ?_;(focus (simp only [chainOp];done));intro K hK;go_simp;refine hK _ ?_;clear hK K)
  refine wpLx_nil ?_;intro hS;(go_wp2_with fail);go_ret;exact ⟨rfl,bel2 hB hS⟩
set_option maxRecDepth 100000 in
set_option maxHeartbeats 4000000 in
theorem vfold_new (m : MarkV) (w : World) (g : Nat) (t : ByteArray) (b : Nat) (I : List Id32) (sv : Value) (h : ViewAt w g t b I sv) (hm : m.id ∉ I) (hp : PartsVar w) (hb0 : b ≠ 0) (hs : m.body.size ≤ 9223372036854775807) (ht : t.size ≤ 9223372036854775807)
    (Q : World → Prop)
    (hno : ¬ fits t m → ∀ w',ViewAt w' g t b (m.id :: I) sv → Keep [b] w w' → Q w')
    (hdoes : fits t m → ∀ w1 A c,ViewAt w1 g t b (m.id :: I) sv → Keep [b] w w1 → PartsVar w1 → Own w1 w.heap.size 39 32 A (opO m.body.data.toList).refs.length c ((opO m.body.data.toList).refs.map idC) →
      Calls Tryz.prog 64 #[.pointer (some ⟨g,0,none⟩),.agg (markVC m),.agg (opC (opO m.body.data.toList) A c)] w1 fun e w'=>e = .returned (.tuple #[]) ∧ Q w') :
    Calls Tryz.prog 26 #[.pointer (some ⟨g,0,none⟩),.agg (markVC m)] w fun e w'=>e = .returned (.bool true) ∧ Q w':=by
  have hB : Below w.heap.size w (w.alloc (.cells (markVC m) 41)):=(Below.refl _ _).alloc (Nat.le_refl _) _;have h1:=h.below hB;have hp1:=hp.below hB;have hrm : rowAt (w.alloc (.cells (markVC m) 41)) w.heap.size 0 34 = some (markVC m):=by simp [go_sem]
  have hbl:=h.ids.lt;have hgl:=h.lt;go_enter Tryz.func26,Tryz.ntmps26
  go_upto_region 1 with fail
  obtain ⟨ga,hga⟩ : ∃ ga,w.heap.size = ga:=⟨_,rfl⟩
  have Hga:=Lib.hid hga;rw [hga] at hrm hB hbl hgl ⊢;obtain ⟨W,hW⟩ : ∃ W,W = w.alloc (.cells (markVC m) 41):=⟨_,rfl⟩
  rw [← hW] at h1 hp1 hrm hB ⊢;clear hW hga;have hr : rowAt W ga 0 32 = some (idC m.id):=by have:=rowAt_sub hrm (j:=0) (m:=32) (by omega);rwa [markVC_e0] at this
  have hbody : W.cell? ⟨ga,33,none⟩ = some (.string m.body):=by have:=rowAt_cell hrm (j:=33) (by omega);rwa [markVC_g33,Nat.zero_add] at this
  have hc:=h1.cell1;have hk : ∀ x : Subtype (Bel W),(Instr.lookup 75 (.map (some b)) (.agg (idC m.id)) false).run Tryz.prog x.1 = .ok (.bool false) x.1:=fun x=>imiss (h1.ids.below x.2) hm;refine wp_region_lex (Bel W) false (by kernel_rfl) (by kernel_rfl) (by kernel_rfl) (bel_drew W) ?_;have hne:=bel_some W;have hS:=bel_drew W;have b1:=sub_cell hc;have b2:=sub_row hr;repeat (refine wpLx_loose ?_ ?_;(focus (simp only [chainOp];done));intro K hK;go_simp;refine hK _ ?_;clear hK K)
  refine wpLx_chain ?_ ?_ ?_;(focus (exact hS));(focus (simp only [chainOp];done));intro K hK;go_simp;refine (vnone_live W.drew g b hc).mono ?_;rintro e w' ⟨rfl,rfl⟩;refine ⟨_,rfl,hS,hK _ _ ?_⟩;clear hK K;repeat (refine wpLx_loose ?_ ?_;(focus (simp only [chainOp];done));intro K hK;go_simp;refine hK _ ?_;clear hK K)
  refine wpLx_nil ?_;intro hS;clear b1 b2 hne hk hS;have hgb : g ∉ [b]:=by simpa using h1.ne
  have h1d : ViewAt W.drew g t b I sv:=h1.kept (Keep.drew W) (by simp) (by simp);have hp1d : PartsVar W.drew:=hp1.kept (Keep.drew W) (by simp);have hBd : Below ga w W.drew:=hB.trans ((bel_drew W).mono (by have:=hB.size;have:=Hga.out;omega));have hrd : rowAt W.drew ga 0 32 = some (idC m.id):=hr;have hrmd : rowAt W.drew ga 0 34 = some (markVC m):=hrm;have hbd : W.drew.cell? ⟨ga,33,none⟩ = some (.string m.body):=hbody;clear hr hrm hbody hc hp1 hB;go_upto_region 3 with fail
  obtain ⟨W1,hW1⟩ : ∃ W1,W1 = W.drew:=⟨_,rfl⟩
  rw [← hW1] at h1d hp1d hBd hrd hrmd hbd ⊢;clear hW1 h1;have hc:=h1d.cell1;obtain ⟨w2,hrun,hI2,hk2⟩:=iput (x:=m.id) (h1d.ids.kept (Keep.drew W1) (by simp));refine wp_region_lex (Kp [b] W1) false (by kernel_rfl) (by kernel_rfl) (by kernel_rfl) (kp_drew [b] W1) ?_;have hne:=kp_some [b] W1;have hS:=kp_drew [b] W1;have b1:=ksub_cell hc hgb;have b2:=ksub_row hrd (S:=[b]) (by simp;omega);repeat (refine wpLx_loose ?_ ?_;(focus (simp only [chainOp];done));intro K hK;go_simp;refine hK _ ?_;clear hK K)
  refine wpLx_chain ?_ ?_ ?_;(focus (exact hS));(focus (simp only [chainOp];done));intro K hK;go_simp;refine step_keep (kp_next hS hk2 (by simp)) (fun hS=>?_);refine hK _ _ ?_;clear hK K;refine wpLx_nil ?_;intro hS;have hS' : Keep [b] W1 w2:=hS;have h2 : ViewAt w2 g t b (m.id :: I) sv:=⟨(hS'.block g h1d.lt hgb).trans h1d.blk,hI2⟩
  have hgab : ga ∉ [b]:=by simp;omega
  have hp2 : PartsVar w2:=hp1d.kept hS' (by simpa using fun e=>hb0 e.symm);have hrm2 : rowAt w2 ga 0 34 = some (markVC m):=(hS'.row (rowAt_lt hrmd) hgab _ _).trans hrmd;have hbd2 : w2.cell? ⟨ga,33,none⟩ = some (.string m.body):=(hS'.cell (p:=⟨ga,33,none⟩) (rowAt_lt hrmd) hgab).trans hbd;have hK2 : Keep [b] w w2:=Keep.trans ((Keep.of_below (hBd.mono (by rw [Hga.out];exact Nat.le_refl _))).mono (S':=[b]) (by simp)) hS' (fun x hx=>.inl hx);clear b1 b2 hne hS hk2 hI2 hrun hrd hrmd hbd hp1d h1d hBd hc hS';have cop:=op_Of m.body w2 hp2 hs;obtain ⟨l,hl⟩ : ∃ l,m.body.data.toList = l:=⟨_,rfl⟩
  have Hl:=Lib.hid hl;rw [hl] at cop hdoes;have hfit : fits t m ↔ opE l = 0 ∧ belongs (opO l).k = kindB t:=by unfold fits;rw [hl]
  obtain ⟨E,hE⟩ : ∃ E,opE l = E:=⟨_,rfl⟩
  have hEn:=Lib.hid hE;clear hl;(go_wp2_with fail);refine cop.mono ?_;rintro en w3 ⟨V,rfl,hok,hbad,hb3⟩;rw [hE] at hok hbad ⊢;have h3:=h2.below hb3;have hp3:=hp2.below hb3;have hrm3 : rowAt w3 ga 0 34 = some (markVC m):=(rowAt_of_block (hb3.block ga (rowAt_lt hrm2)) _ _).trans hrm2;have hK3 : Keep [b] w w3:=Keep.trans hK2 (Keep.of_below hb3) (by simp);clear cop hb3 h2 hp2 hrm2 hbd2;by_cases h0 : E = 0
  · subst h0;obtain ⟨A,c,rfl,hown⟩:=hok rfl;have hoo:=opO_ok l hE;have hown3:=hown.mono (B':=ga) (by have:=hK2.size;have:=Hga.out;omega);have hfit' : fits t m ↔ belongs (opO l).k = kindB t:=by rw [hfit];exact ⟨fun h=>h.2,fun h=>⟨hE,h⟩⟩
    rw [← Hga.out] at hown3;obtain ⟨o,ho⟩ : ∃ o,opO l = o:=⟨_,rfl⟩
    rw [ho] at hoo hown3 hfit' hdoes ⊢;have hkl : o.k ≤ 9223372036854775807:=by have:=hoo.2.2.1;omega
    have Hoo:=Lib.hid hoo;clear hok hbad hown hfit hE ho hoo;have hb4 : Below w3.heap.size w3 (w3.alloc (.cells (opC o A c) 52)):=(Below.refl _ _).alloc (Nat.le_refl _) _;have h4:=h3.below hb4;have hp4:=hp3.below hb4;have hrm4 : rowAt (w3.alloc (.cells (opC o A c) 52)) ga 0 34 = some (markVC m):=(rowAt_of_block (hb4.block ga (rowAt_lt hrm3)) _ _).trans hrm3;have hown4:=hown3.below hb4;have hro4 : rowAt (w3.alloc (.cells (opC o A c) 52)) w3.heap.size 0 37 = some (opC o A c):=by simp [go_sem]
    have hK4 : Keep [b] w (w3.alloc (.cells (opC o A c) 52)):=Keep.trans hK3 (Keep.of_below hb4) (by simp);clear hb4 h3 hp3 hrm3 hown3 hK3;unfold opC at h4 hp4 hrm4 hown4 hro4 hK4 ⊢;go_upto_region 5 with fail
    obtain ⟨W4,hW4⟩ : ∃ W4,W4 = (w3.alloc (.cells (opPC ⟨o.k,o.n,o.key,o.val,o.ref,.slice A o.refs.length c⟩) 52)):=⟨_,rfl⟩
    rw [← hW4] at h4 hp4 hrm4 hown4 hro4 hK4 ⊢;clear hW4;have hcK:=rowAt_cell hro4 (j:=0) (by omega);rw [opPC_g0,Nat.zero_add] at hcK;have hc0:=h4.cell0;have cb:=op_belongs o.k W4.drew hkl;have ck:=kind_any t W4.drew ht;obtain ⟨B1,hB1⟩ : ∃ B1,belongs o.k = B1:=⟨_,rfl⟩
    obtain ⟨K1,hK1⟩ : ∃ K1,kindB t = K1:=⟨_,rfl⟩
    rw [hB1,hK1] at hfit';rw [hB1] at cb;rw [hK1] at ck;have Hfit:=Lib.hid hfit';clear hB1 hK1 hfit';refine wp_region_lex (Bel W4) false (by kernel_rfl) (by kernel_rfl) (by kernel_rfl) (bel_drew W4) ?_;have hne:=bel_some W4;have hS:=bel_drew W4;have b1:=sub_cell hcK;have b2:=sub_cell hc0;repeat (refine wpLx_loose ?_ ?_;(focus (simp only [chainOp];done));intro K hK;go_simp;refine hK _ ?_;clear hK K)
    refine wpLx_chain ?_ ?_ ?_;(focus (exact hS));(focus (simp only [chainOp];done));intro K hK;go_simp;refine (cb).mono ?_;rintro e w' ⟨rfl,rfl⟩;refine ⟨_,rfl,hS,hK _ _ ?_⟩;clear hK K;repeat (refine wpLx_loose ?_ ?_;(focus (simp only [chainOp];done));intro K hK;go_simp;refine hK _ ?_;clear hK K)
    refine wpLx_chain ?_ ?_ ?_;(focus (exact hS));(focus (simp only [chainOp];done));intro K hK;go_simp;refine (ck).mono ?_;rintro e w' ⟨rfl,hb⟩;replace hS:=bel_next hS hb;refine ⟨_,rfl,hS,hK _ _ ?_⟩;clear hK K hb;repeat (refine wpLx_loose ?_ ?_;(focus (simp only [chainOp];done));intro K hK;go_simp;refine hK _ ?_;clear hK K)
    refine wpLx_nil ?_;intro hS;have hS' : Below W4.heap.size W4 w':=hS;have h5:=h4.below hS';have hp5:=hp4.below hS';have hrm5 : rowAt w' ga 0 34 = some (markVC m):=(rowAt_of_block (hS'.block ga (rowAt_lt hrm4)) _ _).trans hrm4;have hro5 : rowAt w' w3.heap.size 0 37 = some (opPC ⟨o.k,o.n,o.key,o.val,o.ref,.slice A o.refs.length c⟩):=(rowAt_of_block (hS'.block w3.heap.size (rowAt_lt hro4)) _ _).trans hro4;have hown5:=hown4.below hS';have hK5 : Keep [b] w w':=Keep.trans hK4 (Keep.of_below hS') (by simp);clear b1 b2 hne hS cb ck hcK hc0 h4 hp4 hrm4 hro4 hown4 hK4 hS';obtain ⟨W5,rfl⟩ : ∃ W5,W5 = w':=⟨w',rfl⟩
    cases hbb : (B1 == K1) with
    | true =>
      have hf : fits t m:=Hfit.out.2 (by simpa using hbb);have hd:=hdoes hf W5 A c h5 hK5 hp5 hown5;unfold opC at hd;clear hf hbb;go_upto_region 6 with fail
      (go_wp2_with fail);refine hd.mono ?_;rintro e w6 ⟨rfl,hq⟩;have Hq:=Lib.hid hq;clear hq hno hdoes hd;(go_wp2_with fail);go_ret;exact ⟨rfl,Hq.out⟩
    | false =>
      have hf : ¬ fits t m:=fun h=>(by have:=Hfit.out.1 h;rw [beq_eq_false_iff_ne] at hbb;exact hbb this);have hq:=hno hf W5 h5 hK5;have Hq:=Lib.hid hq;clear hf hq hno hdoes;(go_wp2_with fail);go_ret;exact ⟨rfl,Hq.out⟩
  · have hf : ¬ fits t m:=fun h=>h0 (by rw [← hE];exact (hfit.1 h).1);have hV:=hbad h0;subst hV;have hb4 : Below w3.heap.size w3 (w3.alloc (.cells (opPC opP0) 52)):=(Below.refl _ _).alloc (Nat.le_refl _) _;have h4:=h3.below hb4;have hK4 : Keep [b] w (w3.alloc (.cells (opPC opP0) 52)):=Keep.trans hK3 (Keep.of_below hb4) (by simp);have hE0 : (E == 0) = false:=by simpa using h0
    clear hdoes hok hbad hfit hE h0 hb4;go_upto_region 5 with fail
    obtain ⟨W4,hW4⟩ : ∃ W4,W4 = (w3.alloc (.cells (opPC opP0) 52)):=⟨_,rfl⟩
    rw [← hW4] at h4 hK4 ⊢;clear hW4;have hq:=hno hf _ (h4.below (bel_drew W4)) (Keep.trans hK4 (Keep.of_below (bel_drew W4)) (by simp));have Hq:=Lib.hid hq;clear hf hq hno;refine wp_region_lex (Bel W4) false (by kernel_rfl) (by kernel_rfl) (by kernel_rfl) (bel_drew W4) ?_;have hne:=bel_some W4;have hS:=bel_drew W4;repeat (refine wpLx_loose ?_ ?_;(focus (simp only [chainOp];done));intro K hK;go_simp;refine hK _ ?_;clear hK K)
    refine wpLx_chain ?_ ?_ ?_;(focus (exact hS));(focus (simp only [chainOp];done));intro K hK;go_simp;refine hK _ _ ?_;clear hK K;repeat (refine wpLx_loose ?_ ?_;(focus (simp only [chainOp];done));intro K hK;go_simp;refine hK _ ?_;clear hK K)
    refine wpLx_chain ?_ ?_ ?_;(focus (exact hS));(focus (simp only [chainOp];done));intro K hK;go_simp;refine hK _ _ ?_;clear hK K;repeat (refine wpLx_loose ?_ ?_;(focus (simp only [chainOp];done));intro K hK;go_simp;refine hK _ ?_;clear hK K)
    refine wpLx_nil ?_;intro hS;(go_wp2_with fail);go_ret;exact ⟨rfl,Hq.out⟩
end
section
open Go.RowKit
def TallyAt (w : World) (g : Nat) (n : Int) : Prop:=w.heap[g]? = some (.cells #[.int .i64 n,.bool true] 164 (0,0))
theorem TallyAt.lt {w : World} {g : Nat} {n : Int} (h : TallyAt w g n) : g < w.heap.size:=(Array.getElem?_eq_some_iff.1 h).1
theorem TallyAt.kept {w w' : World} {g : Nat} {n : Int} {S : List Nat} (h : TallyAt w g n) (k : Keep S w w') (hg : g ∉ S) : TallyAt w' g n:=(k.block g h.lt hg).trans h
theorem TallyAt.cell0 {w : World} {g : Nat} {n : Int} (h : TallyAt w g n) : w.cell? ⟨g,0,none⟩ = some (.int .i64 n):=by rw [cell_of_row w g 0 _ _ _ h];rfl
theorem TallyAt.cell1 {w : World} {g : Nat} {n : Int} (h : TallyAt w g n) : w.cell? ⟨g,1,none⟩ = some (.bool true):=by rw [cell_of_row w g 1 _ _ _ h];rfl
theorem at_load (w : World) (g : Nat) (n : Int) (h : TallyAt w g n) : (callFunc 193 #[.pointer (some ⟨g,0,none⟩)]).run Tryz.prog w = .ok (.value (.int .i64 n)) w:=by
  have h0:=h.cell0;rw [run_callFunc_extern Tryz.func193 (by kernel_rfl) (by kernel_rfl) (by kernel_rfl) (e:=Extern.Atomic.loadT (.int .i64)) (by kernel_rfl)];have e : Extern.Atomic.loadT (.int .i64) #[.pointer (some ⟨g,0,none⟩)] = (do Extern.Atomic.read (.int .i64) (← asAddr (.pointer (some ⟨g,0,none⟩)))):=rfl;rw [e];simp [Extern.Atomic.read,asAddr,go_sem,h0]
theorem at_add (w : World) (g : Nat) (n m : Int) (h : TallyAt w g n) : (callFunc 263 #[.pointer (some ⟨g,0,none⟩),.int .i64 m]).run Tryz.prog w = .ok (.value (.int .i64 (wrap64 (n + m)))) (w.setCell ⟨g,0,none⟩ (.int .i64 (wrap64 (n + m)))):=by
  have h0:=h.cell0;have hf : w.frozen? ⟨g,0,none⟩ = false:=by simp [World.frozen?,show w.heap[g]? = _ from h]
  rw [run_callFunc_extern Tryz.func263 (by kernel_rfl) (by kernel_rfl) (by kernel_rfl) (e:=Extern.Atomic.update (Op.intArith .add) .i64 true) (by kernel_rfl)];have e : Extern.Atomic.update (Op.intArith .add) .i64 true #[.pointer (some ⟨g,0,none⟩),.int .i64 m] = (do
    let a ← asAddr (.pointer (some ⟨g,0,none⟩))
    let old ← Extern.Atomic.read (.int .i64) a
    let new ← Op.intArith .add .i64 (← asInt old) (← asInt (.int .i64 m))
    store a new .atomic
    pure (if true then new else old)):=rfl
  rw [e];have ew : wrap64 (n + m) = IntKind.i64.wrap (n + m):=(IntWalk.i64_left _).symm;simp [Extern.Atomic.read,asAddr,asInt,Op.intArith,go_sem,h0,hf,ew]
theorem tnew (w : World) : Calls Tryz.prog 115 #[] w fun e w'=>e = .returned (.pointer (some ⟨w.heap.size,0,none⟩)) ∧ TallyAt w' w.heap.size 0 ∧ Below w.heap.size w w':=by
  have hbld : ∀ w : World,(Instr.build 164 #[(1,.bool true)]).run Tryz.prog w = .ok (.agg #[.int .i64 0,.bool true]) w:=fun w=>(by kernel_rfl);go_enter Tryz.func115,Tryz.ntmps115
  (go_wp2_with fail);go_ret;exact ⟨rfl,heap_alloc_new w _,(Below.refl _ _).alloc (Nat.le_refl _) _⟩
theorem tnone (w : World) (g : Nat) (n : Int) (h : TallyAt w g n) : Calls Tryz.prog 120 #[.pointer (some ⟨g,0,none⟩)] w fun e w'=>e = .returned (.bool false) ∧ w = w':=by
  have h1:=h.cell1;clear h;go_enter Tryz.func120,Tryz.ntmps120
  (go_wp2_with fail);go_ret;exact ⟨rfl,rfl⟩
theorem at_Load (w : World) (g : Nat) (n : Int) (h : TallyAt w g n) : Calls Tryz.prog 121 #[.pointer (some ⟨g,0,none⟩)] w fun e w'=>e = .returned (.int .i64 n) ∧ w = w':=by
  have hr:=at_load w g n h;clear h;go_enter Tryz.func121,Tryz.ntmps121
  (go_wp2_with fail);go_ret;exact ⟨rfl,rfl⟩
theorem at_Add (w : World) (g : Nat) (n m : Int) (h : TallyAt w g n) : Calls Tryz.prog 209 #[.pointer (some ⟨g,0,none⟩),.int .i64 m] w fun e w'=>e = .returned (.int .i64 (wrap64 (n + m))) ∧ w' = w.setCell ⟨g,0,none⟩ (.int .i64 (wrap64 (n + m))):=by
  have hr:=at_add w g n m h;clear h;go_enter Tryz.func209,Tryz.ntmps209
  (go_wp2_with fail);go_ret;exact ⟨rfl,rfl⟩
theorem tn (w : World) (g : Nat) (n : Int) (h : TallyAt w g n) : Calls Tryz.prog 57 #[.pointer (some ⟨g,0,none⟩)] w fun e w'=>e = .returned (.int .i64 n) ∧ w = w':=by
  go_enter Tryz.func57,Tryz.ntmps57
  (go_wp2_with fail);refine (tnone _ g n h).mono ?_;rintro e w1 ⟨rfl,rfl⟩;(go_wp2_with fail);refine (at_Load _ g n h).mono ?_;rintro e w1 ⟨rfl,rfl⟩;(go_wp2_with fail);go_ret;exact ⟨rfl,rfl⟩
theorem tinc (w : World) (g : Nat) (n m : Int) (h : TallyAt w g n) (h1 : -2147483648 ≤ m) (h2 : m < 2147483648) :
    Calls Tryz.prog 137 #[.pointer (some ⟨g,0,none⟩),.int .i64 m] w fun e w'=>e = .returned (.int .i64 0) ∧ TallyAt w' g (wrap64 (n + m)) ∧ Keep [g] w w':=by
  have hset : TallyAt (w.setCell ⟨g,0,none⟩ (.int .i64 (wrap64 (n + m)))) g (wrap64 (n + m)):=by
    have h0 : w.heap[g]? = _:=h;unfold TallyAt;rw [heap_setCell_same h0];rfl
  have hks:=Keep.setCell w ⟨g,0,none⟩ (.int .i64 (wrap64 (n + m)));have Hset:=Lib.hid hset;have hm1 : ¬ (2147483648 ≤ m):=by omega
  have hm2 : ¬ (m < -2147483648):=by omega
  clear hset;go_enter Tryz.func137,Tryz.ntmps137
  (go_wp2_with fail);refine (tnone _ g n h).mono ?_;rintro e w1 ⟨rfl,rfl⟩;(go_wp2_with fail);refine (at_Add _ g n m h).mono ?_;rintro e w1 ⟨rfl,rfl⟩;(go_wp2_with fail);go_ret;exact ⟨rfl,Hset.out,hks⟩
end
section
open Go.RowKit
theorem vfresh_t (w : World) : Calls Tryz.prog 55 #[.int .i64 1] w fun e w'=>e = .returned (.iface 100 (.pointer (some ⟨w.heap.size,0,none⟩))) ∧ TallyAt w' w.heap.size 0 ∧ Below w.heap.size w w':=by
  go_enter Tryz.func55,Tryz.ntmps55
  (go_wp2_with fail);refine (tnew w).mono ?_;rintro e w1 ⟨rfl,h1,hb⟩;(go_wp2_with fail);go_ret;exact ⟨rfl,h1,hb⟩
set_option maxHeartbeats 1000000 in
theorem vnew (t : ByteArray) (w : World) (ht : t.size ≤ 9223372036854775807) (k : Int) (hk : kindB t = k) (hk0 : k ≠ 0) (ty : TypeId) (Z : World → World → Nat → Prop)
    (hf : ∀ w,Calls Tryz.prog 55 #[.int .i64 k] w fun e w'=>∃ gs,e = .returned (.iface ty (.pointer (some ⟨gs,0,none⟩))) ∧ Z w w' gs ∧ Below w.heap.size w w') :
    Calls Tryz.prog 23 #[.string t] w fun e w'=>∃ g b gs w2 w3,e = .returned (.tuple #[.pointer (some ⟨g,0,none⟩),.int .i64 0]) ∧ ViewAt w' g t b [] (.iface ty (.pointer (some ⟨gs,0,none⟩))) ∧ Z w2 w3 gs ∧ Below w2.heap.size w2 w3 ∧ Below w3.heap.size w3 w' ∧ g = w3.heap.size ∧ w.heap.size ≤ b ∧ b < w2.heap.size ∧ Below w.heap.size w w':=by
  have hmm:=@run_makeMap Tryz.prog;have c1:=fun w=>check_any t w ht;have e1 : checkB t = 0:=by unfold checkB;rw [hk,if_neg hk0]
  rw [e1] at c1;have c2:=fun w=>kind_any t w ht;rw [hk] at c2;clear e1 hk hk0;go_enter Tryz.func23,Tryz.ntmps23
  (go_wp2_with fail);refine (c1 _).mono ?_;rintro e w1 ⟨rfl,hb1⟩;(go_wp2_with fail);refine (c2 _).mono ?_;rintro e w2 ⟨rfl,hb2⟩;(go_wp2_with fail);refine (hf _).mono ?_;rintro e w3 ⟨gs,rfl,hZ,hb3⟩;have hn:=SetAt.new (kv:=idV) (ok:=okId) w1 w1.heap.size rfl;have hs1 : w.heap.size ≤ w1.heap.size:=hb1.size;have hs2 : w1.heap.size + 1 ≤ w2.heap.size:=by have:=hb2.size;simpa using this
  have hs3:=hb3.size;have hb01 : Below w.heap.size w (w1.alloc (.map #[] 0)):=hb1.alloc hs1 _;have hb02 : Below w.heap.size w w2:=bel2 hb01 hb2;have hb03 : Below w.heap.size w w3:=bel2 hb02 hb3;have hn2:=(hn.below hb2).below hb3;have Hn:=Lib.hid hn2;have HZ:=Lib.hid hZ;clear hn hn2 hZ hb1 hb2 hb01 hb02 c1 c2 hf;have hbf : Below w3.heap.size w3 (w3.alloc (.cells #[.string t,.map (some w1.heap.size),.iface ty (.pointer (some ⟨gs,0,none⟩))] 79)):=(Below.refl _ _).alloc (Nat.le_refl _) _;have hv : ViewAt (w3.alloc (.cells #[.string t,.map (some w1.heap.size),.iface ty (.pointer (some ⟨gs,0,none⟩))] 79)) w3.heap.size t w1.heap.size [] (.iface ty (.pointer (some ⟨gs,0,none⟩))) :=
    ⟨heap_alloc_new w3 _,Hn.out.below hbf⟩
  have Hv:=Lib.hid hv;clear hv;(go_wp2_with fail);go_ret2;exact ⟨w3.heap.size,w1.heap.size,gs,w2,w3,rfl,Hv.out,HZ.out,hb3,hbf,rfl,hs1,by omega,bel2 hb03 hbf⟩
theorem vdoes_t (m : MarkV) (o : OpV) (A : Option Addr) (c : Nat) (w : World) (g gt : Nat) (t : ByteArray) (b : Nat) (I : List Id32) (n : Int) (h : ViewAt w g t b I (.iface 100 (.pointer (some ⟨gt,0,none⟩)))) (hT : TallyAt w gt n) (h1 : -2147483648 ≤ o.n) (h2 : o.n < 2147483648) :
    Calls Tryz.prog 64 #[.pointer (some ⟨g,0,none⟩),.agg (markVC m),.agg (opC o A c)] w fun e w'=>e = .returned (.tuple #[]) ∧ TallyAt w' gt (wrap64 (n + o.n)) ∧ Keep [gt] w w':=by
  have hB : Below w.heap.size w ((w.alloc (.cells (markVC m) 41)).alloc (.cells (opC o A c) 52)):=((Below.refl _ _).alloc (Nat.le_refl _) _).alloc (by simp) _;have hc:=(h.below hB).cell2;have hT1:=hT.kept (Keep.of_below hB) (by simp);unfold opC at hB hc hT1 ⊢;have ci:=tinc _ gt n o.n hT1 h1 h2;go_enter Tryz.func64,Tryz.ntmps64
  (go_wp2_with fail);refine ci.mono ?_;rintro e w1 ⟨rfl,h1,hk1⟩;have hfin : Keep [gt] w w1:=Keep.trans ((Keep.of_below hB).mono (S':=[gt]) (by simp)) hk1 (fun x hx=>.inl hx);clear hB hc hT1 ci h hT hk1;(go_wp2_with fail);go_end0;exact ⟨rfl,h1,hfin⟩
@[go_sem] theorem storeValA_run (w : World) (g : Nat) (hg : g = w.heap.size) (z : Array Value) (hz : z.size = 3) (k n : Int) (A : Option Addr) (m c : Nat) (e : TypeId) : (stS 25 ⟨g,0,none⟩ (.agg (valVC ⟨k,n,.slice A m c⟩))).run Tryz.prog (w.alloc (.cells z e)) = .ok () (w.alloc (.cells (valVC ⟨k,n,.slice A m c⟩) e)):=storeValV_run w g hg z hz _ rfl e
set_option maxRecDepth 100000 in
set_option maxHeartbeats 1000000 in
theorem vvalue_t (w : World) (g gt : Nat) (t : ByteArray) (b : Nat) (I : List Id32) (n : Int) (h : ViewAt w g t b I (.iface 100 (.pointer (some ⟨gt,0,none⟩)))) (hT : TallyAt w gt n) (ht : t.size ≤ 9223372036854775807) (hk : kindB t = 1) :
    Calls Tryz.prog 24 #[.pointer (some ⟨g,0,none⟩)] w fun e w'=>e = .returned (.agg (valVC ⟨1,n,.slice none 0 0⟩)) ∧ Below w.heap.size w w':=by
  have hB : Below w.heap.size w (w.alloc (.cells (valVC valV0) 25)):=(Below.refl _ _).alloc (Nat.le_refl _) _;have h1:=h.below hB;have hT1:=hT.kept (Keep.of_below hB) (by simp);have hg1 : (w.alloc (.cells (valVC valV0) 25)).heap[w.heap.size]? = some (.cells (valVC valV0) 25 (0,0)):=heap_alloc_new w _;have c2:=fun w=>kind_any t w ht;rw [hk] at c2;go_enter Tryz.func24,Tryz.ntmps24
  go_upto_region 1 with fail
  obtain ⟨ga,hga⟩ : ∃ ga,w.heap.size = ga:=⟨_,rfl⟩
  have Hga:=Lib.hid hga;rw [hga] at hg1 hB ⊢;obtain ⟨W,hW⟩ : ∃ W,W = w.alloc (.cells (valVC valV0) 25):=⟨_,rfl⟩
  rw [← hW] at h1 hT1 hg1 hB ⊢;clear hW hga;have hc1:=h1.cell1;(go_wp2_with fail);refine (vnone_live W g b hc1).mono ?_;rintro e w1 ⟨rfl,rfl⟩;have hc0:=h1.cell0;(go_wp2_with fail);refine (c2 _).mono ?_;rintro e w2 ⟨rfl,hb2⟩;have h2:=h1.below hb2;have hT2:=hT1.kept (Keep.of_below hb2) (by simp);have hg2:=(hb2.block ga (Array.getElem?_eq_some_iff.1 hg1).1).trans hg1;have hB2 : Below ga w w2:=hB.trans (hb2.mono (by have:=hB.size;have:=Hga.out;omega));have hs2 : ga < w2.heap.size:=(Array.getElem?_eq_some_iff.1 hg2).1;clear hc0 hc1 h1 hT1 hg1 hB hb2 h hT c2;have hb3 : Below w2.heap.size w2 (w2.alloc (.cells (valVC ⟨1,0,.slice none 0 0⟩) 25)):=(Below.refl _ _).alloc (Nat.le_refl _) _;have h3:=h2.below hb3;have hT3:=hT2.kept (Keep.of_below hb3) (by simp);have hg3:=(hb3.block ga hs2).trans hg2;have hB3 : Below ga w (w2.alloc (.cells (valVC ⟨1,0,.slice none 0 0⟩) 25)):=hB2.trans (hb3.mono (by omega));have hv3 : (w2.alloc (.cells (valVC ⟨1,0,.slice none 0 0⟩) 25)).heap[w2.heap.size]? = some (.cells (valVC ⟨1,0,.slice none 0 0⟩) 25 (0,0)):=heap_alloc_new w2 _;obtain ⟨gv,hgv⟩ : ∃ gv,w2.heap.size = gv:=⟨_,rfl⟩
  have Hgv:=Lib.hid hgv;clear h2 hT2 hg2 hB2 hb3;go_upto_region 4 with fail
  rw [hgv] at hv3 hs2;obtain ⟨W3,hW3⟩ : ∃ W3,W3 = (w2.alloc (.cells (valVC ⟨1,0,.slice none 0 0⟩) 25)):=⟨_,rfl⟩
  rw [← hW3] at h3 hT3 hg3 hB3 hv3 ⊢;clear hW3 hgv;have hc2:=h3.cell2;have hf : W3.frozen? ⟨gv,1,none⟩ = false:=by simp [World.frozen?,hv3]
  have hcv : W3.cell? ⟨gv,1,none⟩ = some (.int .i64 0):=by rw [cell_of_row W3 gv 1 _ _ _ hv3];simp [go_sem]
  (go_wp2_with fail);refine (tn W3 gt n hT3).mono ?_;rintro e w4 ⟨rfl,rfl⟩;have hset : (valVC ⟨1,0,.slice none 0 0⟩).setIfInBounds 1 (.int .i64 n) = valVC ⟨1,n,.slice none 0 0⟩:=by apply Array.ext';simp [valVC]
  have hv4 : (W3.setCell ⟨gv,1,none⟩ (.int .i64 n)).heap[gv]? = some (.cells (valVC ⟨1,n,.slice none 0 0⟩) 25 (0,0)):=by rw [heap_setCell_same hv3,hset]
  have hks:=Keep.setCell W3 ⟨gv,1,none⟩ (.int .i64 n);have hg4 : (W3.setCell ⟨gv,1,none⟩ (.int .i64 n)).heap[ga]? = some (.cells (valVC valV0) 25 (0,0)):=(hks.block ga (Array.getElem?_eq_some_iff.1 hg3).1 (by simp;omega)).trans hg3;have hB4 : Below ga w (W3.setCell ⟨gv,1,none⟩ (.int .i64 n)):=hB3.trans (hks.below (by have:=(Array.getElem?_eq_some_iff.1 hg3).1;omega) (by simp;omega));clear hset hks hg3 hB3 h3 hT3 hc2;go_upto_region 20 with fail
  obtain ⟨W4,hW4⟩ : ∃ W4,W4 = W3.setCell ⟨gv,1,none⟩ (.int .i64 n):=⟨_,rfl⟩
  rw [← hW4] at hv4 hg4 hB4 ⊢;clear hW4 hf hv3 hcv;have hrow : rowAt W4 gv 0 3 = some (valVC ⟨1,n,.slice none 0 0⟩):=by unfold rowAt;rw [hv4];simp [go_sem]
  have hsto:=run_stS_at (P:=Tryz.prog) infoValV W4 ga (valVC valV0) (valVC ⟨1,n,.slice none 0 0⟩) _ hg4 (by simp) (by simp) (valVC_one _ rfl);have hkf : Keep [ga] W4 (W4.setRow ga (valVC ⟨1,n,.slice none 0 0⟩)):=⟨rfl,rfl,rfl,by simp [World.setRow],fun x _ hx=>setRow_other W4 ga x _ (by simpa using hx)⟩
  have Hfin:=Lib.hid (setRow_heap W4 ga _ (valVC ⟨1,n,.slice none 0 0⟩) _ _ hg4);have hBf : Below ga w (W4.setRow ga (valVC ⟨1,n,.slice none 0 0⟩)):=hB4.trans (hkf.below (by have:=hB4.size;have:=Hga.out;omega) (by simp));have HBf:=Lib.hid hBf;clear hBf hkf hg4 hB4 hv4;(go_wp2_with fail);refine bodyPost_ret (results_cell_row Tryz.results24 _ _ ga 25 (valVC ⟨1,n,.slice none 0 0⟩) (0,0) _ rfl Hfin.out Tryz.underlying25 rfl (by rw [valVC_size];exact infoValV)) rfl ?_;exact ⟨rfl,by rw [Hga.out];exact HBf.out⟩
end
section
open Go.RowKit
abbrev okR (x : BRow) : Prop:=x.val.size ≤ maxLen
abbrev RowSet (w : World) (b : Nat) (L : List BRow) : Prop:=SetAt w b rowV okR L
theorem zeroBool (w : World) : (zeroValue 4).run Tryz.prog w = .ok (.bool false) w:=by kernel_rfl
def small (x : BRow) : Prop:=x.val.size ≤ 16
theorem small_ok {x : BRow} (h : small x) : okR x:=by unfold small at h;unfold okR;simp only [maxLen];omega
section
variable {w : World} {b : Nat} {X : List BRow} {x : BRow}
theorem rhit (h : RowSet w b X) (hk : small x) (hx : x ∈ X) : (Instr.lookup 167 (.map (some b)) (.agg (bRowC x)) false).run Tryz.prog w = .ok (.bool true) w:=SetAt.hit (kv:=rowV) (ok:=okR) h rowKey Tryz.underlying167 (small_ok hk) hx
theorem rmiss (h : RowSet w b X) (hk : small x) (hx : x ∉ X) : (Instr.lookup 167 (.map (some b)) (.agg (bRowC x)) false).run Tryz.prog w = .ok (.bool false) w:=SetAt.miss (kv:=rowV) (ok:=okR) h rowKey Tryz.underlying167 zeroBool (small_ok hk) hx
theorem rput (h : RowSet w b X) (hk : small x) : ∃ w',(Instr.mapUpdate 167 (.map (some b)) (.agg (bRowC x)) (.bool true)).run Tryz.prog w = .ok () w' ∧ RowSet w' b (x :: X) ∧ Keep [b] w w':=SetAt.put h rowKey Tryz.underlying167 (small_ok hk)
theorem rdel (h : RowSet w b X) (hk : small x) (ty : TypeId) : ∃ w',(Builtin.delete_ #[167,171] ty #[.map (some b),.agg (bRowC x)]).run Tryz.prog w = .ok (.tuple #[]) w' ∧ RowSet w' b (X.filter fun y=>decide (y ≠ x)) ∧ Keep [b] w w':=SetAt.del h rowKey Tryz.underlying167 (small_ok hk) ty
end
structure BagAt (w : World) (g bl bg : Nat) (L G : List BRow) : Prop where
  blk : w.heap[g]? = some (.cells #[.map (some bl),.map (some bg)] 169 (0,0))
  live : RowSet w bl L
  gone : RowSet w bg G
  ne : bl ≠ bg
  risL : Ris cmpRow L
  risG : Ris cmpRow G
  smL : ∀ x ∈ L,small x
  smG : ∀ x ∈ G,small x
  apart : ∀ x ∈ L,x ∉ G
section
variable {w w' : World} {g bl bg : Nat} {L G : List BRow}
theorem BagAt.cell0 (h : BagAt w g bl bg L G) : w.cell? ⟨g,0,none⟩ = some (.map (some bl)):=by rw [cell_of_row w g 0 _ _ _ h.blk];rfl
theorem BagAt.cell1 (h : BagAt w g bl bg L G) : w.cell? ⟨g,1,none⟩ = some (.map (some bg)):=by rw [cell_of_row w g 1 _ _ _ h.blk];rfl
theorem set_ne {b : Nat} {X : List BRow} {cs : Array Value} {t : TypeId} {f : Nat × Nat} (h : RowSet w b X) (hg : w.heap[g]? = some (.cells cs t f)) : g ≠ b:=by
  rintro rfl;obtain ⟨M,es,clk,hm,_⟩:=h;rw [hm.heap] at hg;cases hg
theorem BagAt.nel (h : BagAt w g bl bg L G) : g ≠ bl:=set_ne h.live h.blk
theorem BagAt.neg (h : BagAt w g bl bg L G) : g ≠ bg:=set_ne h.gone h.blk
theorem BagAt.lt (h : BagAt w g bl bg L G) : g < w.heap.size ∧ bl < w.heap.size ∧ bg < w.heap.size:=⟨World.block_lt_of_cell? w _ h.cell0,h.live.lt,h.gone.lt⟩
theorem BagAt.kept {S : List Nat} (h : BagAt w g bl bg L G) (k : Keep S w w') (hg : g ∉ S) (hl : bl ∉ S) (hb : bg ∉ S) : BagAt w' g bl bg L G :=
  ⟨(k.block g h.lt.1 hg).trans h.blk,h.live.kept k hl,h.gone.kept k hb,h.ne,h.risL,h.risG,h.smL,h.smG,h.apart⟩
theorem BagAt.below (h : BagAt w g bl bg L G) (k : Below w.heap.size w w') : BagAt w' g bl bg L G:=h.kept (Keep.of_below k) (by simp) (by simp) (by simp)
end
theorem bnone_live (w : World) (g b : Nat) (h : w.cell? ⟨g,0,none⟩ = some (.map (some b))) : Calls Tryz.prog 122 #[.pointer (some ⟨g,0,none⟩)] w fun e w'=>e = .returned (.bool false) ∧ w = w':=by
  have hn:=fun r=>run_eql_map_nil (P:=Tryz.prog) w 167 171 4 r Tryz.underlying167;go_enter Tryz.func122,Tryz.ntmps122
  (go_wp2_with fail);go_ret;exact ⟨rfl,rfl⟩
theorem bnew (w : World) : Calls Tryz.prog 116 #[] w fun e w'=>∃ g bl bg,e = .returned (.pointer (some ⟨g,0,none⟩)) ∧ BagAt w' g bl bg [] [] ∧ w.heap.size ≤ g ∧ w.heap.size ≤ bl ∧ w.heap.size ≤ bg ∧ Below w.heap.size w w':=by
  have hmm:=@run_makeMap Tryz.prog;go_enter Tryz.func116,Tryz.ntmps116
  (go_wp2_with fail);go_ret;have k1:=SetAt.new (kv:=rowV) (ok:=okR) w w.heap.size rfl;have k2:=SetAt.new (kv:=rowV) (ok:=okR) (w.alloc (.map #[] 0)) (w.heap.size + 1) (by simp);refine ⟨w.heap.size + 2,w.heap.size,w.heap.size + 1,rfl,⟨?_,(k1.kept (Keep.alloc _ _) (by simp)).kept (Keep.alloc _ _) (by simp),k2.kept (Keep.alloc _ _) (by simp),by omega,Ris.nil,Ris.nil,by simp,by simp,by simp⟩,by omega,by omega,by omega,(((Below.refl _ _).alloc (Nat.le_refl _) _).alloc (by simp) _).alloc (by simp;omega) _⟩;have:=heap_alloc_new ((w.alloc (.map #[] 0)).alloc (.map #[] 0)) (.cells #[.map (some w.heap.size),.map (some (w.heap.size + 1))] 169 (0,0));simpa using this
def longE (s : ByteArray) : Int:=if 16 < s.size then 3 else 0
theorem bask (v : ByteArray) (w : World) (g b : Nat) (h : w.cell? ⟨g,0,none⟩ = some (.map (some b))) (hv : v.size ≤ 9223372036854775807) : Calls Tryz.prog 210 #[.pointer (some ⟨g,0,none⟩),.string v] w fun e w'=>e = .returned (.int .i64 (longE v)) ∧ w = w':=by
  go_enter Tryz.func210,Tryz.ntmps210
  (go_wp2_with fail);refine (bnone_live _ _ _ h).mono ?_;rintro e w' ⟨rfl,rfl⟩;go_wp2_with fail
  all_goals
    go_ret;refine ⟨ret_int ?_,rfl⟩;unfold longE
    first
      | rw [if_pos (by omega)]
      | rw [if_neg (by omega)]
def addB (L G : List BRow) (x : BRow) : List BRow:=if 16 < x.val.size then L else if x ∈ G then L else insC cmpRow L x
set_option maxRecDepth 100000 in
set_option maxHeartbeats 1000000 in
theorem badd (d : Id32) (v : ByteArray) (w : World) (g bl bg : Nat) (L G : List BRow) (h : BagAt w g bl bg L G) (hv : v.size ≤ 9223372036854775807) :
    Calls Tryz.prog 138 #[.pointer (some ⟨g,0,none⟩),.agg (idC d),.string v] w fun e w'=>e = .returned (.int .i64 (longE v)) ∧ BagAt w' g bl bg (addB L G ⟨d,v⟩) G ∧ Keep [bl] w w':=by
  have h0 : BagAt (w.alloc (.cells (idC d) 39)) g bl bg L G:=h.below ((Below.refl _ _).alloc (Nat.le_refl _) _);have hc:=h0.cell0;by_cases hlong : 16 < v.size
  · have e1 : longE v = 3:=if_pos hlong;have e2 : addB L G ⟨d,v⟩ = L:=if_pos hlong;rw [e1,e2];have hask:=bask v _ g bl hc hv;rw [e1] at hask;clear e1 e2 hc;go_enter Tryz.func138,Tryz.ntmps138
    (go_wp2_with fail);refine hask.mono ?_;rintro e w' ⟨rfl,rfl⟩;(go_wp2_with fail);go_ret;exact ⟨rfl,h0,(Keep.alloc _ _).mono (by simp)⟩
  · have e1 : longE v = 0:=if_neg hlong;have hsm : small ⟨d,v⟩:=by unfold small;simp only;omega
    have hask:=bask v _ g bl hc hv;rw [e1] at hask;rw [e1];have hb1 : Below w.heap.size w ((w.alloc (.cells (idC d) 39)).alloc (.cells (bRowC ⟨d,v⟩) 171)):=((Below.refl _ _).alloc (Nat.le_refl _) _).alloc (by simp) _;have h1:=h.below hb1;have hrow : rowAt ((w.alloc (.cells (idC d) 39)).alloc (.cells (bRowC ⟨d,v⟩) 171)) (w.heap.size + 1) 0 33 = some (bRowC ⟨d,v⟩):=by simp [go_sem]
    have hbl:=h.lt.2.1;clear hc e1 hv;by_cases hG : (⟨d,v⟩ : BRow) ∈ G
    · have e2 : addB L G ⟨d,v⟩ = L:=by unfold addB;rw [if_neg hlong,if_pos hG]
      rw [e2];clear e2 hlong;go_enter Tryz.func138,Tryz.ntmps138
      (go_wp2_with fail);refine hask.mono ?_;rintro e w' ⟨rfl,rfl⟩;go_upto_region 5 with fail
      obtain ⟨W,hW⟩ : ∃ W,W = ((w.alloc (.cells (idC d) 39)).alloc (.cells (bRowC ⟨d,v⟩) 171)):=⟨_,rfl⟩
      rw [← hW] at h1 hrow hb1 ⊢;have hc1:=h1.cell1;have hk : ∀ x : Subtype (Bel W),(Instr.lookup 167 (.map (some bg)) (.agg (bRowC ⟨d,v⟩)) false).run Tryz.prog x.1 = .ok (.bool true) x.1:=fun x=>rhit (h1.gone.below x.2) hsm hG;have hh0:=Lib.hid h0;have hh1:=Lib.hid hG;clear hW h0 hG hask;refine wp_region_lex (Bel W) false (by kernel_rfl) (by kernel_rfl) (by kernel_rfl) (bel_drew W) ?_;have hne:=bel_some W;have hS:=bel_drew W;have b1:=sub_cell hc1;have b2:=sub_row hrow;repeat (refine wpLx_loose ?_ ?_;(focus (simp only [chainOp];done));intro K hK;go_simp;refine hK _ ?_;clear hK K)
      refine wpLx_nil ?_;intro hS;(go_wp2_with fail);go_ret;exact ⟨rfl,h1.below hS,(Keep.of_below (bel2 hb1 hS)).mono (by simp)⟩
    · have e2 : addB L G ⟨d,v⟩ = insC cmpRow L ⟨d,v⟩:=by unfold addB;rw [if_neg hlong,if_neg hG]
      rw [e2];clear e2 hlong;go_enter Tryz.func138,Tryz.ntmps138
      (go_wp2_with fail);refine hask.mono ?_;rintro e w' ⟨rfl,rfl⟩;go_upto_region 5 with fail
      obtain ⟨W,hW⟩ : ∃ W,W = ((w.alloc (.cells (idC d) 39)).alloc (.cells (bRowC ⟨d,v⟩) 171)):=⟨_,rfl⟩
      rw [← hW] at h1 hrow hb1 ⊢;have hc1:=h1.cell1;have hk : ∀ x : Subtype (Bel W),(Instr.lookup 167 (.map (some bg)) (.agg (bRowC ⟨d,v⟩)) false).run Tryz.prog x.1 = .ok (.bool false) x.1:=fun x=>rmiss (h1.gone.below x.2) hsm hG;have hh0:=Lib.hid h0;have hh1:=Lib.hid hG;clear hW h0 hG hask;refine wp_region_lex (Bel W) false (by kernel_rfl) (by kernel_rfl) (by kernel_rfl) (bel_drew W) ?_;have hne:=bel_some W;have hS:=bel_drew W;have b1:=sub_cell hc1;have b2:=sub_row hrow;repeat (refine wpLx_loose ?_ ?_;(focus (simp only [chainOp];done));intro K hK;go_simp;refine hK _ ?_;clear hK K)
      refine wpLx_nil ?_;intro hS;have h2:=h1.below hS;have hrow2 : rowAt W.drew (w.heap.size + 1) 0 33 = some (bRowC ⟨d,v⟩):=hrow;have hbW : Below w.heap.size w W.drew:=bel2 hb1 hS;clear b1 b2 hk hc1 hrow h1 hne hb1;go_upto_region 6 with fail
      obtain ⟨W1,hW1⟩ : ∃ W1,W1 = W.drew:=⟨_,rfl⟩
      rw [← hW1] at h2 hrow2 hbW ⊢;obtain ⟨w2,hrun,hL2,hk2⟩:=rput (x:=⟨d,v⟩) (h2.live.kept (Keep.drew W1) (by simp)) hsm;have hgb : g ∉ [bl]:=by simp;exact h2.nel
      have hc0:=h2.cell0;clear hW1 hS;refine wp_region_lex (Kp [bl] W1) false (by kernel_rfl) (by kernel_rfl) (by kernel_rfl) (kp_drew [bl] W1) ?_;have hne:=kp_some [bl] W1;have hS:=kp_drew [bl] W1;have b1:=ksub_cell hc0 hgb;have b2:=ksub_row hrow2 (S:=[bl]) (by simp;omega);repeat (refine wpLx_loose ?_ ?_;(focus (simp only [chainOp];done));intro K hK;go_simp;refine hK _ ?_;clear hK K)
      refine wpLx_chain ?_ ?_ ?_;(focus (exact hS));(focus (simp only [chainOp];done));intro K hK;go_simp;refine step_keep (kp_next hS hk2 (by simp)) (fun hS=>?_);refine hK _ _ ?_;clear hK K;refine wpLx_nil ?_;intro hS;(go_wp2_with fail);go_ret;have hbg : bg ∉ [bl]:=by simp;exact fun e=>h2.ne e.symm
      have hS' : Keep [bl] W1 _:=hS;refine ⟨rfl,⟨(hS'.block g h2.lt.1 hgb).trans h2.blk,hL2.congr fun x=>?_,h2.gone.kept hS' hbg,h2.ne,ris_insC totRow h2.risL,h2.risG,fun x hx=>?_,h2.smG,fun x hx=>?_⟩,Keep.trans ((Keep.of_below hbW).mono (S':=[bl]) (by simp)) hS' (fun x hx=>.inl hx)⟩
      · rw [mem_insC totRow,List.mem_cons]
      · rcases (mem_insC totRow).1 hx with e | hx
        · rw [e];exact hsm
        · exact h2.smL x hx
      · rcases (mem_insC totRow).1 hx with e | hx
        · rw [e];exact hh1.out
        · exact h2.apart x hx
end
section
open Go.RowKit
theorem row_ne {w : World} {g o k b : Nat} {cs : Array Value} {X : List BRow} (h : rowAt w g o k = some cs) (hs : RowSet w b X) : g ≠ b:=by
  rintro rfl;obtain ⟨M,es,clk,hm,_⟩:=hs;unfold rowAt at h;rw [hm.heap] at h;cases h
def remG (G : List BRow) (v : ByteArray) (tags : List Id32) : List BRow:=tags.foldl (fun G t=>insC cmpRow G ⟨t,v⟩) G
def remL (L : List BRow) (v : ByteArray) (tags : List Id32) : List BRow:=tags.foldl (fun L t=>L.filter fun y=>decide (y ≠ (⟨t,v⟩ : BRow))) L
theorem mem_remG {v : ByteArray} : ∀ {tags : List Id32} {G : List BRow} {x : BRow},x ∈ remG G v tags ↔ x ∈ G ∨ (x.val = v ∧ x.tag ∈ tags)
  | [],G,x=>by simp [remG]
  | t :: tags,G,x=>by
    show x ∈ remG (insC cmpRow G ⟨t,v⟩) v tags ↔ _;rw [mem_remG,mem_insC totRow,List.mem_cons];constructor
    · rintro ((h | h) | ⟨h1,h2⟩)
      · subst h;exact .inr ⟨rfl,.inl rfl⟩
      · exact .inl h
      · exact .inr ⟨h1,.inr h2⟩
    · rintro (h | ⟨h1,h | h⟩)
      · exact .inl (.inr h)
      · exact .inl (.inl (by cases x;simp_all))
      · exact .inr ⟨h1,h⟩
theorem mem_remL {v : ByteArray} : ∀ {tags : List Id32} {L : List BRow} {x : BRow},x ∈ remL L v tags ↔ x ∈ L ∧ ¬ (x.val = v ∧ x.tag ∈ tags)
  | [],L,x=>by simp [remL]
  | t :: tags,L,x=>by
    show x ∈ remL (L.filter fun y=>decide (y ≠ (⟨t,v⟩ : BRow))) v tags ↔ _;rw [mem_remL,List.mem_filter,List.mem_cons,decide_eq_true_eq];constructor
    · rintro ⟨⟨h1,h2⟩,h3⟩;refine ⟨h1,?_⟩;rintro ⟨e1,e2 | e2⟩
      · exact h2 (by cases x;simp_all)
      · exact h3 ⟨e1,e2⟩
    · rintro ⟨h1,h2⟩;refine ⟨⟨h1,fun e=>h2 (by subst e;exact ⟨rfl,.inl rfl⟩)⟩,fun h=>h2 ⟨h.1,.inr h.2⟩⟩
theorem ris_remG {v : ByteArray} : ∀ {tags : List Id32} {G : List BRow},Ris cmpRow G → Ris cmpRow (remG G v tags)
  | [],_,h=>h
  | t :: tags,G,h=>by
    show Ris cmpRow (remG (insC cmpRow G ⟨t,v⟩) v tags);exact ris_remG (ris_insC totRow h)
theorem ris_remL {v : ByteArray} : ∀ {tags : List Id32} {L : List BRow},Ris cmpRow L → Ris cmpRow (remL L v tags)
  | [],_,h=>h
  | t :: tags,L,h=>by
    show Ris cmpRow (remL (L.filter fun y=>decide (y ≠ (⟨t,v⟩ : BRow))) v tags);exact ris_remL (h.filter _)
theorem remG_snoc (G : List BRow) (v : ByteArray) (tags : List Id32) (t : Id32) : remG G v (tags ++ [t]) = insC cmpRow (remG G v tags) ⟨t,v⟩:=by simp [remG]
theorem remL_snoc (L : List BRow) (v : ByteArray) (tags : List Id32) (t : Id32) : remL L v (tags ++ [t]) = (remL L v tags).filter fun y=>decide (y ≠ (⟨t,v⟩ : BRow)):=by simp [remL]
set_option maxRecDepth 100000 in
set_option maxHeartbeats 2000000 in
theorem brem_ok (v : ByteArray) (A : Option Addr) (n cap : Nat) (T : List Id32) (w : World) (g bl bg : Nat) (L G : List BRow) (h : BagAt w g bl bg L G) (hT : TagsIn w A n T) (hv : v.size ≤ 16) (hn : n ≤ 1000000) :
    Calls Tryz.prog 139 #[.pointer (some ⟨g,0,none⟩),.string v,.slice A n cap] w fun e w'=>e = .returned (.int .i64 0) ∧ BagAt w' g bl bg (remL L v T) (remG G v T) ∧ Keep [bl,bg] w w':=by
  have hlen:=hT.len;have Hlen:=Lib.hid hlen;clear hlen;have hask:=bask v w g bl h.cell0 (by omega);have e1 : longE v = 0:=if_neg (by omega);rw [e1] at hask;clear e1;go_enter Tryz.func139,Tryz.ntmps139
  (go_wp2_with fail);refine hask.mono ?_;rintro e w' ⟨rfl,rfl⟩;(go_wp2_with fail);go_loopw [19] (fun i wr=>∃ k : Nat,k ≤ n ∧ i = .int .i64 k ∧ BagAt wr g bl bg (remL L v (T.take k)) (remG G v (T.take k)) ∧ Keep [bl,bg] w wr) (fun i _=>n - (intOf i).toNat)
  case atStart=>exact ⟨0,Nat.zero_le _,rfl,by simpa [remL,remG] using h,Keep.refl _ _⟩
  case round =>
    obtain ⟨k,hk,rfl,hB,hkr⟩:=hrel;by_cases hlt : k < n
    · obtain ⟨q,o,rfl,hrow⟩:=hT.get hlt (by rw [Hlen.out];exact hlt);have hql : q ≠ bl:=row_ne hrow h.live;have hqg : q ≠ bg:=row_ne hrow h.gone;have hrr : rowAt wr q (o + k * 32) 32 = some (idC (T[k]'(by rw [Hlen.out];exact hlt))):=(hkr.row (rowAt_lt hrow) (by simp [hql,hqg]) _ _).trans hrow;have htk : T.take (k + 1) = T.take k ++ [T[k]'(by rw [Hlen.out];exact hlt)]:=by rw [List.take_add_one,List.getElem?_eq_getElem (by rw [Hlen.out];exact hlt)];rfl
      obtain ⟨d,hd⟩ : ∃ d,T[k]'(by rw [Hlen.out];exact hlt) = d:=⟨_,rfl⟩
      rw [hd] at hrr htk;have Htk:=Lib.hid htk;clear hd htk hrow;have hsm : small ⟨d,v⟩:=hv;obtain ⟨L1,hL1⟩ : ∃ L1,remL L v (T.take k) = L1:=⟨_,rfl⟩
      obtain ⟨G1,hG1⟩ : ∃ G1,remG G v (T.take k) = G1:=⟨_,rfl⟩
      have HL1:=Lib.hid hL1;have HG1:=Lib.hid hG1;rw [hL1,hG1] at hB;clear hL1 hG1;have hb1 : Below wr.heap.size wr ((wr.alloc (.cells (idC d) 39)).alloc (.cells (bRowC ⟨d,v⟩) 171)):=((Below.refl _ _).alloc (Nat.le_refl _) _).alloc (by simp) _;have h1:=hB.below hb1;have hrow1 : rowAt ((wr.alloc (.cells (idC d) 39)).alloc (.cells (bRowC ⟨d,v⟩) 171)) (wr.heap.size + 1) 0 33 = some (bRowC ⟨d,v⟩):=by simp [go_sem]
      have hlt':=hB.lt;go_upto_region 8 with fail
      obtain ⟨W1,hW1⟩ : ∃ W1,W1 = ((wr.alloc (.cells (idC d) 39)).alloc (.cells (bRowC ⟨d,v⟩) 171)):=⟨_,rfl⟩
      rw [← hW1] at h1 hrow1 hb1 ⊢;obtain ⟨w2,hrun,hG2,hk2⟩:=rput (x:=⟨d,v⟩) (h1.gone.kept (Keep.drew W1) (by simp)) hsm;have hgb : g ∉ [bg]:=by simp;exact h1.neg
      have hc1:=h1.cell1;clear hW1;refine wp_region_lex (Kp [bg] W1) false (by kernel_rfl) (by kernel_rfl) (by kernel_rfl) (kp_drew [bg] W1) ?_;have hne:=kp_some [bg] W1;have hS:=kp_drew [bg] W1;have b1:=ksub_cell hc1 hgb;have b2:=ksub_row hrow1 (S:=[bg]) (by simp;omega);repeat (refine wpLx_loose ?_ ?_;(focus (simp only [chainOp];done));intro K hK;go_simp;refine hK _ ?_;clear hK K)
      refine wpLx_chain ?_ ?_ ?_;(focus (exact hS));(focus (simp only [chainOp];done));intro K hK;go_simp;refine step_keep (kp_next hS hk2 (by simp)) (fun hS=>?_);refine hK _ _ ?_;clear hK K;refine wpLx_nil ?_;intro hS;have hS' : Keep [bg] W1 w2:=hS;have hlg : bl ∉ [bg]:=by simp;exact h1.ne
      have hl2:=h1.live.kept hS' hlg;have hblk2:=(hS'.block g h1.lt.1 hgb).trans h1.blk;have hc0 : w2.cell? ⟨g,0,none⟩ = some (.map (some bl)):=by rw [cell_of_row w2 g 0 _ _ _ hblk2];rfl
      have hrow2 : rowAt w2 (wr.heap.size + 1) 0 33 = some (bRowC ⟨d,v⟩):=(hS'.row (rowAt_lt hrow1) (by simp;omega) _ _).trans hrow1;have hkW2 : Keep [bg] wr w2:=Keep.trans ((Keep.of_below hb1).mono (S':=[bg]) (by simp)) hS' (fun x hx=>.inl hx);have hg1l:=hB.nel;have hsz2:=hkW2.size;clear b1 b2 hk2 hrun hne hS hS' hc1 hrow1 hb1;go_upto_region 9 with fail
      obtain ⟨w3,hrun,hL3,hk3⟩:=rdel (x:=⟨d,v⟩) (hl2.kept (Keep.drew w2) (by simp)) hsm 0;have hgl : g ∉ [bl]:=by simp;exact hg1l
      refine wp_region_lex (Kp [bl] w2) false (by kernel_rfl) (by kernel_rfl) (by kernel_rfl) (kp_drew [bl] w2) ?_;have hne:=kp_some [bl] w2;have hS:=kp_drew [bl] w2;have b1:=ksub_cell hc0 hgl;have b2:=ksub_row hrow2 (S:=[bl]) (by simp;omega);repeat (refine wpLx_loose ?_ ?_;(focus (simp only [chainOp];done));intro K hK;go_simp;refine hK _ ?_;clear hK K)
      refine wpLx_chain ?_ ?_ ?_;(focus (exact hS));(focus (simp only [chainOp];done));intro K hK;go_simp;refine step_keep (kp_next hS hk3 (by simp)) (fun hS=>?_);refine hK _ _ ?_;clear hK K;refine wpLx_nil ?_;intro hS;have hS' : Keep [bl] w2 w3:=hS;have hgl' : bg ∉ [bl]:=by simp;exact fun e=>h1.ne e.symm
      have hkn : Keep [bl,bg] w w3:=Keep.trans (Keep.trans hkr hkW2 (by simp)) hS' (by simp);have hBn : BagAt w3 g bl bg (remL L v (T.take (k + 1))) (remG G v (T.take (k + 1))):=by
        rw [Htk.out,remL_snoc,remG_snoc,HL1.out,HG1.out];refine ⟨(hS'.block g (World.block_lt_of_cell? w2 _ hc0) hgl).trans hblk2,hL3,(hG2.congr fun x=>?_).kept hS' hgl',h1.ne,hB.risL.filter _,ris_insC totRow hB.risG,fun x hx=>hB.smL x (List.mem_filter.1 hx).1,fun x hx=>?_,fun x hx=>?_⟩
        · rw [mem_insC totRow,List.mem_cons]
        · rcases (mem_insC totRow).1 hx with e | hx
          · rw [e];exact hsm
          · exact hB.smG x hx
        · intro hm;have h2:=List.mem_filter.1 hx;rcases (mem_insC totRow).1 hm with e | hm
          · exact (decide_eq_true_eq.mp h2.2) e
          · exact hB.apart x h2.1 hm
      clear b1 b2 hk3 hrun hne hS hS' hc0 hrow2;(go_wp2_with fail);go_roundw
      case rel=>exact ⟨k + 1,by omega,by go_num,hBn,hkn⟩
      case measure=>simp [intOf];omega
    · (go_wp2_with fail);go_ret;have e : k = n:=by omega
      have e2 : T.take k = T:=List.take_of_length_le (by rw [Hlen.out];omega);rw [e2] at hB;exact ⟨rfl,hB,hkr⟩
end
section
open Go.RowKit
structure Setting where
  val : ByteArray
  n : Int
  id : Id32
def settingC (x : Setting) : Array Value:=#[.string x.val] ++ #[.int .i64 x.n] ++ idC x.id
@[simp] theorem settingC_size (x : Setting) : (settingC x).size = 34:=by simp [settingC]
@[go_sem] theorem settingC_g0 (x : Setting) : (settingC x)[0]? = some (.string x.val):=by first | (simp [settingC,Array.getElem?_append];done) | (rw [show settingC x = ((#[] : Array Value)) ++ #[.string x.val] ++ (#[.int .i64 x.n] ++ idC x.id) from by apply Array.ext';simp [settingC]];exact arr_at _ _ _ _ (by simp))
@[go_sem] theorem settingC_gg0 (x : Setting) (h : 0 < (settingC x).size) : (settingC x)[0]'h = .string x.val:=Option.some.inj ((Array.getElem?_eq_getElem h).symm.trans (settingC_g0 x))
@[go_sem] theorem settingC_g1 (x : Setting) : (settingC x)[1]? = some (.int .i64 x.n):=by first | (simp [settingC,Array.getElem?_append];done) | (rw [show settingC x = (#[.string x.val]) ++ #[.int .i64 x.n] ++ (idC x.id) from by apply Array.ext';simp [settingC]];exact arr_at _ _ _ _ (by simp))
@[go_sem] theorem settingC_gg1 (x : Setting) (h : 1 < (settingC x).size) : (settingC x)[1]'h = .int .i64 x.n:=Option.some.inj ((Array.getElem?_eq_getElem h).symm.trans (settingC_g1 x))
@[go_sem] theorem settingC_e2 (x : Setting) : (settingC x).extract 2 34 = idC x.id:=by
  have h : settingC x = (#[.string x.val] ++ #[.int .i64 x.n]) ++ idC x.id ++ ((#[] : Array Value)):=by first | (simp [settingC,Array.append_assoc];done) | (apply Array.ext';simp [settingC];done)
  rw [h];exact arr_mid _ _ _ _ _ (by simp) (by simp)
@[go_sem] theorem settingC_all (x : Setting) : (settingC x).extract 0 34 = settingC x:=by have:=Array.extract_size (xs:=settingC x);rwa [settingC_size] at this
theorem settingC_one (x : Setting) : ∀ u ∈ (settingC x).toList,u.oneCell' = true:=by
  intro u hu;simp only [settingC,Array.toList_append,List.mem_append] at hu;rcases hu with (hu | hu) | hu
  · simp at hu;subst hu;rfl
  · simp at hu;subst hu;rfl
  · exact idC_one _ u hu
def setting0 : Setting:=⟨⟨#[]⟩,0,id0⟩
theorem Setting_ext {x y : Setting} (h : x.val = y.val ∧ x.n = y.n ∧ x.id = y.id) : x = y:=by cases x;cases y;simp_all
instance : DecidableEq Setting:=fun x y=>if h : x.val = y.val ∧ x.n = y.n ∧ x.id = y.id then isTrue (Setting_ext h) else isFalse (fun e=>h (by subst e;simp))
theorem infoSetting : (Tryz.prog.info? 180).map (·.size) = some 34:=by kernel_rfl
@[go_sem ↓] theorem zeroSetting_run (w : World) : (zeroValue 180).run Tryz.prog w = .ok (.agg (settingC setting0)) w:=by
  have h : (Tryz.prog.info? 180).bind (·.zero) = some (.agg (settingC setting0)):=by kernel_rfl
  cases hi : Tryz.prog.info? 180 with
  | none=>rw [hi] at h;cases h
  | some i =>
    rw [hi] at h;have hz : i.zero = some (.agg (settingC setting0)):=h;simp [zeroValue,typeInfo,hi,hz]
@[go_sem ↓] theorem loadSetting_rw (a : Addr) : loadVar 180 a = ldS 180 a:=rfl
@[go_sem ↓] theorem storeSetting_rw (a : Addr) (v : Value) : storeVar 180 a v = stS 180 a v:=rfl
@[go_sem] theorem loadSetting_run (w : World) (g o : Nat) : (ldS 180 ⟨g,o,none⟩).run Tryz.prog w = match rowAt w g o 34 with | some cs=>.ok (.agg cs) w | none=>(loadVar 180 ⟨g,o,none⟩).run Tryz.prog w :=
  run_ldS Tryz.underlying180 rfl infoSetting w g o
@[go_sem] theorem storeSetting_run (w : World) (g : Nat) (hg : g = w.heap.size) (z : Array Value) (hz : z.size = 34) (x : Setting) (e : TypeId) : (stS 180 ⟨g,0,none⟩ (.agg (settingC x))).run Tryz.prog (w.alloc (.cells z e)) = .ok () (w.alloc (.cells (settingC x) e)) :=
  hg ▸ run_stS_new infoSetting w z (settingC x) hz (settingC_size x) (settingC_one x)
theorem fieldsSetting : Tryz.prog.underlying 180 = some (.struct (Tryz.prog.fieldsOf 180)):=by kernel_rfl
theorem placesSetting (w : World) : ((Tryz.prog.fieldsOf 180).mapM fun (f : Field)=>do pure (f.offset,← sizeOf f.type)).run Tryz.prog w = .ok #[(0,1),(1,1),(2,32)] w:=by kernel_rfl
@[go_sem ↓] theorem buildSetting_rw (parts : Array (Nat × Value)) : Instr.build 180 parts = bdS 180 parts:=rfl
@[go_sem ↓] theorem fieldSetting_0 (x : Setting) (w : World) : (Instr.field 180 (.agg (settingC x)) 0).run Tryz.prog w = .ok (.string x.val) w:=by
  unfold Instr.field;simp only [Sem.run_bind,run_underlying Tryz.underlying180,Result.andThen_ok,part,asAgg,isAgg];simp [go_sem]
@[go_sem] theorem buildSetting (a0 : ByteArray) (a1 : Int) (a2 : Id32) (w : World) : (bdS 180 #[(0,.string a0),(1,.int .i64 a1),(2,.agg (idC a2))]).run Tryz.prog w = .ok (.agg (settingC ⟨a0,a1,a2⟩)) w:=by
  refine run_build w fieldsSetting _ (zeroSetting_run w) _ (placesSetting w) [(0,.string a0),(1,.int .i64 a1),(2,.agg (idC a2))] _ ?_;rw [show settingC setting0 = (#[] : Array Value) ++ #[.string ⟨#[]⟩] ++ (#[.int .i64 0] ++ (idC id0)) from by first | (simp [settingC,setting0,Array.append_assoc];done) | (apply Array.ext';simp [settingC,setting0])];rw [fill_step (off:=0) (size:=1) rfl (by simp) (by simp) (by simp [Value.cells])];rw [show (#[] : Array Value) ++ (Value.string a0).cells ++ (#[.int .i64 0] ++ (idC id0)) = (#[.string a0]) ++ #[.int .i64 0] ++ (idC id0) from by first | (simp [Value.cells,Array.append_assoc];done) | (apply Array.ext';simp [Value.cells];done) | (apply Array.ext';simp only [Array.toList_append];simp [Value.cells])];rw [fill_step (off:=1) (size:=1) rfl (by simp) (by simp) (by simp [Value.cells])];rw [show (#[.string a0]) ++ (Value.int .i64 a1).cells ++ (idC id0) = (#[.string a0] ++ (#[.int .i64 a1])) ++ idC id0 ++ (#[] : Array Value) from by first | (simp [Value.cells,Array.append_assoc];done) | (apply Array.ext';simp [Value.cells];done) | (apply Array.ext';simp only [Array.toList_append];simp [Value.cells])];rw [fill_step (off:=2) (size:=32) rfl (by simp) (by simp) (by simp [Value.cells])];first | (simp [Instr.fill,settingC,Array.append_assoc,Value.cells];done) | (simp only [Instr.fill,settingC];congr 1;apply Array.ext';simp [Value.cells];done) | (simp only [Instr.fill,settingC];congr 1;done) | (simp only [Instr.fill,settingC];done)
def cmpSet (x y : Setting) : Int:=orL [cmpI x.n y.n,cmpId x.id y.id,cmpS x.val y.val]
theorem lor3_cells (w : World) (a b c : Int) : ∀ j,j < [a,b,c].length → (w.alloc (.cells #[.int .i64 a,.int .i64 b,.int .i64 c] 3)).cell? ⟨w.heap.size,j,none⟩ = some (.int .i64 ([a,b,c].getD j 0)):=by
  intro j hj;have : j = 0 ∨ j = 1 ∨ j = 2:=by simp at hj;omega
  rcases this with rfl | rfl | rfl <;> simp
set_option maxHeartbeats 1000000 in
theorem order_any (x y : Setting) (w : World) : Calls Tryz.prog 212 #[.agg (settingC x),.agg (settingC y)] w fun e w'=>e = .returned (.int .i64 (cmpSet x y)) ∧ Below w.heap.size w w':=by
  go_enter Tryz.func212,Tryz.ntmps212
  go_upto_region 1 with fail
  obtain ⟨W,hW⟩ : ∃ W,W = (w.alloc (.cells (settingC x) 180)).alloc (.cells (settingC y) 180):=⟨_,rfl⟩
  have hB : Below w.heap.size w W:=by rw [hW];exact ((Below.refl _ _).alloc (Nat.le_refl _) _).alloc (by simp) _
  have a1 : W.cell? ⟨w.heap.size,1,none⟩ = some (.int .i64 x.n):=by rw [hW];simp [go_sem]
  have a2 : W.cell? ⟨w.heap.size + 1,1,none⟩ = some (.int .i64 y.n):=by rw [hW];simp [go_sem]
  have a3 : rowAt W w.heap.size 2 32 = some (idC x.id):=by rw [hW];simp [go_sem]
  have a4 : rowAt W (w.heap.size + 1) 2 32 = some (idC y.id):=by rw [hW];simp [go_sem]
  have a5 : W.cell? ⟨w.heap.size,0,none⟩ = some (.string x.val):=by rw [hW];simp [go_sem]
  have a6 : W.cell? ⟨w.heap.size + 1,0,none⟩ = some (.string y.val):=by rw [hW];simp [go_sem]
  rw [← hW];clear hW;refine wp_region_lex (Bel W) false (by kernel_rfl) (by kernel_rfl) (by kernel_rfl) (bel_drew W) ?_;have hne:=bel_some W;have hS:=bel_drew W;have b1:=sub_cell a1;have b2:=sub_cell a2;have b3:=sub_row a3;have b4:=sub_row a4;have b5:=sub_cell a5;have b6:=sub_cell a6;repeat (refine wpLx_loose ?_ ?_;(focus (simp only [chainOp];done));intro K hK;go_simp;refine hK _ ?_;clear hK K)
  refine wpLx_chain ?_ ?_ ?_;(focus (exact hS));(focus (simp only [chainOp];done));intro K hK;go_simp;refine (cmp_int _ _ _).mono ?_;rintro e w' ⟨rfl,rfl⟩;refine ⟨_,rfl,hS,hK _ _ ?_⟩;clear hK K;repeat (refine wpLx_loose ?_ ?_;(focus (simp only [chainOp];done));intro K hK;go_simp;refine hK _ ?_;clear hK K)
  refine wpLx_chain ?_ ?_ ?_;(focus (exact hS));(focus (simp only [chainOp];done));intro K hK;go_simp;refine (cmp_id _ _ _).mono ?_;rintro e w' ⟨rfl,hb⟩;replace hS:=bel_next hS hb;refine ⟨_,rfl,hS,hK _ _ ?_⟩;clear hK K hb;repeat (refine wpLx_loose ?_ ?_;(focus (simp only [chainOp];done));intro K hK;go_simp;refine hK _ ?_;clear hK K)
  refine wpLx_chain ?_ ?_ ?_;(focus (exact hS));(focus (simp only [chainOp];done));intro K hK;go_simp;refine (cmp_str _ _ _).mono ?_;rintro e w' ⟨rfl,rfl⟩;refine ⟨_,rfl,hS,hK _ _ ?_⟩;clear hK K;refine wpLx_chain ?_ ?_ ?_;(focus (exact hS));(focus (simp only [chainOp];done));intro K hK;go_simp;refine step_keep (bel_alloc hS _) (fun hS=>?_);refine hK _ _ ?_;clear hK K;refine wpLx_chain ?_ ?_ ?_;(focus (exact hS));(focus (simp only [chainOp];done));intro K hK;go_simp;refine (or_any _ _ [cmpI x.n y.n,cmpId x.id y.id,cmpS x.val y.val] (by simp) _ (lor3_cells _ _ _ _)).mono ?_;rintro e w' ⟨rfl,rfl⟩;refine ⟨_,rfl,hS,hK _ _ ?_⟩;clear hK K;repeat (refine wpLx_loose ?_ ?_;(focus (simp only [chainOp];done));intro K hK;go_simp;refine hK _ ?_;clear hK K)
  refine wpLx_nil ?_;intro hS;(go_wp2_with fail);go_ret;exact ⟨rfl,hB.trans (hS.mono hB.size)⟩
end
section
open Go.RowKit
abbrev LRow:=ByteArray × Setting
theorem cmpS_ne {a b : ByteArray} (h1 : ¬ cmpS a b < 0) (h2 : a ≠ b) : cmpS b a < 0:=by
  have:=cmpS_anti a b;have h3 : cmpS a b ≠ 0:=fun e=>h2 ((cmpS_zero a b).1 e);omega
theorem cmpS_irr {a : ByteArray} : ¬ cmpS a a < 0:=by rw [cmpS_self];omega
theorem cmpS_asym {a b : ByteArray} (h : cmpS a b < 0) : ¬ cmpS b a < 0:=by have:=cmpS_anti a b;omega
def Rising : List LRow → Prop
  | []=>True
  | x :: l=>(∀ y ∈ l,cmpS x.1 y.1 < 0) ∧ Rising l
def insL : List LRow → ByteArray → Setting → List LRow
  | [],k,x=>[(k,x)]
  | y :: l,k,x=>if cmpS y.1 k < 0 then y :: insL l k x else if y.1 = k then (if 0 < cmpSet x y.2 then (k,x) :: l else y :: l) else (k,x) :: y :: l
theorem insL_keys : ∀ (l : List LRow) (k : ByteArray) (x : Setting),∀ y ∈ insL l k x,y.1 = k ∨ ∃ z ∈ l,z.1 = y.1
  | [],k,x,y,hy=>by simp [insL] at hy;left;rw [hy]
  | a :: l,k,x,y,hy=>by
    unfold insL at hy;split at hy
    · rcases List.mem_cons.1 hy with h | h
      · right;exact ⟨a,by simp,by rw [h]⟩
      · rcases insL_keys l k x y h with h | ⟨z,hz,e⟩
        · exact .inl h
        · exact .inr ⟨z,List.mem_cons.2 (.inr hz),e⟩
    · split at hy
      · split at hy
        · rcases List.mem_cons.1 hy with h | h
          · left;rw [h]
          · right;exact ⟨y,List.mem_cons.2 (.inr h),rfl⟩
        · right;exact ⟨y,hy,rfl⟩
      · rcases List.mem_cons.1 hy with h | h
        · left;rw [h]
        · right;exact ⟨y,h,rfl⟩
theorem insL_rising : ∀ (l : List LRow) (k : ByteArray) (x : Setting),Rising l → Rising (insL l k x)
  | [],k,x,_=>⟨by simp,trivial⟩
  | a :: l,k,x,h=>by
    unfold insL;split
    · rename_i hlt
      refine ⟨fun y hy=>?_,insL_rising l k x h.2⟩;rcases insL_keys l k x y hy with e | ⟨z,hz,e⟩
      · rw [e];exact hlt
      · rw [← e];exact h.1 z hz
    · rename_i hlt
      split
      · rename_i he
        split
        · exact ⟨fun y hy=>by rw [← he];exact h.1 y hy,h.2⟩
        · exact h
      · rename_i he
        have hka : cmpS k a.1 < 0:=cmpS_ne hlt he;refine ⟨fun y hy=>?_,h⟩;rcases List.mem_cons.1 hy with e | hy
        · rw [e];exact hka
        · exact cmpS_trans _ _ _ hka (h.1 y hy)
theorem insL_new : ∀ (l : List LRow) (k : ByteArray) (x : Setting),k ∉ l.map (·.1) → (insL l k x).Perm (l ++ [(k,x)])
  | [],_,_,_=>List.Perm.refl _
  | a :: l,k,x,h=>by
    simp only [List.map_cons,List.mem_cons,not_or] at h;unfold insL;split
    · exact (insL_new l k x h.2).cons a
    · rw [if_neg (fun e=>h.1 e.symm)];exact (List.perm_append_singleton (k,x) (a :: l)).symm
theorem insL_old : ∀ (l : List LRow) (k : ByteArray) (x was : Setting),Rising l → (k,was) ∈ l → insL l k x = if 0 < cmpSet x was then l.map (fun p=>if p.1 = k then (k,x) else p) else l
  | [],_,_,_,_,h=>by simp at h
  | a :: l,k,x,was,hr,hm=>by
    unfold insL;rcases List.mem_cons.1 hm with e | hm'
    · subst e;rw [if_neg cmpS_irr,if_pos rfl];have hno : ∀ p ∈ l,p.1 ≠ k:=fun p hp e=>by
        have:=hr.1 p hp;rw [e] at this;exact cmpS_irr this
      split
      · rw [List.map_cons,if_pos rfl];congr 1
        have : l.map (fun p=>if p.1 = k then (k,x) else p) = l:=by
          conv=>rhs;rw [← List.map_id l]
          exact List.map_congr_left fun p hp=>by rw [if_neg (hno p hp)];rfl
        rw [this]
      · rfl
    · have hlt : cmpS a.1 k < 0:=hr.1 _ hm';rw [if_pos hlt,insL_old l k x was hr.2 hm'];have hne : a.1 ≠ k:=fun e=>(by rw [e] at hlt;exact cmpS_irr hlt);split
      · rw [List.map_cons,if_neg hne]
      · rfl
def checkE (k : ByteArray) (x : Setting) : Int:=if 16 < k.size ∨ 16 < x.val.size then 3 else if x.n < 0 ∨ 2147483648 ≤ x.n then 5 else 0
def setL (l : List LRow) (k : ByteArray) (x : Setting) : List LRow:=if checkE k x = 0 then insL l k x else l
def RowsOk (l : List LRow) : Prop:=Rising l ∧ ∀ p ∈ l,checkE p.1 p.2 = 0
theorem checkE_bd {k : ByteArray} {x : Setting} (h : checkE k x = 0) : k.size ≤ 16 ∧ x.val.size ≤ 16 ∧ 0 ≤ x.n ∧ x.n < 2147483648:=by
  unfold checkE at h;split at h
  · omega
  · split at h
    · omega
    · omega
theorem insL_mem : ∀ (l : List LRow) (k : ByteArray) (x : Setting),∀ y ∈ insL l k x,y = (k,x) ∨ y ∈ l
  | [],k,x,y,hy=>by simp [insL] at hy;exact .inl hy
  | a :: l,k,x,y,hy=>by
    unfold insL at hy;split at hy
    · rcases List.mem_cons.1 hy with h | h
      · exact .inr (by rw [h];simp)
      · rcases insL_mem l k x y h with h | h
        · exact .inl h
        · exact .inr (List.mem_cons.2 (.inr h))
    · split at hy
      · split at hy
        · rcases List.mem_cons.1 hy with h | h
          · exact .inl h
          · exact .inr (List.mem_cons.2 (.inr h))
        · exact .inr hy
      · rcases List.mem_cons.1 hy with h | h
        · exact .inl h
        · exact .inr h
theorem setL_ok {l : List LRow} (h : RowsOk l) (k : ByteArray) (x : Setting) : RowsOk (setL l k x):=by
  unfold setL;split
  · rename_i hc
    refine ⟨insL_rising l k x h.1,fun p hp=>?_⟩;rcases insL_mem l k x p hp with e | hp
    · rw [e];exact hc
    · exact h.2 p hp
  · exact h
theorem insL_length (l : List LRow) (k : ByteArray) (x : Setting) : (insL l k x).length ≤ l.length + 1:=by
  induction l with
  | nil=>simp [insL]
  | cons a l ih =>
    unfold insL
    repeat' split
    all_goals simp;try omega
theorem setL_length (l : List LRow) (k : ByteArray) (x : Setting) : (setL l k x).length ≤ l.length + 1:=by
  unfold setL;split
  · exact insL_length l k x
  · omega
def getL (l : List LRow) (k : ByteArray) : Option Setting:=(l.find? (fun p=>decide (p.1 = k))).map (·.2)
end
section
open Go.RowKit
set_option maxHeartbeats 400000 in
theorem lcheck_any (k : ByteArray) (x : Setting) (w : World) (hk : k.size ≤ 9223372036854775807) (hv : x.val.size ≤ 9223372036854775807) :
    Calls Tryz.prog 211 #[.string k,.agg (settingC x)] w fun e w'=>e = .returned (.int .i64 (checkE k x)) ∧ Below w.heap.size w w':=by
  obtain ⟨xv,xn,xi⟩:=x;dsimp only at hv;go_enter Tryz.func211,Tryz.ntmps211
  go_wp2_with fail
  all_goals
    go_ret;refine ⟨ret_int ?_,(Below.refl _ _).alloc (Nat.le_refl _) _⟩;unfold checkE
    first
      | rw [if_pos (by simp only;omega)]
      | rw [if_neg (by simp only;omega),if_pos (by simp only;omega)]
      | rw [if_neg (by simp only;omega),if_neg (by simp only;omega)]
theorem strKey : KeyEnc Tryz.prog 9 Value.string (fun k : ByteArray=>k.size ≤ maxLen) where
  law:=WideMaps.string_law Tryz.underlying9
  key:=fun k hk=>by
    refine ⟨.string k.data.toList,?_⟩;simp [keyOf,mapKey,Tryz.underlying9,hk]
  inj:=fun a b h=>by injection h
def setV (x : Setting) : Value:=.agg (settingC x)
structure LastAt (w : World) (g b : Nat) (L : List LRow) : Prop where
  blk : w.heap[g]? = some (.cells #[.map (some b)] 177 (0,0))
  map : ∃ M es clk,MapAt w b Value.string setV (fun k=>k.size ≤ maxLen) M es clk ∧ M.Perm L
  rows : RowsOk L
theorem LastAt.cell {w : World} {g b : Nat} {L : List LRow} (h : LastAt w g b L) : w.cell? ⟨g,0,none⟩ = some (.map (some b)):=by
  rw [cell_of_row w g 0 _ _ _ h.blk];rfl
theorem LastAt.ne {w : World} {g b : Nat} {L : List LRow} (h : LastAt w g b L) : g ≠ b:=by
  rintro rfl;obtain ⟨M,es,clk,hm,_⟩:=h.map;have:=h.blk;rw [hm.heap] at this;cases this
theorem LastAt.lt {w : World} {g b : Nat} {L : List LRow} (h : LastAt w g b L) : g < w.heap.size ∧ b < w.heap.size:=by
  obtain ⟨M,es,clk,hm,_⟩:=h.map;exact ⟨World.block_lt_of_cell? w _ h.cell,hm.lt⟩
theorem LastAt.kept {w w' : World} {g b : Nat} {L : List LRow} {S : List Nat} (h : LastAt w g b L) (k : Keep S w w') (hg : g ∉ S) (hb : b ∉ S) : LastAt w' g b L:=by
  obtain ⟨M,es,clk,hm,hp⟩:=h.map;exact ⟨(k.block g h.lt.1 hg).trans h.blk,⟨M,es,clk,hm.kept k hb,hp⟩,h.rows⟩
theorem LastAt.below {w w' : World} {g b : Nat} {L : List LRow} (h : LastAt w g b L) (k : Below w.heap.size w w') : LastAt w' g b L :=
  h.kept (Keep.of_below k) (by simp) (by simp)
theorem lnone_live (w : World) (g b : Nat) (h : w.cell? ⟨g,0,none⟩ = some (.map (some b))) : Calls Tryz.prog 125 #[.pointer (some ⟨g,0,none⟩)] w fun e w'=>e = .returned (.bool false) ∧ w = w':=by
  have hn:=fun r=>run_eql_map_nil (P:=Tryz.prog) w 175 9 180 r Tryz.underlying175;go_enter Tryz.func125,Tryz.ntmps125
  (go_wp2_with fail);go_ret;exact ⟨rfl,rfl⟩
theorem lnew (w : World) : Calls Tryz.prog 117 #[] w fun e w'=>∃ g b,e = .returned (.pointer (some ⟨g,0,none⟩)) ∧ LastAt w' g b [] ∧ w.heap.size ≤ g ∧ w.heap.size ≤ b ∧ Below w.heap.size w w':=by
  have hmm:=@run_makeMap Tryz.prog;go_enter Tryz.func117,Tryz.ntmps117
  (go_wp2_with fail);go_ret;refine ⟨w.heap.size + 1,w.heap.size,rfl,⟨?_,⟨[],#[],0,?_,List.Perm.refl _⟩,⟨trivial,by simp⟩⟩,by omega,by omega,((Below.refl _ _).alloc (Nat.le_refl _) _).alloc (by simp) _⟩
  · exact heap_alloc2_new w _ _
  · exact (MapAt.new w w.heap.size rfl).kept (Keep.alloc _ _) (by simp)
theorem getL_mem {l : List LRow} {k : ByteArray} {x : Setting} (h : getL l k = some x) : (k,x) ∈ l:=by
  unfold getL at h;cases hf : l.find? (fun p=>decide (p.1 = k)) with
  | none=>rw [hf] at h;cases h
  | some p =>
    rw [hf] at h;have h1:=List.mem_of_find?_eq_some hf;have h2:=List.find?_some hf;have h3 : p.1 = k:=by simpa using h2
    have h4 : p.2 = x:=by simpa using h
    rw [← h3,← h4];exact h1
theorem getL_none {l : List LRow} {k : ByteArray} (h : getL l k = none) : k ∉ l.map (·.1):=by
  unfold getL at h;intro hm;obtain ⟨p,hp,e⟩:=List.mem_map.1 hm;cases hf : l.find? (fun p=>decide (p.1 = k)) with
  | none=>have:=List.find?_eq_none.1 hf p hp;simp [e] at this
  | some q=>rw [hf] at h;cases h
theorem LastAt.look {w : World} {g b : Nat} {L : List LRow} (h : LastAt w g b L) {k : ByteArray} (hk : k.size ≤ maxLen) :
    (Instr.lookup 175 (.map (some b)) (.string k) true).run Tryz.prog w = .ok (.tuple #[.agg (settingC ((getL L k).getD setting0)),.bool (getL L k).isSome]) w:=by
  obtain ⟨M,es,clk,hm,hp⟩:=h.map;cases hg : getL L k with
  | none =>
    have hno : k ∉ M.map (·.1):=fun hx=>getL_none hg ((hp.map (·.1)).mem_iff.1 hx);exact hm.miss strKey Tryz.underlying175 (zeroSetting_run w) hk hno true
  | some x =>
    have hin : (k,x) ∈ M:=hp.mem_iff.2 (getL_mem hg);exact hm.hit strKey Tryz.underlying175 hk hin true
def getS (L : List LRow) (k : ByteArray) : ByteArray:=((getL L k).getD setting0).val
end
section
open Go.RowKit
set_option maxRecDepth 100000 in
set_option maxHeartbeats 1000000 in
theorem lset_bad (k v : ByteArray) (n : Int) (d : Id32) (w : World) (g b : Nat) (L : List LRow) (h : LastAt w g b L) (hk : k.size ≤ 9223372036854775807) (hv : v.size ≤ 9223372036854775807) (hbad : checkE k ⟨v,n,d⟩ ≠ 0) :
    Calls Tryz.prog 140 #[.pointer (some ⟨g,0,none⟩),.string k,.string v,.int .i64 n,.agg (idC d)] w fun e w'=>e = .returned (.int .i64 (checkE k ⟨v,n,d⟩)) ∧ Below w.heap.size w w':=by
  have hc : (w.alloc (.cells (idC d) 39)).cell? ⟨g,0,none⟩ = some (.map (some b)):=(World.cell?_alloc_lt w _ _ h.lt.1).trans h.cell;have hn : (checkE k ⟨v,n,d⟩ != 0) = true:=by rw [bne_iff_ne];exact hbad
  clear hbad;go_enter Tryz.func140,Tryz.ntmps140
  (go_wp2_with fail);refine (lnone_live _ _ _ hc).mono ?_;rintro e w' ⟨rfl,rfl⟩;(go_wp2_with fail);refine (lcheck_any _ ⟨v,n,d⟩ _ hk hv).mono ?_;rintro e w' ⟨rfl,hb⟩;(go_wp2_with fail);go_ret;exact ⟨rfl,bel2 (((Below.refl _ _).alloc (Nat.le_refl _) _).alloc (by simp) _) hb⟩
theorem LastAt.put {w : World} {g b : Nat} {L : List LRow} (h : LastAt w g b L) {k : ByteArray} {x : Setting} (hk : checkE k x = 0) (hx : ∀ was,getL L k = some was → 0 < cmpSet x was) :
    ∃ w',(Instr.mapUpdate 175 (.map (some b)) (.string k) (.agg (settingC x))).run Tryz.prog w = .ok () w' ∧ LastAt w' g b (insL L k x) ∧ Keep [b] w w':=by
  obtain ⟨M,es,clk,hm,hp⟩:=h.map;have hks : k.size ≤ maxLen:=by have:=(checkE_bd hk).1;simp only [maxLen];omega
  obtain ⟨w',es',clk',hrun,hm',hkeep⟩:=hm.update (v:=x) strKey Tryz.underlying175 hks;refine ⟨w',hrun,⟨(hkeep.block g h.lt.1 (by simp;exact h.ne)).trans h.blk,⟨_,es',clk',hm',?_⟩,?_⟩,hkeep⟩
  · unfold putL;cases hg : getL L k with
    | none =>
      have h1:=getL_none hg;have h2 : k ∉ M.map (·.1):=fun hx=>h1 ((hp.map (·.1)).mem_iff.1 hx);rw [if_neg h2];exact (hp.append_right _).trans (insL_new L k x h1).symm
    | some was =>
      have h1:=getL_mem hg;have h2 : k ∈ M.map (·.1):=List.mem_map.2 ⟨_,hp.mem_iff.2 h1,rfl⟩;rw [if_pos h2,insL_old L k x was h.rows.1 h1,if_pos (hx was hg)];exact hp.map _
  · have:=setL_ok h.rows k x;unfold setL at this
    rwa [if_pos hk] at this
set_option maxRecDepth 100000 in
set_option maxHeartbeats 2000000 in
theorem lset_new (k v : ByteArray) (n : Int) (d : Id32) (w : World) (g b : Nat) (L : List LRow) (h : LastAt w g b L) (hok : checkE k ⟨v,n,d⟩ = 0) (hg : getL L k = none) :
    Calls Tryz.prog 140 #[.pointer (some ⟨g,0,none⟩),.string k,.string v,.int .i64 n,.agg (idC d)] w fun e w'=>e = .returned (.int .i64 0) ∧ LastAt w' g b (insL L k ⟨v,n,d⟩) ∧ Keep [b] w w':=by
  have hbd:=checkE_bd hok;have hk : k.size ≤ 9223372036854775807:=by omega
  have hv : v.size ≤ 9223372036854775807:=by have:=hbd.2.1;simp only at this;omega
  have hkm : k.size ≤ maxLen:=by simp only [maxLen];omega
  clear hbd;have hc : (w.alloc (.cells (idC d) 39)).cell? ⟨g,0,none⟩ = some (.map (some b)):=(World.cell?_alloc_lt w _ _ h.lt.1).trans h.cell;have hb0 : Below w.heap.size w ((w.alloc (.cells (idC d) 39)).alloc (.cells (settingC ⟨v,n,d⟩) 180)):=((Below.refl _ _).alloc (Nat.le_refl _) _).alloc (by simp) _;have hn : (checkE k ⟨v,n,d⟩ != 0) = false:=by rw [hok];rfl
  have Hok:=Lib.hid hok;clear hok;have Hg:=Lib.hid hg;clear hg;go_enter Tryz.func140,Tryz.ntmps140
  (go_wp2_with fail);refine (lnone_live _ _ _ hc).mono ?_;rintro e w' ⟨rfl,rfl⟩;(go_wp2_with fail);refine (lcheck_any _ ⟨v,n,d⟩ _ hk hv).mono ?_;rintro e w1 ⟨rfl,hb⟩;have hbw:=bel2 hb0 hb;have h1:=h.below hbw;have hc1:=h1.cell;have hl1:=h1.look hkm;simp only [Hg.out,Option.getD_none,Option.isSome_none] at hl1;have hbox : rowAt w1 (w.heap.size + 1) 0 34 = some (settingC ⟨v,n,d⟩):=by
    rw [rowAt_of_block (hb.block (w.heap.size + 1) (by simp)) 0 34];simp [go_sem]
  have hsz : w.heap.size + 1 < w1.heap.size:=by have:=hb.size;simp at this;omega
  have h2 : LastAt (w1.alloc (.cells (settingC setting0) 180)) g b L:=h1.kept (Keep.alloc _ _) (by simp) (by simp);have hbox2 : rowAt (w1.alloc (.cells (settingC setting0) 180)) (w.heap.size + 1) 0 34 = some (settingC ⟨v,n,d⟩):=((Keep.alloc w1 _).row (by omega) (by simp) 0 34).trans hbox;have hbW : Below w.heap.size w (w1.alloc (.cells (settingC setting0) 180)):=hbw.alloc (by omega) _;clear hbox hb hb0 hc;go_upto_region 10 with fail
  generalize w1.alloc (.cells (settingC setting0) 180) = W at *;obtain ⟨w2,hrun,hL2,hk2⟩:=(h2.kept (Keep.drew W) (by simp) (by simp)).put Hok.out (fun was e=>by rw [Hg.out] at e;cases e);have hgb : g ∉ [b]:=by simp;exact h.ne
  have hcW:=h2.cell;have hlb:=h.lt.2;refine wp_region_lex (Kp [b] W) false (by kernel_rfl) (by kernel_rfl) (by kernel_rfl) (kp_drew [b] W) ?_;have hne:=kp_some [b] W;have hS:=kp_drew [b] W;have b1:=ksub_cell hcW hgb;have b2:=ksub_row hbox2 (S:=[b]) (by simp;omega);repeat (refine wpLx_loose ?_ ?_;(focus (simp only [chainOp];done));intro K hK;go_simp;refine hK _ ?_;clear hK K)
  refine wpLx_chain ?_ ?_ ?_;(focus (exact hS));(focus (simp only [chainOp];done));intro K hK;go_simp;refine step_keep (kp_next hS hk2 (by simp)) (fun hS=>?_);refine hK _ _ ?_;clear hK K;refine wpLx_nil ?_;intro hS;(go_wp2_with fail);go_ret;exact ⟨rfl,hL2,Keep.trans ((Keep.of_below hbW).mono (S':=[b]) (by simp)) hS (fun x hx=>.inl hx)⟩
set_option maxRecDepth 100000 in
set_option maxHeartbeats 2000000 in
theorem lset_later (k v : ByteArray) (n : Int) (d : Id32) (w : World) (g b : Nat) (L : List LRow) (h : LastAt w g b L) (hok : checkE k ⟨v,n,d⟩ = 0) (was : Setting) (hg : getL L k = some was) (hla : 0 < cmpSet ⟨v,n,d⟩ was) :
    Calls Tryz.prog 140 #[.pointer (some ⟨g,0,none⟩),.string k,.string v,.int .i64 n,.agg (idC d)] w fun e w'=>e = .returned (.int .i64 0) ∧ LastAt w' g b (insL L k ⟨v,n,d⟩) ∧ Keep [b] w w':=by
  have hbd:=checkE_bd hok;have hk : k.size ≤ 9223372036854775807:=by omega
  have hv : v.size ≤ 9223372036854775807:=by have:=hbd.2.1;simp only at this;omega
  have hkm : k.size ≤ maxLen:=by simp only [maxLen];omega
  clear hbd;have hc : (w.alloc (.cells (idC d) 39)).cell? ⟨g,0,none⟩ = some (.map (some b)):=(World.cell?_alloc_lt w _ _ h.lt.1).trans h.cell;have hb0 : Below w.heap.size w ((w.alloc (.cells (idC d) 39)).alloc (.cells (settingC ⟨v,n,d⟩) 180)):=((Below.refl _ _).alloc (Nat.le_refl _) _).alloc (by simp) _;have hn : (checkE k ⟨v,n,d⟩ != 0) = false:=by rw [hok];rfl
  have Hok:=Lib.hid hok;clear hok;have Hg:=Lib.hid hg;clear hg;go_enter Tryz.func140,Tryz.ntmps140
  (go_wp2_with fail);refine (lnone_live _ _ _ hc).mono ?_;rintro e w' ⟨rfl,rfl⟩;(go_wp2_with fail);refine (lcheck_any _ ⟨v,n,d⟩ _ hk hv).mono ?_;rintro e w1 ⟨rfl,hb⟩;have hbw:=bel2 hb0 hb;have h1:=h.below hbw;have hc1:=h1.cell;have hl1:=h1.look hkm;simp only [Hg.out,Option.getD_some,Option.isSome_some] at hl1;have hbox : rowAt w1 (w.heap.size + 1) 0 34 = some (settingC ⟨v,n,d⟩):=by
    rw [rowAt_of_block (hb.block (w.heap.size + 1) (by simp)) 0 34];simp [go_sem]
  have hsz : w.heap.size + 1 < w1.heap.size:=by have:=hb.size;simp at this;omega
  have h2 : LastAt (w1.alloc (.cells (settingC was) 180)) g b L:=h1.kept (Keep.alloc _ _) (by simp) (by simp);have hbox2 : rowAt (w1.alloc (.cells (settingC was) 180)) (w.heap.size + 1) 0 34 = some (settingC ⟨v,n,d⟩):=((Keep.alloc w1 _).row (by omega) (by simp) 0 34).trans hbox;have hbW : Below w.heap.size w (w1.alloc (.cells (settingC was) 180)):=hbw.alloc (by omega) _;have hwas : rowAt (w1.alloc (.cells (settingC was) 180)) w1.heap.size 0 34 = some (settingC was):=by simp [go_sem]
  clear hb hb0 hc;(go_wp2_with fail);refine (order_any _ _ _).mono ?_;rintro e W ⟨rfl,hb3⟩;have hbW2:=bel2 hbW hb3;have h3:=h2.below hb3;have hbox3 : rowAt W (w.heap.size + 1) 0 34 = some (settingC ⟨v,n,d⟩):=(rowAt_of_block (hb3.block (w.heap.size + 1) (by simp;omega)) 0 34).trans hbox2;clear hbox hbox2 hb3 hwas;go_upto_region 10 with fail
  obtain ⟨w2,hrun,hL2,hk2⟩:=(h3.kept (Keep.drew W) (by simp) (by simp)).put Hok.out (fun x e=>by rw [Hg.out] at e;injection e with e;subst e;exact hla);have hgb : g ∉ [b]:=by simp;exact h.ne
  have hcW:=h3.cell;have hlb:=h.lt.2;refine wp_region_lex (Kp [b] W) false (by kernel_rfl) (by kernel_rfl) (by kernel_rfl) (kp_drew [b] W) ?_;have hne:=kp_some [b] W;have hS:=kp_drew [b] W;have b1:=ksub_cell hcW hgb;have b2:=ksub_row hbox3 (S:=[b]) (by simp;omega);repeat (refine wpLx_loose ?_ ?_;(focus (simp only [chainOp];done));intro K hK;go_simp;refine hK _ ?_;clear hK K)
  refine wpLx_chain ?_ ?_ ?_;(focus (exact hS));(focus (simp only [chainOp];done));intro K hK;go_simp;refine step_keep (kp_next hS hk2 (by simp)) (fun hS=>?_);refine hK _ _ ?_;clear hK K;refine wpLx_nil ?_;intro hS;(go_wp2_with fail);go_ret;exact ⟨rfl,hL2,Keep.trans ((Keep.of_below hbW2).mono (S':=[b]) (by simp)) hS (fun x hx=>.inl hx)⟩
set_option maxRecDepth 100000 in
set_option maxHeartbeats 2000000 in
theorem lset_same (k v : ByteArray) (n : Int) (d : Id32) (w : World) (g b : Nat) (L : List LRow) (h : LastAt w g b L) (hok : checkE k ⟨v,n,d⟩ = 0) (was : Setting) (hg : getL L k = some was) (hla : ¬ 0 < cmpSet ⟨v,n,d⟩ was) :
    Calls Tryz.prog 140 #[.pointer (some ⟨g,0,none⟩),.string k,.string v,.int .i64 n,.agg (idC d)] w fun e w'=>e = .returned (.int .i64 0) ∧ LastAt w' g b L ∧ Below w.heap.size w w':=by
  have hbd:=checkE_bd hok;have hk : k.size ≤ 9223372036854775807:=by omega
  have hv : v.size ≤ 9223372036854775807:=by have:=hbd.2.1;simp only at this;omega
  have hkm : k.size ≤ maxLen:=by simp only [maxLen];omega
  clear hbd;have hc : (w.alloc (.cells (idC d) 39)).cell? ⟨g,0,none⟩ = some (.map (some b)):=(World.cell?_alloc_lt w _ _ h.lt.1).trans h.cell;have hb0 : Below w.heap.size w ((w.alloc (.cells (idC d) 39)).alloc (.cells (settingC ⟨v,n,d⟩) 180)):=((Below.refl _ _).alloc (Nat.le_refl _) _).alloc (by simp) _;have hn : (checkE k ⟨v,n,d⟩ != 0) = false:=by rw [hok];rfl
  have Hok:=Lib.hid hok;clear hok;have Hg:=Lib.hid hg;clear hg;go_enter Tryz.func140,Tryz.ntmps140
  (go_wp2_with fail);refine (lnone_live _ _ _ hc).mono ?_;rintro e w' ⟨rfl,rfl⟩;(go_wp2_with fail);refine (lcheck_any _ ⟨v,n,d⟩ _ hk hv).mono ?_;rintro e w1 ⟨rfl,hb⟩;have hbw:=bel2 hb0 hb;have h1:=h.below hbw;have hc1:=h1.cell;have hl1:=h1.look hkm;simp only [Hg.out,Option.getD_some,Option.isSome_some] at hl1;have hbox : rowAt w1 (w.heap.size + 1) 0 34 = some (settingC ⟨v,n,d⟩):=by
    rw [rowAt_of_block (hb.block (w.heap.size + 1) (by simp)) 0 34];simp [go_sem]
  have hsz : w.heap.size + 1 < w1.heap.size:=by have:=hb.size;simp at this;omega
  have h2 : LastAt (w1.alloc (.cells (settingC was) 180)) g b L:=h1.kept (Keep.alloc _ _) (by simp) (by simp);have hbox2 : rowAt (w1.alloc (.cells (settingC was) 180)) (w.heap.size + 1) 0 34 = some (settingC ⟨v,n,d⟩):=((Keep.alloc w1 _).row (by omega) (by simp) 0 34).trans hbox;have hbW : Below w.heap.size w (w1.alloc (.cells (settingC was) 180)):=hbw.alloc (by omega) _;have hwas : rowAt (w1.alloc (.cells (settingC was) 180)) w1.heap.size 0 34 = some (settingC was):=by simp [go_sem]
  clear hb hb0 hc;(go_wp2_with fail);refine (order_any _ _ _).mono ?_;rintro e W ⟨rfl,hb3⟩;have hbW2:=bel2 hbW hb3;have h3:=h2.below hb3;have hbox3 : rowAt W (w.heap.size + 1) 0 34 = some (settingC ⟨v,n,d⟩):=(rowAt_of_block (hb3.block (w.heap.size + 1) (by simp;omega)) 0 34).trans hbox2;clear hbox hbox2 hb3 hwas;(go_wp2_with fail);go_ret;exact ⟨rfl,h3,hbW2⟩
theorem lset (k v : ByteArray) (n : Int) (d : Id32) (w : World) (g b : Nat) (L : List LRow) (h : LastAt w g b L) (hk : k.size ≤ 9223372036854775807) (hv : v.size ≤ 9223372036854775807) :
    Calls Tryz.prog 140 #[.pointer (some ⟨g,0,none⟩),.string k,.string v,.int .i64 n,.agg (idC d)] w fun e w'=>e = .returned (.int .i64 (checkE k ⟨v,n,d⟩)) ∧ LastAt w' g b (setL L k ⟨v,n,d⟩) ∧ Keep [b] w w':=by
  by_cases hc : checkE k ⟨v,n,d⟩ = 0
  · have hs : setL L k ⟨v,n,d⟩ = insL L k ⟨v,n,d⟩:=if_pos hc;rw [hc,hs];cases hg : getL L k with
    | none=>exact lset_new k v n d w g b L h hc hg
    | some was =>
      by_cases hla : 0 < cmpSet ⟨v,n,d⟩ was
      · exact lset_later k v n d w g b L h hc was hg hla
      · have e : insL L k ⟨v,n,d⟩ = L:=by rw [insL_old L k _ was h.rows.1 (getL_mem hg),if_neg hla]
        rw [e];exact (lset_same k v n d w g b L h hc was hg hla).mono fun e w' ⟨he,h1,h2⟩=>⟨he,h1,(Keep.of_below h2).mono (by simp)⟩
  · have hs : setL L k ⟨v,n,d⟩ = L:=if_neg hc;rw [hs];exact (lset_bad k v n d w g b L h hk hv hc).mono fun e w' ⟨he,h2⟩=>⟨he,h.below h2,(Keep.of_below h2).mono (by simp)⟩
end
section
open Go.RowKit
structure MRow where
  id : Id32
  key : ByteArray
  val : ByteArray
def mRowC (x : MRow) : Array Value:=idC x.id ++ #[.string x.key] ++ #[.string x.val]
@[simp] theorem mRowC_size (x : MRow) : (mRowC x).size = 34:=by simp [mRowC]
@[go_sem] theorem mRowC_e0 (x : MRow) : (mRowC x).extract 0 32 = idC x.id:=by
  have h : mRowC x = ((#[] : Array Value)) ++ idC x.id ++ (#[.string x.key] ++ #[.string x.val]):=by first | (simp [mRowC,Array.append_assoc];done) | (apply Array.ext';simp [mRowC];done)
  rw [h];exact arr_mid _ _ _ _ _ (by simp) (by simp)
@[go_sem] theorem mRowC_g32 (x : MRow) : (mRowC x)[32]? = some (.string x.key):=by first | (simp [mRowC,Array.getElem?_append];done) | (rw [show mRowC x = (idC x.id) ++ #[.string x.key] ++ (#[.string x.val]) from by apply Array.ext';simp [mRowC]];exact arr_at _ _ _ _ (by simp))
@[go_sem] theorem mRowC_gg32 (x : MRow) (h : 32 < (mRowC x).size) : (mRowC x)[32]'h = .string x.key:=Option.some.inj ((Array.getElem?_eq_getElem h).symm.trans (mRowC_g32 x))
@[go_sem] theorem mRowC_g33 (x : MRow) : (mRowC x)[33]? = some (.string x.val):=by first | (simp [mRowC,Array.getElem?_append];done) | (rw [show mRowC x = (idC x.id ++ #[.string x.key]) ++ #[.string x.val] ++ ((#[] : Array Value)) from by apply Array.ext';simp [mRowC]];exact arr_at _ _ _ _ (by simp))
@[go_sem] theorem mRowC_gg33 (x : MRow) (h : 33 < (mRowC x).size) : (mRowC x)[33]'h = .string x.val:=Option.some.inj ((Array.getElem?_eq_getElem h).symm.trans (mRowC_g33 x))
@[go_sem] theorem mRowC_all (x : MRow) : (mRowC x).extract 0 34 = mRowC x:=by have:=Array.extract_size (xs:=mRowC x);rwa [mRowC_size] at this
theorem mRowC_inj {x y : MRow} (h : mRowC x = mRowC y) : x = y:=by
  have h0:=congrArg (fun a=>a.extract 0 32) h;simp only [mRowC_e0] at h0;have h0:=idC_inj h0;have h1:=congrArg (fun a=>a[32]?) h;simp only [mRowC_g32,Option.some.injEq,Value.string.injEq] at h1;have h2:=congrArg (fun a=>a[33]?) h;simp only [mRowC_g33,Option.some.injEq,Value.string.injEq] at h2;cases x;cases y;simp_all
theorem mRowC_one (x : MRow) : ∀ u ∈ (mRowC x).toList,u.oneCell' = true:=by
  intro u hu;simp only [mRowC,Array.toList_append,List.mem_append] at hu;rcases hu with (hu | hu) | hu
  · exact idC_one _ u hu
  · simp at hu;subst hu;rfl
  · simp at hu;subst hu;rfl
def mRow0 : MRow:=⟨id0,⟨#[]⟩,⟨#[]⟩⟩
theorem MRow_ext {x y : MRow} (h : x.id = y.id ∧ x.key = y.key ∧ x.val = y.val) : x = y:=by cases x;cases y;simp_all
instance : DecidableEq MRow:=fun x y=>if h : x.id = y.id ∧ x.key = y.key ∧ x.val = y.val then isTrue (MRow_ext h) else isFalse (fun e=>h (by subst e;simp))
theorem infoMRow : (Tryz.prog.info? 184).map (·.size) = some 34:=by kernel_rfl
@[go_sem ↓] theorem zeroMRow_run (w : World) : (zeroValue 184).run Tryz.prog w = .ok (.agg (mRowC mRow0)) w:=by
  have h : (Tryz.prog.info? 184).bind (·.zero) = some (.agg (mRowC mRow0)):=by kernel_rfl
  cases hi : Tryz.prog.info? 184 with
  | none=>rw [hi] at h;cases h
  | some i =>
    rw [hi] at h;have hz : i.zero = some (.agg (mRowC mRow0)):=h;simp [zeroValue,typeInfo,hi,hz]
@[go_sem ↓] theorem loadMRow_rw (a : Addr) : loadVar 184 a = ldS 184 a:=rfl
@[go_sem ↓] theorem storeMRow_rw (a : Addr) (v : Value) : storeVar 184 a v = stS 184 a v:=rfl
@[go_sem] theorem loadMRow_run (w : World) (g o : Nat) : (ldS 184 ⟨g,o,none⟩).run Tryz.prog w = match rowAt w g o 34 with | some cs=>.ok (.agg cs) w | none=>(loadVar 184 ⟨g,o,none⟩).run Tryz.prog w :=
  run_ldS Tryz.underlying184 rfl infoMRow w g o
@[go_sem] theorem storeMRow_run (w : World) (g : Nat) (hg : g = w.heap.size) (z : Array Value) (hz : z.size = 34) (x : MRow) (e : TypeId) : (stS 184 ⟨g,0,none⟩ (.agg (mRowC x))).run Tryz.prog (w.alloc (.cells z e)) = .ok () (w.alloc (.cells (mRowC x) e)) :=
  hg ▸ run_stS_new infoMRow w z (mRowC x) hz (mRowC_size x) (mRowC_one x)
theorem fieldsMRow : Tryz.prog.underlying 184 = some (.struct (Tryz.prog.fieldsOf 184)):=by kernel_rfl
theorem placesMRow (w : World) : ((Tryz.prog.fieldsOf 184).mapM fun (f : Field)=>do pure (f.offset,← sizeOf f.type)).run Tryz.prog w = .ok #[(0,32),(32,1),(33,1)] w:=by kernel_rfl
@[go_sem ↓] theorem buildMRow_rw (parts : Array (Nat × Value)) : Instr.build 184 parts = bdS 184 parts:=rfl
@[go_sem] theorem buildMRow (a0 : Id32) (a1 : ByteArray) (a2 : ByteArray) (w : World) : (bdS 184 #[(0,.agg (idC a0)),(1,.string a1),(2,.string a2)]).run Tryz.prog w = .ok (.agg (mRowC ⟨a0,a1,a2⟩)) w:=by
  refine run_build w fieldsMRow _ (zeroMRow_run w) _ (placesMRow w) [(0,.agg (idC a0)),(1,.string a1),(2,.string a2)] _ ?_;rw [show mRowC mRow0 = (#[] : Array Value) ++ idC id0 ++ (#[.string ⟨#[]⟩] ++ (#[.string ⟨#[]⟩])) from by first | (simp [mRowC,mRow0,Array.append_assoc];done) | (apply Array.ext';simp [mRowC,mRow0])];rw [fill_step (off:=0) (size:=32) rfl (by simp) (by simp) (by simp [Value.cells])];rw [show (#[] : Array Value) ++ (Value.agg (idC a0)).cells ++ (#[.string ⟨#[]⟩] ++ (#[.string ⟨#[]⟩])) = (idC a0) ++ #[.string ⟨#[]⟩] ++ (#[.string ⟨#[]⟩]) from by first | (simp [Value.cells,Array.append_assoc];done) | (apply Array.ext';simp [Value.cells];done) | (apply Array.ext';simp only [Array.toList_append];simp [Value.cells])];rw [fill_step (off:=32) (size:=1) rfl (by simp) (by simp) (by simp [Value.cells])];rw [show (idC a0) ++ (Value.string a1).cells ++ (#[.string ⟨#[]⟩]) = (idC a0 ++ (#[.string a1])) ++ #[.string ⟨#[]⟩] ++ (#[] : Array Value) from by first | (simp [Value.cells,Array.append_assoc];done) | (apply Array.ext';simp [Value.cells];done) | (apply Array.ext';simp only [Array.toList_append];simp [Value.cells])];rw [fill_step (off:=33) (size:=1) rfl (by simp) (by simp) (by simp [Value.cells])];first | (simp [Instr.fill,mRowC,Array.append_assoc,Value.cells];done) | (simp only [Instr.fill,mRowC];congr 1;apply Array.ext';simp [Value.cells];done) | (simp only [Instr.fill,mRowC];congr 1;done) | (simp only [Instr.fill,mRowC];done)
instance : Inhabited MRow:=⟨mRow0⟩
def cmpMR (x y : MRow) : Int:=orL [cmpId x.id y.id,cmpS x.key y.key,cmpS x.val y.val]
theorem orL3 (a b c : Int) : orL [a,b,c] = orC a (orC b c):=by
  unfold orC orL orL orL orL;split
  · split
    · split <;> simp_all
    · rfl
  · rfl
theorem totMR : TotC cmpMR:=(totId.pair (totS.pair totS)).of (fun x : MRow=>(x.id,x.key,x.val)) (fun x y h=>by
  cases x;cases y
  simp only [Prod.mk.injEq] at h;obtain ⟨h1,h2,h3⟩:=h;subst h1;subst h2;subst h3;rfl) (fun x y=>orL3 _ _ _)
theorem or3_cells (w : World) (a b c : Int) : ∀ j,j < [a,b,c].length → (w.alloc (.cells #[.int .i64 a,.int .i64 b,.int .i64 c] 3)).cell? ⟨w.heap.size,j,none⟩ = some (.int .i64 ([a,b,c].getD j 0)):=by
  intro j hj;have : j = 0 ∨ j = 1 ∨ j = 2:=by simp at hj;omega
  rcases this with rfl | rfl | rfl <;> simp
set_option maxHeartbeats 1000000 in
theorem morder (x y : MRow) (w : World) : Calls Tryz.prog 200 #[.agg (mRowC x),.agg (mRowC y)] w fun e w'=>e = .returned (.int .i64 (cmpMR x y)) ∧ Gr w w':=by
  go_enter Tryz.func200,Tryz.ntmps200
  go_upto_region 1 with fail
  obtain ⟨W,hW⟩ : ∃ W,W = (w.alloc (.cells (mRowC x) 184)).alloc (.cells (mRowC y) 184):=⟨_,rfl⟩
  have hB : Gr w W:=by rw [hW];exact ((Gr.refl _).alloc _).alloc _
  have a3 : rowAt W w.heap.size 0 32 = some (idC x.id):=by rw [hW];simp [go_sem]
  have a4 : rowAt W (w.heap.size + 1) 0 32 = some (idC y.id):=by rw [hW];simp [go_sem]
  have a5 : W.cell? ⟨w.heap.size,32,none⟩ = some (.string x.key):=by rw [hW];simp [go_sem]
  have a6 : W.cell? ⟨w.heap.size + 1,32,none⟩ = some (.string y.key):=by rw [hW];simp [go_sem]
  have a7 : W.cell? ⟨w.heap.size,33,none⟩ = some (.string x.val):=by rw [hW];simp [go_sem]
  have a8 : W.cell? ⟨w.heap.size + 1,33,none⟩ = some (.string y.val):=by rw [hW];simp [go_sem]
  rw [← hW];clear hW;refine wp_region_lex (Gr W) false (by kernel_rfl) (by kernel_rfl) (by kernel_rfl) (Gr.drew W) ?_;have hne:=gr_some W;have hS:=Gr.drew W;have b3:=gsub_row a3;have b4:=gsub_row a4;have b5:=gsub_cell a5;have b6:=gsub_cell a6;have b7:=gsub_cell a7;have b8:=gsub_cell a8;repeat (refine wpLx_loose ?_ ?_;(focus (simp only [chainOp];done));intro K hK;go_simp;refine hK _ ?_;clear hK K)
  refine wpLx_chain ?_ ?_ ?_;(focus (exact hS));(focus (simp only [chainOp];done));intro K hK;go_simp;refine (cmp_id_gr _ _ _).mono ?_;rintro e w' ⟨rfl,hb⟩;replace hS:=Gr.trans hS hb;refine ⟨_,rfl,hS,hK _ _ ?_⟩;clear hK K hb;repeat (refine wpLx_loose ?_ ?_;(focus (simp only [chainOp];done));intro K hK;go_simp;refine hK _ ?_;clear hK K)
  refine wpLx_chain ?_ ?_ ?_;(focus (exact hS));(focus (simp only [chainOp];done));intro K hK;go_simp;refine (cmp_str _ _ _).mono ?_;rintro e w' ⟨rfl,rfl⟩;refine ⟨_,rfl,hS,hK _ _ ?_⟩;clear hK K;repeat (refine wpLx_loose ?_ ?_;(focus (simp only [chainOp];done));intro K hK;go_simp;refine hK _ ?_;clear hK K)
  refine wpLx_chain ?_ ?_ ?_;(focus (exact hS));(focus (simp only [chainOp];done));intro K hK;go_simp;refine (cmp_str _ _ _).mono ?_;rintro e w' ⟨rfl,rfl⟩;refine ⟨_,rfl,hS,hK _ _ ?_⟩;clear hK K;refine wpLx_chain ?_ ?_ ?_;(focus (exact hS));(focus (simp only [chainOp];done));intro K hK;go_simp;refine step_keep (Gr.alloc hS _) (fun hS=>?_);refine hK _ _ ?_;clear hK K;refine wpLx_chain ?_ ?_ ?_;(focus (exact hS));(focus (simp only [chainOp];done));intro K hK;go_simp;refine (or_any _ _ [cmpId x.id y.id,cmpS x.key y.key,cmpS x.val y.val] (by simp) _ (or3_cells _ _ _ _)).mono ?_;rintro e w' ⟨rfl,rfl⟩;refine ⟨_,rfl,hS,hK _ _ ?_⟩;clear hK K;repeat (refine wpLx_loose ?_ ?_;(focus (simp only [chainOp];done));intro K hK;go_simp;refine hK _ ?_;clear hK K)
  refine wpLx_nil ?_;intro hS;(go_wp2_with fail);go_ret;exact ⟨rfl,hB.trans hS⟩
theorem cellsMR : Tryz.prog.cellsOf 184 = 34:=by kernel_rfl
theorem rowMR : 184 < Tryz.prog.types.size:=of_decide_eq_true (by kernel_rfl)
abbrev okM (x : MRow) : Prop:=x.key.size ≤ maxLen ∧ x.val.size ≤ maxLen
theorem keyLits_mrow (d : Nat) {x : MRow} (h : okM x) : ∃ l,Tryz.prog.keyLits (d + 3) 184 (mRowC x).toList = some l:=by
  obtain ⟨l1,h1⟩:=keyLits_id d x.id;obtain ⟨l2,h2⟩:=keyLits_str (d + 1) h.1;obtain ⟨l3,h3⟩:=keyLits_str (d + 1) h.2;have e1 : ((mRowC x).toList.drop 0).take 32 = (idC x.id).toList:=by simp [mRowC]
  have e2 : ((mRowC x).toList.drop 32).take 1 = [.string x.key]:=by simp [mRowC]
  have e3 : ((mRowC x).toList.drop 33).take 1 = [.string x.val]:=by
    simp [mRowC,List.drop_append];rw [List.drop_eq_nil_of_le (by simp)];rfl
  refine Option.isSome_iff_exists.1 ?_;unfold Program.keyLits;simp only [Tryz.underlying184];rw [if_pos ⟨by rw [cellsMR];simp,by kernel_rfl⟩];simp only [List.mapM_cons,List.mapM_nil,cellsId,cellsStr,e1,e2,e3,h1,h2,h3];rfl
def mrowV (x : MRow) : Value:=.agg (mRowC x)
theorem mrowKey : KeyEnc Tryz.prog 184 mrowV okM where
  law:=deep_law_laid Tryz.laidOut (m:=3) (by omega) rowMR (by kernel_rfl) (by rw [Tryz.underlying184])
  key:=fun x hx=>by
    obtain ⟨d,hd⟩ : ∃ d,Tryz.prog.types.size + 1 = d + 3:=⟨Tryz.prog.types.size - 2,by have:=size3;omega⟩
    obtain ⟨l,hl⟩:=keyLits_mrow d hx;refine ⟨.string (keyBytes l),?_⟩;unfold keyOf;simp only [Tryz.underlying184];have hkt : Tryz.prog.keyType 184 = true:=by kernel_rfl
    have hf : (mrowV x).formed Tryz.prog 184 = true:=by simp [mrowV,Value.formed,Tryz.underlying184,cellsMR]
    rw [hkt,hf,hd];simp only [Bool.and_self,if_true];have : (mrowV x).cells.toList = (mRowC x).toList:=rfl;rw [this,hl];rfl
  inj:=fun a b h=>by unfold mrowV at h;injection h with h;exact mRowC_inj h
end
section
open Go.RowKit
theorem SetAt.clear {P : Program} {K T E' : TypeId} {κ : Type} {kv : κ → Value} {ok : κ → Prop} {w : World} {b : Nat} {L : List κ} (h : SetAt w b kv ok L) (ht : P.underlying T = some (.map K E')) (ty : TypeId) :
    ∃ w',(Builtin.clear_ #[T] ty #[.map (some b)]).run P w = .ok (.tuple #[]) w' ∧ SetAt w' b kv ok [] ∧ Keep [b] w w':=by
  obtain ⟨M,es,clk,hm,hks,htr⟩:=h;refine ⟨_,?_,⟨[],#[],clk,⟨heap_setObj _ hm.lt,rfl,rfl,by simp,by simp,by simp,by simp⟩,by simp,by simp⟩,keep_setObj w b _⟩;simp [Builtin.clear_,run_underlying ht,run_getObj_map hm.heap,run_setObj' hm.heap]
abbrev MSet (w : World) (b : Nat) (L : List MRow) : Prop:=SetAt w b mrowV okM L
def msmall (x : MRow) : Prop:=x.key.size ≤ 16 ∧ x.val.size ≤ 16
theorem msmall_ok {x : MRow} (h : msmall x) : okM x:=by
  obtain ⟨h1,h2⟩:=h;exact ⟨by simp only [maxLen];omega,by simp only [maxLen];omega⟩
theorem mput {w : World} {b : Nat} {X : List MRow} {x : MRow} (h : MSet w b X) (hk : msmall x) : ∃ w',(Instr.mapUpdate 269 (.map (some b)) (.agg (mRowC x)) (.bool true)).run Tryz.prog w = .ok () w' ∧ MSet w' b (x :: X) ∧ Keep [b] w w':=SetAt.put h mrowKey Tryz.underlying269 (msmall_ok hk)
theorem mclear {w : World} {b : Nat} {X : List MRow} (h : MSet w b X) (ty : TypeId) : ∃ w',(Builtin.clear_ #[269] ty #[.map (some b)]).run Tryz.prog w = .ok (.tuple #[]) w' ∧ MSet w' b [] ∧ Keep [b] w w':=SetAt.clear h Tryz.underlying269 ty
structure MultiAt (w : World) (g bl bo : Nat) (X : List MRow) (O : List Id32) : Prop where
  blk : w.heap[g]? = some (.cells #[.map (some bl),.map (some bo)] 271 (0,0))
  live : MSet w bl X
  over : IdSet w bo O
  ne : bl ≠ bo
  risX : Ris cmpMR X
  risO : Ris cmpId O
  sm : ∀ x ∈ X,msmall x
  apart : ∀ x ∈ X,x.id ∉ O
theorem setAt_ne {κ : Type} {kv : κ → Value} {ok : κ → Prop} {w : World} {b g : Nat} {X : List κ} {cs : Array Value} {t : TypeId} {f : Nat × Nat} (h : SetAt w b kv ok X) (hg : w.heap[g]? = some (.cells cs t f)) : g ≠ b:=by
  rintro rfl;obtain ⟨M,es,clk,hm,_⟩:=h;rw [hm.heap] at hg;cases hg
section
variable {w w' : World} {g bl bo : Nat} {X : List MRow} {O : List Id32}
theorem MultiAt.cell0 (h : MultiAt w g bl bo X O) : w.cell? ⟨g,0,none⟩ = some (.map (some bl)):=by rw [cell_of_row w g 0 _ _ _ h.blk];rfl
theorem MultiAt.cell1 (h : MultiAt w g bl bo X O) : w.cell? ⟨g,1,none⟩ = some (.map (some bo)):=by rw [cell_of_row w g 1 _ _ _ h.blk];rfl
theorem MultiAt.lt (h : MultiAt w g bl bo X O) : g < w.heap.size ∧ bl < w.heap.size ∧ bo < w.heap.size:=⟨(Array.getElem?_eq_some_iff.1 h.blk).1,h.live.lt,h.over.lt⟩
theorem MultiAt.nel (h : MultiAt w g bl bo X O) : g ≠ bl:=setAt_ne h.live h.blk
theorem MultiAt.neo (h : MultiAt w g bl bo X O) : g ≠ bo:=setAt_ne h.over h.blk
theorem MultiAt.kept {S : List Nat} (h : MultiAt w g bl bo X O) (k : Keep S w w') (hg : g ∉ S) (hl : bl ∉ S) (ho : bo ∉ S) : MultiAt w' g bl bo X O :=
  ⟨(k.block g h.lt.1 hg).trans h.blk,h.live.kept k hl,h.over.kept k ho,h.ne,h.risX,h.risO,h.sm,h.apart⟩
theorem MultiAt.below (h : MultiAt w g bl bo X O) (k : Below w.heap.size w w') : MultiAt w' g bl bo X O:=h.kept (Keep.of_below k) (by simp) (by simp) (by simp)
end
theorem mnone_live (w : World) (g b : Nat) (h : w.cell? ⟨g,0,none⟩ = some (.map (some b))) : Calls Tryz.prog 198 #[.pointer (some ⟨g,0,none⟩)] w fun e w'=>e = .returned (.bool false) ∧ w = w':=by
  have hn:=fun r=>run_eql_map_nil (P:=Tryz.prog) w 269 184 4 r Tryz.underlying269;go_enter Tryz.func198,Tryz.ntmps198
  (go_wp2_with fail);go_ret;exact ⟨rfl,rfl⟩
theorem mnew (w : World) : Calls Tryz.prog 118 #[] w fun e w'=>∃ g bl bo,e = .returned (.pointer (some ⟨g,0,none⟩)) ∧ MultiAt w' g bl bo [] [] ∧ w.heap.size ≤ g ∧ w.heap.size ≤ bl ∧ w.heap.size ≤ bo ∧ Below w.heap.size w w':=by
  have hmm:=@run_makeMap Tryz.prog;go_enter Tryz.func118,Tryz.ntmps118
  (go_wp2_with fail);go_ret;have k1:=SetAt.new (kv:=mrowV) (ok:=okM) w w.heap.size rfl;have k2:=SetAt.new (kv:=idV) (ok:=okId) (w.alloc (.map #[] 0)) (w.heap.size + 1) (by simp);refine ⟨w.heap.size + 2,w.heap.size,w.heap.size + 1,rfl,⟨?_,(k1.kept (Keep.alloc _ _) (by simp)).kept (Keep.alloc _ _) (by simp),k2.kept (Keep.alloc _ _) (by simp),by omega,Ris.nil,Ris.nil,by simp,by simp⟩,by omega,by omega,by omega,(((Below.refl _ _).alloc (Nat.le_refl _) _).alloc (by simp) _).alloc (by simp;omega) _⟩;have:=heap_alloc_new ((w.alloc (.map #[] 0)).alloc (.map #[] 0)) (.cells #[.map (some w.heap.size),.map (some (w.heap.size + 1))] 271 (0,0));simpa using this
theorem einfoMRow : ElemInfo Tryz.prog 181 184 34 64 :=
  .of (z:=.agg (mRowC mRow0)) Tryz.underlying181 (by kernel_rfl) (by kernel_rfl) (by kernel_rfl) (mRowC_size _) (by omega)
@[go_sem ↓] theorem bsMRow_rw (n : Nat) (parts : Array (Nat × Value)) : Instr.buildSlice 181 n parts = bsS 181 n parts:=rfl
@[go_sem] theorem bsMRow_run (w : World) (x : MRow) : (bsS 181 1 #[(0,.agg (mRowC x))]).run Tryz.prog w = .ok (.slice (some ⟨w.heap.size,0,none⟩) 1 1) (w.alloc (.cells (mRowC x) 184)) :=
  run_bsS1 einfoMRow (by omega) w (mRowC x) (mRowC_size x)
def livR (X : List MRow) (O : List Id32) : List MRow:=X.filter fun x=>decide (x.id ∉ O)
set_option maxRecDepth 100000 in
set_option maxHeartbeats 2000000 in
theorem msweep (wS : World) (g bl bo : Nat) (X : List MRow) (O : List Id32) (hblk : wS.heap[g]? = some (.cells #[.map (some bl),.map (some bo)] 271 (0,0))) (hl : MSet wS bl X) (ho : IdSet wS bo O) (hne : bl ≠ bo) (hr : Ris cmpMR X) (hsm : ∀ x ∈ X,msmall x) (hn : X.length ≤ 1000000) :
    Calls Tryz.prog 213 #[.pointer (some ⟨g,0,none⟩)] wS fun e w'=>e = .returned (.tuple #[]) ∧ MSet w' bl (livR X O) ∧ Keep [bl] wS w':=by
  have hbl:=hl.lt;have hbo:=ho.lt;have hgl:=(Array.getElem?_eq_some_iff.1 hblk).1;have hgbl : g ≠ bl:=setAt_ne hl hblk;have hc0 : wS.cell? ⟨g,0,none⟩ = some (.map (some bl)):=by rw [cell_of_row wS g 0 _ _ _ hblk];rfl
  have hc1 : wS.cell? ⟨g,1,none⟩ = some (.map (some bo)):=by rw [cell_of_row wS g 1 _ _ _ hblk];rfl
  obtain ⟨w0,hrun,hR,hb0,hs0⟩:=SetAt.range (P:=Tryz.prog) (kv:=mrowV) (ok:=okM) hl Tryz.underlying269;go_enter Tryz.func213,Tryz.ntmps213
  (go_wp2_with fail);clear hrun hblk;go_loopw [2] (fun out wr=>∃ S A cap,out = .slice A (livR S O).length cap ∧ SetRange wr bl wS.heap.size mrowV okM X S ∧ Own wr w0.heap.size 184 34 A (livR S O).length cap ((livR S O).map mRowC) ∧ Below wS.heap.size wS wr ∧ w0.heap.size ≤ wr.heap.size) (fun _ wr=>wr.rangeLeft bl wS.heap.size)
  case atStart=>exact ⟨[],none,0,rfl,hR,Own.nil _ _ _ _,hb0,Nat.le_refl _⟩
  case round =>
    obtain ⟨S,A,cap,rfl,hR,hown,hb,hsz⟩:=hrel;rcases hR.next (P:=Tryz.prog) 0 with ⟨hall,hnd,hrun⟩ | ⟨x,w1,hxL,hxS,hrun,hR1,hk1,hs1,hl1,hen⟩
    · have hcr0:=(hb.cell (p:=⟨g,0,none⟩) hgl).trans hc0;obtain ⟨wc,hclr,hlc,hkc⟩:=mclear (hl.below hb) 0;have hcc0:=(hkc.cell (p:=⟨g,0,none⟩) (show g < wr.heap.size by have:=hb.size;omega) (by simpa using hgbl)).trans hcr0;have hp : S.Perm X:=(List.perm_ext_iff_of_nodup hnd (hr.nodup totMR)).2 hall;have hSX : S.length = X.length:=hp.length_eq;have hmem : ∀ x,x ∈ livR S O ↔ x ∈ livR X O:=fun x=>(by unfold livR;simp [hall]);have hsmS : ∀ x ∈ livR S O,msmall x:=fun x hx=>hsm x ((hall x).1 (List.mem_filter.1 hx).1);have hlen : (livR S O).length ≤ 1000000:=by have : (livR S O).length ≤ S.length:=List.length_filter_le _ _;omega
      have hownc:=hown.kept hkc (fun y hy=>by have:=(hown.at_base hy).1;simp;omega);have hkw : Keep [bl] wS wc:=Keep.trans ((Keep.of_below hb).mono (S':=[bl]) (by simp)) hkc (fun x hx=>.inl hx);obtain ⟨T,hT⟩ : ∃ T,livR S O = T:=⟨_,rfl⟩
      rw [hT] at hmem hsmS hlen hownc ⊢;have Hmem:=Lib.hid hmem;have Hall:=Lib.hid hall;clear hT hall hmem hp hSX hown hR hb;(go_wp2_with fail);clear hclr hrun hcr0;go_loopw [33] (fun i wr=>∃ k : Nat,k ≤ T.length ∧ i = .int .i64 k ∧ MSet wr bl (T.take k) ∧ Keep [bl] wS wr ∧ Own wr w0.heap.size 184 34 A T.length cap (T.map mRowC)) (fun i _=>T.length - (intOf i).toNat)
      case atStart=>exact ⟨0,Nat.zero_le _,rfl,hlc,hkw,hownc⟩
      case round =>
        obtain ⟨k,hk,rfl,hm,hkr,hownr⟩:=hrel;by_cases hlt : k < T.length
        · obtain ⟨q,o,rfl,hrow⟩:=hownr.slr.at_ hlt;obtain rfl : o = 0:=by
            rcases hownr.addr with e | ⟨g',e⟩
            · cases e
            · injection e with e;injection e
          rw [Nat.zero_add,List.getElem_map] at hrow;have hxs : msmall (T[k]'hlt):=hsmS _ (List.getElem_mem _);have htk : T.take (k + 1) = T.take k ++ [T[k]'hlt]:=by rw [List.take_add_one,List.getElem?_eq_getElem hlt];rfl
          obtain ⟨x,hx⟩ : ∃ x,T[k]'hlt = x:=⟨_,rfl⟩
          rw [hx] at hrow hxs htk;have Htk:=Lib.hid htk;clear hx htk;have hbx : Below wr.heap.size wr (wr.alloc (.cells (mRowC x) 184)):=(Below.refl _ _).alloc (Nat.le_refl _) _;have hm1:=SetAt.below hm hbx;have hownx:=hownr.below hbx;have hcx:=(hbx.cell (p:=⟨g,0,none⟩) (show g < wr.heap.size by have:=hkr.size;omega)).trans ((hkr.cell (p:=⟨g,0,none⟩) hgl (by simpa using hgbl)).trans hc0);have hrx : rowAt (wr.alloc (.cells (mRowC x) 184)) wr.heap.size 0 34 = some (mRowC x):=by simp [go_sem]
          have hkx : Keep [bl] wS (wr.alloc (.cells (mRowC x) 184)):=Keep.trans hkr (Keep.of_below hbx) (by simp);have hszr:=hkr.size;go_upto_region 10 with fail
          obtain ⟨W1,hW1⟩ : ∃ W1,W1 = wr.alloc (.cells (mRowC x) 184):=⟨_,rfl⟩
          rw [← hW1] at hm1 hownx hcx hrx hkx ⊢;clear hW1;obtain ⟨w2,hrun,hm2,hk2⟩:=mput (x:=x) (hm1.kept (Keep.drew W1) (by simp)) hxs;have hgb : g ∉ [bl]:=by simpa using hgbl
          refine wp_region_lex (Kp [bl] W1) false (by kernel_rfl) (by kernel_rfl) (by kernel_rfl) (kp_drew [bl] W1) ?_;have hne:=kp_some [bl] W1;have hS:=kp_drew [bl] W1;have b1:=ksub_cell hcx hgb;have b2:=ksub_row hrx (S:=[bl]) (by simp;omega);repeat (refine wpLx_loose ?_ ?_;(focus (simp only [chainOp];done));intro K hK;go_simp;refine hK _ ?_;clear hK K)
          refine wpLx_chain ?_ ?_ ?_;(focus (exact hS));(focus (simp only [chainOp];done));intro K hK;go_simp;refine step_keep (kp_next hS hk2 (by simp)) (fun hS=>?_);refine hK _ _ ?_;clear hK K;refine wpLx_nil ?_;intro hS;have hS' : Keep [bl] W1 w2:=hS;have hownn:=hownx.kept hS' (fun y hy=>by have:=(hownr.at_base hy).1;simp;omega);have hkn:=Keep.trans hkx hS' (fun x hx=>.inl hx);clear b1 b2 hne hS hk2 hrun hcx hrx;(go_wp2_with fail);go_roundw
          case rel=>exact ⟨k + 1,by omega,by go_num,SetAt.congr hm2 (fun y=>by rw [Htk.out];simp [or_comm]),hkn,hownn⟩
          case measure=>simp [intOf];omega
        · have e2 : T.take k = T:=List.take_of_length_le (by omega);rw [e2] at hm;(go_wp2_with fail);go_end0;exact ⟨rfl,SetAt.congr hm Hmem.out,hkr⟩
    · have hSn : (livR S O).length + 1 ≤ 1000000:=by
        obtain ⟨M,Z,hZ,hks,_,hZS,hnd⟩:=hR1;have h1:=hZ.length;have h2 : (Z.map (·.1)).length = (S ++ [x]).length:=by rw [hZS]
        have h3 : (M.map (·.1)).length ≤ X.length:=nodup_len hnd (fun y hy=>(hks y).1 hy);have h4 : (livR S O).length ≤ S.length:=List.length_filter_le _ _;simp at h2 h3;omega
      have hl5 : livR (S ++ [x]) O = if x.id ∈ O then livR S O else livR S O ++ [x]:=by
        unfold livR;rw [List.filter_append];by_cases e : x.id ∈ O <;> simp [e]
      have hown1:=hown.kept hk1 (fun y hy=>by have:=(hown.at_base hy).1;simp;omega);have hb1 : Below wS.heap.size wS w1:=hb.trans (hk1.below (B:=wS.heap.size) (by omega) (by simp));have hbx : Below w1.heap.size w1 (w1.alloc (.cells (mRowC x) 184)):=(Below.refl _ _).alloc (Nat.le_refl _) _;have hR2:=hR1.kept (Keep.of_below hbx) (by simp) (by simp);have hl2 : (w1.alloc (.cells (mRowC x) 184)).rangeLeft bl wS.heap.size = w1.rangeLeft bl wS.heap.size:=rangeLeft_kept (Keep.of_below hbx) (by simp) (by simp) hR1.lt.2 hR1.lt.1;have hown2:=hown1.below hbx;have hsz1 : w0.heap.size ≤ w1.heap.size:=by omega
      have hszw : wS.heap.size ≤ w1.heap.size:=by omega
      have hb2 : Below wS.heap.size wS (w1.alloc (.cells (mRowC x) 184)):=hb1.trans (hbx.mono hszw);have hrx : rowAt (w1.alloc (.cells (mRowC x) 184)) w1.heap.size 0 34 = some (mRowC x):=by simp [go_sem]
      have hcx:=(hb2.cell (p:=⟨g,1,none⟩) hgl).trans hc1;have ho2 : IdSet (w1.alloc (.cells (mRowC x) 184)) bo O:=ho.kept (Keep.of_below (hb2.mono (Nat.le_refl _))) (by simp);have hsz2 : w0.heap.size ≤ (w1.alloc (.cells (mRowC x) 184)).heap.size:=by simp;omega
      change (Instr.next _ _ _).run Tryz.prog wr = .ok (.tuple #[.bool true,.agg (mRowC x),.bool true]) w1 at hrun;change (Instr.entry _).run Tryz.prog w1 = .ok (.tuple #[.agg (mRowC x),.bool true]) w1 at hen;have Hl5:=Lib.hid hl5;clear hown hb hk1 hs1 hR1 hown1 hb1 hbx hl5;go_upto_region 4 with fail
      obtain ⟨W1,hW1⟩ : ∃ W1,W1 = w1.alloc (.cells (mRowC x) 184):=⟨_,rfl⟩
      obtain ⟨gx,hgx⟩ : ∃ gx,w1.heap.size = gx:=⟨_,rfl⟩
      rw [hgx] at hrx;rw [← hW1] at hR2 hl2 hown2 hb2 hrx hcx ho2 hsz2 ⊢;have hxi : rowAt W1 gx 0 32 = some (idC x.id):=by have:=rowAt_sub hrx (j:=0) (m:=32) (by omega);rwa [mRowC_e0] at this
      have hk : ∀ y : Subtype (Bel W1),(Instr.lookup 75 (.map (some bo)) (.agg (idC x.id)) false).run Tryz.prog y.1 = .ok (.bool (decide (x.id ∈ O))) y.1:=fun y=>ilook (ho2.below y.2);obtain ⟨r,hrr⟩ : ∃ r,decide (x.id ∈ O) = r:=⟨_,rfl⟩
      rw [hrr] at hk;have Hrr:=Lib.hid hrr;clear hrun hen hW1 hrr;refine wp_region_lex (Bel W1) false (by kernel_rfl) (by kernel_rfl) (by kernel_rfl) (bel_drew W1) ?_;have hne:=bel_some W1;have hS:=bel_drew W1;have b1:=sub_cell hcx;have b2:=sub_row hxi;repeat (refine wpLx_loose ?_ ?_;(focus (simp only [chainOp];done));intro K hK;go_simp;refine hK _ ?_;clear hK K)
      refine wpLx_nil ?_;intro hS;have hR3 : SetRange W1.drew bl wS.heap.size mrowV okM X (S ++ [x]):=hR2.kept (Keep.drew W1) (by simp) (by simp);have hl3 : W1.drew.rangeLeft bl wS.heap.size = W1.rangeLeft bl wS.heap.size:=rangeLeft_kept (Keep.drew W1) (by simp) (by simp) hR2.lt.2 hR2.lt.1;have hown3:=hown2.kept (Keep.drew W1) (by simp);have hb3 : Below wS.heap.size wS W1.drew:=hb2.drew;have hrx3 : rowAt W1.drew gx 0 34 = some (mRowC x):=hrx;have hsz3 : w0.heap.size ≤ W1.drew.heap.size:=hsz2;clear b1 b2 hne hS hk hcx hxi hrx hown2 hb2 hR2 ho2 hsz2;obtain ⟨W2,hW2⟩ : ∃ W2,W1.drew = W2:=⟨_,rfl⟩
      rw [hW2] at hR3 hl3 hown3 hb3 hrx3 hsz3 ⊢;clear hW2;cases r with
      | true =>
        have hin : x.id ∈ O:=of_decide_eq_true Hrr.out;have e5:=Hl5.out;rw [if_pos hin] at e5;have E5:=Lib.hid e5;clear e5 hin;(go_wp2_with fail);go_roundw
        case rel=>exact ⟨S ++ [x],A,cap,by rw [E5.out],hR3,by rw [E5.out];exact hown3,hb3,hsz3⟩
        case measure=>omega
      | false =>
        have hin : x.id ∉ O:=of_decide_eq_false Hrr.out;have e5:=Hl5.out;rw [if_neg hin] at e5;have E5:=Lib.hid e5;clear e5 hin;have hb4 : Below W2.heap.size W2 (W2.alloc (.cells (mRowC x) 184)):=(Below.refl _ _).alloc (Nat.le_refl _) _;have hown4:=hown3.below hb4;have hrow4 : rowAt (W2.alloc (.cells (mRowC x) 184)) W2.heap.size 0 34 = some (mRowC x):=by simp [go_sem]
        go_wp2_with (at_builtin;refine L_append einfoMRow rfl hown4 rfl hrow4 (mRowC_one _) (by omega) (by omega) (by simp;omega) ?_;intro A' cap' w5 hownA hkA hsubA)
        have hbA : bl ∉ blk A:=fun hx=>(by have:=(hown3.at_base hx).1;omega);have hrA : wS.heap.size ∉ blk A:=fun hx=>(by have:=(hown3.at_base hx).1;omega);have hR4:=hR3.kept (Keep.of_below hb4) (by simp) (by simp);have hR5:=hR4.kept hkA hbA hrA;have hl5' : w5.rangeLeft bl wS.heap.size = W2.rangeLeft bl wS.heap.size :=
          (rangeLeft_kept hkA hbA hrA hR4.lt.2 hR4.lt.1).trans (rangeLeft_kept (Keep.of_below hb4) (by simp) (by simp) hR3.lt.2 hR3.lt.1)
        have hsz5 : w0.heap.size ≤ w5.heap.size:=by
          have e1:=hb4.size;have e2:=hkA.size;omega
        have hb5 : Below wS.heap.size wS w5:=hb3.trans ((hb4.mono (by omega)).trans (hkA.below (B:=wS.heap.size) (by simp;omega) fun y hy=>by have:=(hown3.at_base hy).1;omega));(go_wp2_with fail);go_roundw
        case rel=>exact ⟨S ++ [x],A',cap',by rw [E5.out];simp,hR5,by rw [E5.out];simpa using hownA,hb5,hsz5⟩
        case measure=>omega
end
section
open Go.RowKit
def putO (O T : List Id32) : List Id32:=T.foldl (insC cmpId) O
theorem putO_ris {O T : List Id32} (h : Ris cmpId O) : Ris cmpId (putO O T):=(foldl_insC totId T O h).1
theorem mem_putO {O T : List Id32} (h : Ris cmpId O) {x : Id32} : x ∈ putO O T ↔ x ∈ O ∨ x ∈ T:=(foldl_insC totId T O h).2 x
theorem putO_snoc (O T : List Id32) (t : Id32) : putO O (T ++ [t]) = insC cmpId (putO O T) t:=by simp [putO]
theorem idrow_ne {w : World} {g o k b : Nat} {cs : Array Value} {κ : Type} {kv : κ → Value} {ok : κ → Prop} {X : List κ} (h : rowAt w g o k = some cs) (hs : SetAt w b kv ok X) : g ≠ b:=by
  rintro rfl;obtain ⟨M,es,clk,hm,_⟩:=hs;unfold rowAt at h;rw [hm.heap] at h;cases h
def setX (X : List MRow) (O : List Id32) (x : MRow) (T : List Id32) : List MRow:=livR (insC cmpMR X x) (putO O T)
set_option maxRecDepth 100000 in
set_option maxHeartbeats 2000000 in
theorem mset (d : Id32) (key val : ByteArray) (A : Option Addr) (n cap : Nat) (T : List Id32) (w : World) (g bl bo : Nat) (X : List MRow) (O : List Id32) (h : MultiAt w g bl bo X O) (hT : TagsIn w A n T) (hks : key.size ≤ 16) (hvs : val.size ≤ 16) (hn : n ≤ 1000000) (hX : X.length < 1000000) :
    Calls Tryz.prog 141 #[.pointer (some ⟨g,0,none⟩),.agg (idC d),.string key,.string val,.slice A n cap] w fun e w'=>e = .returned (.int .i64 0) ∧ MultiAt w' g bl bo (setX X O ⟨d,key,val⟩ T) (putO O T) ∧ Keep [bl,bo] w w':=by
  have hlen:=hT.len;have Hlen:=Lib.hid hlen;have hb0 : Below w.heap.size w (w.alloc (.cells (idC d) 39)):=(Below.refl _ _).alloc (Nat.le_refl _) _;have h0:=h.below hb0;have hr0 : rowAt (w.alloc (.cells (idC d) 39)) w.heap.size 0 32 = some (idC d):=by simp [go_sem]
  have hsm : msmall ⟨d,key,val⟩:=⟨hks,hvs⟩
  have hgl:=h.lt;clear hlen;go_enter Tryz.func141,Tryz.ntmps141
  go_upto_region 1 with fail
  obtain ⟨ga,hga⟩ : ∃ ga,w.heap.size = ga:=⟨_,rfl⟩
  have Hga:=Lib.hid hga;rw [hga] at hr0 hgl hb0 ⊢;obtain ⟨W0,hW0⟩ : ∃ W0,W0 = w.alloc (.cells (idC d) 39):=⟨_,rfl⟩
  rw [← hW0] at h0 hr0 hb0 ⊢;clear hW0 hga;(go_wp2_with fail);refine (mnone_live W0 g bl h0.cell0).mono ?_;rintro e w1 ⟨rfl,rfl⟩;go_upto_region 6 with fail
  have hgb : g ∉ [bl]:=by simpa using h0.nel
  have hc0:=h0.cell0;obtain ⟨w2,hrun,hm2,hk2⟩:=mput (x:=⟨d,key,val⟩) (h0.live.kept (Keep.drew W0) (by simp)) hsm;refine wp_region_lex (Kp [bl] W0) false (by kernel_rfl) (by kernel_rfl) (by kernel_rfl) (kp_drew [bl] W0) ?_;have hne:=kp_some [bl] W0;have hS:=kp_drew [bl] W0;have b1:=ksub_cell hc0 hgb;have b2:=ksub_row hr0 (S:=[bl]) (by simp;omega);repeat (refine wpLx_loose ?_ ?_;(focus (simp only [chainOp];done));intro K hK;go_simp;refine hK _ ?_;clear hK K)
  refine wpLx_chain ?_ ?_ ?_;(focus (exact hS));(focus (simp only [chainOp];done));intro K hK;go_simp;refine step_keep (kp_next hS hk2 (by simp)) (fun hS=>?_);refine hK _ _ ?_;clear hK K;refine wpLx_nil ?_;intro hS;have hS' : Keep [bl] W0 w2:=hS;have hblk2:=(hS'.block g h0.lt.1 hgb).trans h0.blk;have ho2 : IdSet w2 bo O:=h0.over.kept hS' (by simpa using fun e=>h0.ne e.symm);have hK2 : Keep [bl,bo] w w2:=Keep.trans ((Keep.of_below (hb0.mono (by rw [Hga.out];exact Nat.le_refl _))).mono (S':=[bl,bo]) (by simp)) (hS'.mono (S':=[bl,bo]) (by simp)) (fun x hx=>.inl hx);have hm3 : MSet w2 bl (insC cmpMR X ⟨d,key,val⟩):=SetAt.congr hm2 (fun y=>by rw [mem_insC totMR,List.mem_cons]);have hrisX:=ris_insC totMR (x:=⟨d,key,val⟩) h.risX;have hsmX : ∀ y ∈ insC cmpMR X ⟨d,key,val⟩,msmall y:=fun y hy=>by
    rcases (mem_insC totMR).1 hy with e | hy
    · rw [e];exact hsm
    · exact h.sm y hy
  have hlX : (insC cmpMR X ⟨d,key,val⟩).length ≤ 1000000:=by have:=insC_length (c:=cmpMR) X ⟨d,key,val⟩;omega
  have Hset : Hid (setX X O ⟨d,key,val⟩ T = livR (insC cmpMR X ⟨d,key,val⟩) (putO O T)):=rfl;obtain ⟨X1,hX1⟩ : ∃ X1,insC cmpMR X ⟨d,key,val⟩ = X1:=⟨_,rfl⟩
  rw [hX1] at hm3 hrisX hsmX hlX Hset;have hgne:=h.nel;have hgno:=h.neo;have hlne:=h.ne;have hro:=h.risO;have hlive:=h.live;have hover:=h.over;clear hX1 b1 b2 hne hS hk2 hrun hr0 hc0 hS' h0 hb0 hm2 hX;(go_wp2_with fail);go_loopw [33] (fun i wr=>∃ k : Nat,k ≤ n ∧ i = .int .i64 k ∧ MSet wr bl X1 ∧ IdSet wr bo (putO O (T.take k)) ∧ Keep [bl,bo] w wr) (fun i _=>n - (intOf i).toNat)
  case atStart=>exact ⟨0,Nat.zero_le _,rfl,hm3,ho2,hK2⟩
  case round =>
    obtain ⟨k,hk,rfl,hm,ho,hkr⟩:=hrel;have hcr1 : wr.cell? ⟨g,1,none⟩ = some (.map (some bo)):=(hkr.cell (p:=⟨g,1,none⟩) (show g < w.heap.size by have:=Hga.out;omega) (by simp;omega)).trans h.cell1;have hblkr:=(hkr.block g (by have:=Hga.out;omega) (by simp;omega)).trans h.blk;by_cases hlt : k < n
    · obtain ⟨q,o,rfl,hrow⟩:=hT.get hlt (by rw [Hlen.out];exact hlt);have hql : q ≠ bl:=idrow_ne hrow hlive;have hqo : q ≠ bo:=idrow_ne hrow hover;have hrr : rowAt wr q (o + k * 32) 32 = some (idC (T[k]'(by rw [Hlen.out];exact hlt))):=(hkr.row (rowAt_lt hrow) (by simp [hql,hqo]) _ _).trans hrow;have htk : T.take (k + 1) = T.take k ++ [T[k]'(by rw [Hlen.out];exact hlt)]:=by rw [List.take_add_one,List.getElem?_eq_getElem (by rw [Hlen.out];exact hlt)];rfl
      obtain ⟨x,hx⟩ : ∃ x,T[k]'(by rw [Hlen.out];exact hlt) = x:=⟨_,rfl⟩
      rw [hx] at hrr htk;have Htk:=Lib.hid htk;clear hx htk hrow;have hbx : Below wr.heap.size wr (wr.alloc (.cells (idC x) 39)):=(Below.refl _ _).alloc (Nat.le_refl _) _;have hm1:=SetAt.below hm hbx;have ho1:=SetAt.below ho hbx;have hcx:=(hbx.cell (p:=⟨g,1,none⟩) (World.block_lt_of_cell? wr _ hcr1)).trans hcr1;have hrx : rowAt (wr.alloc (.cells (idC x) 39)) wr.heap.size 0 32 = some (idC x):=by simp [go_sem]
      have hkx : Keep [bl,bo] w (wr.alloc (.cells (idC x) 39)):=Keep.trans hkr (Keep.of_below hbx) (by simp);have hbol : bo < wr.heap.size:=ho.lt;go_upto_region 10 with fail
      obtain ⟨W1,hW1⟩ : ∃ W1,W1 = wr.alloc (.cells (idC x) 39):=⟨_,rfl⟩
      rw [← hW1] at hm1 ho1 hcx hrx hkx ⊢;clear hW1;obtain ⟨w5,hrun,ho5,hk5⟩:=iput (x:=x) (ho1.kept (Keep.drew W1) (by simp));have hgbo : g ∉ [bo]:=by simpa using hgno
      refine wp_region_lex (Kp [bo] W1) false (by kernel_rfl) (by kernel_rfl) (by kernel_rfl) (kp_drew [bo] W1) ?_;have hne:=kp_some [bo] W1;have hS:=kp_drew [bo] W1;have b1:=ksub_cell hcx hgbo;have b2:=ksub_row hrx (S:=[bo]) (by simp;omega);repeat (refine wpLx_loose ?_ ?_;(focus (simp only [chainOp];done));intro K hK;go_simp;refine hK _ ?_;clear hK K)
      refine wpLx_chain ?_ ?_ ?_;(focus (exact hS));(focus (simp only [chainOp];done));intro K hK;go_simp;refine step_keep (kp_next hS hk5 (by simp)) (fun hS=>?_);refine hK _ _ ?_;clear hK K;refine wpLx_nil ?_;intro hS;have hS' : Keep [bo] W1 w5:=hS;have hm5:=hm1.kept hS' (by simpa using hlne);have hkn : Keep [bl,bo] w w5:=Keep.trans hkx (hS'.mono (S':=[bl,bo]) (by simp)) (fun x hx=>.inl hx);have ho6 : IdSet w5 bo (putO O (T.take (k + 1))):=SetAt.congr ho5 (fun y=>by rw [Htk.out,putO_snoc,mem_insC totId,List.mem_cons]);clear b1 b2 hne hS hk5 hrun hcx hrx ho5 hS' hm1 ho1;(go_wp2_with fail);go_roundw
      case rel=>exact ⟨k + 1,by omega,by go_num,hm5,ho6,hkn⟩
      case measure=>simp [intOf];omega
    · have e2 : T.take k = T:=List.take_of_length_le (by rw [Hlen.out];omega);rw [e2] at ho;have csw:=msweep wr g bl bo X1 (putO O T) hblkr hm ho hlne hrisX hsmX hlX;clear e2 hcr1;(go_wp2_with fail);refine csw.mono ?_;rintro e w6 ⟨rfl,hm6,hk6⟩;have hblk6:=(hk6.block g (by have:=(Array.getElem?_eq_some_iff.1 hblkr).1;exact this) (by simpa using hgne)).trans hblkr;have ho6:=ho.kept hk6 (by simpa using fun e=>hlne e.symm);have hfin : MultiAt w6 g bl bo (setX X O ⟨d,key,val⟩ T) (putO O T):=by
        rw [Hset.out];exact ⟨hblk6,hm6,ho6,hlne,hrisX.filter _,putO_ris hro,fun y hy=>hsmX y (List.mem_filter.1 hy).1,fun y hy=>by have:=(List.mem_filter.1 hy).2;simpa using this⟩
      have hkf : Keep [bl,bo] w w6:=Keep.trans hkr (hk6.mono (S':=[bl,bo]) (by simp)) (fun x hx=>.inl hx);clear csw hm6 hk6 hblk6 ho6 hblkr hm ho hkr;(go_wp2_with fail);go_ret;exact ⟨rfl,hfin,hkf⟩
end
end Go.Proofs.YtgfpjjppeldhbaaGreatDoor
