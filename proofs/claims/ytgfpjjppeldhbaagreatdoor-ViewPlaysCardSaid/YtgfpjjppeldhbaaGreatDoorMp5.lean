/- Part 5 of the texts that lead to this claim: the walks of the functions and the plain law, in order. -/
import Derived.Test.YtgfpjjppeldhbaaGreatDoorMp4
import Derived.Test.YtgfpjjppeldhbaaGreatDoorLayGrow
import Derived.LoopN
namespace Go.Proofs.YtgfpjjppeldhbaaGreatDoor
section
open Go.RowKit
theorem xA.clear {P : Program} {K T E' : TypeId} {κ : Type} {kv : κ → Value} {ok : κ → Prop} {w : World} {b : Nat} {L : List κ} (h : xA w b kv ok L) (ht : P.underlying T = some (.map K E')) (ty : TypeId) :
    ∃ w',(Builtin.clear_ #[T] ty #[.map (some b)]).run P w = .ok (.tuple #[]) w' ∧ xA w' b kv ok [] ∧ zC [b] w w':=by
  obtain ⟨M,es,clk,hm,hks,htr⟩:=h;refine ⟨_,?_,⟨[],#[],clk,⟨bQ _ hm.lt,rfl,rfl,by simp,by simp,by simp,by simp⟩,by simp,by simp⟩,bP w b _⟩;simp [Builtin.clear_,run_underlying ht,j8 hm.heap,bJ hm.heap]
abbrev rB (w : World) (b : Nat) (L : List xT) : Prop:=xA w b dX okM L
def bX (x : xT) : Prop:=x.key.size ≤ 16 ∧ x.val.size ≤ 16
theorem Q6 {x : xT} (h : bX x) : okM x:=by
  obtain ⟨h1,h2⟩:=h;exact ⟨by simp only [maxLen];omega,by simp only [maxLen];omega⟩
theorem mput {w : World} {b : Nat} {X : List xT} {x : xT} (h : rB w b X) (hk : bX x) : ∃ w',(Instr.mapUpdate 269 (.map (some b)) (.agg (zQ x)) (.bool true)).run Tryz.prog w = .ok () w' ∧ rB w' b (x :: X) ∧ zC [b] w w':=xA.put h mrowKey Tryz.underlying269 (Q6 hk)
theorem mclear {w : World} {b : Nat} {X : List xT} (h : rB w b X) (ty : TypeId) : ∃ w',(Builtin.clear_ #[269] ty #[.map (some b)]).run Tryz.prog w = .ok (.tuple #[]) w' ∧ rB w' b [] ∧ zC [b] w w':=xA.clear h Tryz.underlying269 ty
structure q4 (w : World) (g bl bo : Nat) (X : List xT) (O : List zK) : Prop where
  blk : w.heap[g]? = some (.cells #[.map (some bl),.map (some bo)] 271 (0,0))
  live : rB w bl X
  over : dD w bo O
  ne : bl ≠ bo
  risX : Ris qN X
  risO : Ris zO O
  sm : ∀ x ∈ X,bX x
  apart : ∀ x ∈ X,x.id ∉ O
theorem mV {κ : Type} {kv : κ → Value} {ok : κ → Prop} {w : World} {b g : Nat} {X : List κ} {cs : Array Value} {t : TypeId} {f : Nat × Nat} (h : xA w b kv ok X) (hg : w.heap[g]? = some (.cells cs t f)) : g ≠ b:=by
  rintro rfl;obtain ⟨M,es,clk,hm,_⟩:=h;rw [hm.heap] at hg;cases hg
section
variable {w w' : World} {g bl bo : Nat} {X : List xT} {O : List zK}
theorem q4.cell0 (h : q4 w g bl bo X O) : w.cell? ⟨g,0,none⟩ = some (.map (some bl)):=by rw [cell_of_row w g 0 _ _ _ h.blk];rfl
theorem q4.cell1 (h : q4 w g bl bo X O) : w.cell? ⟨g,1,none⟩ = some (.map (some bo)):=by rw [cell_of_row w g 1 _ _ _ h.blk];rfl
theorem q4.lt (h : q4 w g bl bo X O) : g < w.heap.size ∧ bl < w.heap.size ∧ bo < w.heap.size:=⟨(Array.getElem?_eq_some_iff.1 h.blk).1,h.live.lt,h.over.lt⟩
theorem q4.nel (h : q4 w g bl bo X O) : g ≠ bl:=mV h.live h.blk
theorem q4.neo (h : q4 w g bl bo X O) : g ≠ bo:=mV h.over h.blk
theorem q4.kept {S : List Nat} (h : q4 w g bl bo X O) (k : zC S w w') (hg : g ∉ S) (hl : bl ∉ S) (ho : bo ∉ S) : q4 w' g bl bo X O :=
  ⟨(k.block g h.lt.1 hg).trans h.blk,h.live.kept k hl,h.over.kept k ho,h.ne,h.risX,h.risO,h.sm,h.apart⟩
theorem q4.below (h : q4 w g bl bo X O) (k : Below w.heap.size w w') : q4 w' g bl bo X O:=h.kept (zC.of_below k) (by simp) (by simp) (by simp)
end
theorem wT (w : World) (g b : Nat) (h : w.cell? ⟨g,0,none⟩ = some (.map (some b))) : Calls Tryz.prog 198 #[.pointer (some ⟨g,0,none⟩)] w fun e w'=>e = .returned (.bool false) ∧ w = w':=by
  have hn:=fun r=>run_eql_map_nil (P:=Tryz.prog) w 269 184 4 r Tryz.underlying269;go_enter Tryz.func198,Tryz.ntmps198
  (go_wp2_with fail);go_ret;exact ⟨rfl,rfl⟩
theorem mnew (w : World) : Calls Tryz.prog 118 #[] w fun e w'=>∃ g bl bo,e = .returned (.pointer (some ⟨g,0,none⟩)) ∧ q4 w' g bl bo [] [] ∧ w.heap.size ≤ g ∧ w.heap.size ≤ bl ∧ w.heap.size ≤ bo ∧ Below w.heap.size w w':=by
  have hmm:=@run_makeMap Tryz.prog;go_enter Tryz.func118,Tryz.ntmps118
  (go_wp2_with fail);go_ret;have k1:=xA.new (kv:=dX) (ok:=okM) w w.heap.size rfl;have k2:=xA.new (kv:=idV) (ok:=d8) (w.alloc (.map #[] 0)) (w.heap.size + 1) (by simp);refine ⟨w.heap.size + 2,w.heap.size,w.heap.size + 1,rfl,⟨?_,(k1.kept (zC.alloc _ _) (by simp)).kept (zC.alloc _ _) (by simp),k2.kept (zC.alloc _ _) (by simp),by omega,Ris.nil,Ris.nil,by simp,by simp⟩,by omega,by omega,by omega,(((Below.refl _ _).alloc (Nat.le_refl _) _).alloc (by simp) _).alloc (by simp;omega) _⟩;have:=heap_alloc_new ((w.alloc (.map #[] 0)).alloc (.map #[] 0)) (.cells #[.map (some w.heap.size),.map (some (w.heap.size + 1))] 271 (0,0));simpa using this
theorem lM : xF Tryz.prog 181 184 34 64 :=
  .of (z:=.agg (zQ g3)) Tryz.underlying181 (by kernel_rfl) (by kernel_rfl) (by kernel_rfl) (vB _) (by omega)
@[go_sem ↓] theorem bsMRow_rw (n : Nat) (parts : Array (Nat × Value)) : Instr.buildSlice 181 n parts = bsS 181 n parts:=rfl
@[go_sem] theorem bsMRow_run (w : World) (x : xT) : (bsS 181 1 #[(0,.agg (zQ x))]).run Tryz.prog w = .ok (.slice (some ⟨w.heap.size,0,none⟩) 1 1) (w.alloc (.cells (zQ x) 184)) :=
  kS lM (by omega) w (zQ x) (vB x)
def g4 (X : List xT) (O : List zK) : List xT:=X.filter fun x=>decide (x.id ∉ O)
set_option maxRecDepth 100000 in
set_option maxHeartbeats 2000000 in
theorem msweep (wS : World) (g bl bo : Nat) (X : List xT) (O : List zK) (hblk : wS.heap[g]? = some (.cells #[.map (some bl),.map (some bo)] 271 (0,0))) (hl : rB wS bl X) (ho : dD wS bo O) (hne : bl ≠ bo) (hr : Ris qN X) (hsm : ∀ x ∈ X,bX x) (hn : X.length ≤ 1000000) :
    Calls Tryz.prog 213 #[.pointer (some ⟨g,0,none⟩)] wS fun e w'=>e = .returned (.tuple #[]) ∧ rB w' bl (g4 X O) ∧ zC [bl] wS w':=by
  have hbl:=hl.lt;have hbo:=ho.lt;have hgl:=(Array.getElem?_eq_some_iff.1 hblk).1;have hgbl : g ≠ bl:=mV hl hblk;have hc0 : wS.cell? ⟨g,0,none⟩ = some (.map (some bl)):=by rw [cell_of_row wS g 0 _ _ _ hblk];rfl
  have hc1 : wS.cell? ⟨g,1,none⟩ = some (.map (some bo)):=by rw [cell_of_row wS g 1 _ _ _ hblk];rfl
  obtain ⟨w0,hrun,hR,hb0,hs0⟩:=xA.range (P:=Tryz.prog) (kv:=dX) (ok:=okM) hl Tryz.underlying269;go_enter Tryz.func213,Tryz.ntmps213
  (go_wp2_with fail);clear hrun hblk;go_loopw [2] (fun out wr=>∃ S A cap,out = .slice A (g4 S O).length cap ∧ jD wr bl wS.heap.size dX okM X S ∧ Own wr w0.heap.size 184 34 A (g4 S O).length cap ((g4 S O).map zQ) ∧ Below wS.heap.size wS wr ∧ w0.heap.size ≤ wr.heap.size) (fun _ wr=>wr.rangeLeft bl wS.heap.size)
  case atStart=>exact ⟨[],none,0,rfl,hR,Own.nil _ _ _ _,hb0,Nat.le_refl _⟩
  case round =>
    obtain ⟨S,A,cap,rfl,hR,hown,hb,hsz⟩:=hrel;rcases hR.next (P:=Tryz.prog) 0 with ⟨hall,hnd,hrun⟩ | ⟨x,w1,hxL,hxS,hrun,hR1,hk1,hs1,hl1,hen⟩
    · have hcr0:=(hb.cell (p:=⟨g,0,none⟩) hgl).trans hc0;obtain ⟨wc,hclr,hlc,hkc⟩:=mclear (hl.below hb) 0;have hcc0:=(hkc.cell (p:=⟨g,0,none⟩) (show g < wr.heap.size by have:=hb.size;omega) (by simpa using hgbl)).trans hcr0;have hp : S.Perm X:=(List.perm_ext_iff_of_nodup hnd (hr.nodup fS)).2 hall;have hSX : S.length = X.length:=hp.length_eq;have hmem : ∀ x,x ∈ g4 S O ↔ x ∈ g4 X O:=fun x=>(by unfold g4;simp [hall]);have hsmS : ∀ x ∈ g4 S O,bX x:=fun x hx=>hsm x ((hall x).1 (List.mem_filter.1 hx).1);have hlen : (g4 S O).length ≤ 1000000:=by have : (g4 S O).length ≤ S.length:=List.length_filter_le _ _;omega
      have hownc:=hown.kept hkc (fun y hy=>by have:=(hown.at_base hy).1;simp;omega);have hkw : zC [bl] wS wc:=zC.trans ((zC.of_below hb).mono (S':=[bl]) (by simp)) hkc (fun x hx=>.inl hx);obtain ⟨T,hT⟩ : ∃ T,g4 S O = T:=⟨_,rfl⟩
      rw [hT] at hmem hsmS hlen hownc ⊢;have Hmem:=Lib.hid hmem;have Hall:=Lib.hid hall;clear hT hall hmem hp hSX hown hR hb;(go_wp2_with fail);clear hclr hrun hcr0;go_loopw [33] (fun i wr=>∃ k : Nat,k ≤ T.length ∧ i = .int .i64 k ∧ rB wr bl (T.take k) ∧ zC [bl] wS wr ∧ Own wr w0.heap.size 184 34 A T.length cap (T.map zQ)) (fun i _=>T.length - (intOf i).toNat)
      case atStart=>exact ⟨0,Nat.zero_le _,rfl,hlc,hkw,hownc⟩
      case round =>
        obtain ⟨k,hk,rfl,hm,hkr,hownr⟩:=hrel;by_cases hlt : k < T.length
        · obtain ⟨q,o,rfl,hrow⟩:=hownr.slr.at_ hlt;obtain rfl : o = 0:=by
            rcases hownr.addr with e | ⟨g',e⟩
            · cases e
            · injection e with e;injection e
          rw [Nat.zero_add,List.getElem_map] at hrow;have hxs : bX (T[k]'hlt):=hsmS _ (List.getElem_mem _);have htk : T.take (k + 1) = T.take k ++ [T[k]'hlt]:=by rw [List.take_add_one,List.getElem?_eq_getElem hlt];rfl
          obtain ⟨x,hx⟩ : ∃ x,T[k]'hlt = x:=⟨_,rfl⟩
          rw [hx] at hrow hxs htk;have Htk:=Lib.hid htk;clear hx htk;have hbx : Below wr.heap.size wr (wr.alloc (.cells (zQ x) 184)):=(Below.refl _ _).alloc (Nat.le_refl _) _;have hm1:=xA.below hm hbx;have hownx:=hownr.below hbx;have hcx:=(hbx.cell (p:=⟨g,0,none⟩) (show g < wr.heap.size by have:=hkr.size;omega)).trans ((hkr.cell (p:=⟨g,0,none⟩) hgl (by simpa using hgbl)).trans hc0);have hrx : zF (wr.alloc (.cells (zQ x) 184)) wr.heap.size 0 34 = some (zQ x):=by simp [go_sem]
          have hkx : zC [bl] wS (wr.alloc (.cells (zQ x) 184)):=zC.trans hkr (zC.of_below hbx) (by simp);have hszr:=hkr.size;go_upto_region 10 with fail
          obtain ⟨W1,hW1⟩ : ∃ W1,W1 = wr.alloc (.cells (zQ x) 184):=⟨_,rfl⟩
          rw [← hW1] at hm1 hownx hcx hrx hkx ⊢;clear hW1;obtain ⟨w2,hrun,hm2,hk2⟩:=mput (x:=x) (hm1.kept (zC.drew W1) (by simp)) hxs;have hgb : g ∉ [bl]:=by simpa using hgbl
          refine zE (Kp [bl] W1) false (by kernel_rfl) (by kernel_rfl) (by kernel_rfl) (yB [bl] W1) ?_;have hne:=xD [bl] W1;have hS:=yB [bl] W1;have b1:=zZ hcx hgb;have b2:=yP hrx (S:=[bl]) (by simp;omega);repeat (refine zB ?_ ?_;(focus (simp only [zA];done));intro K hK;go_simp;refine hK _ ?_;clear hK K)
          refine zH ?_ ?_ ?_;(focus (exact hS));(focus (simp only [zA];done));intro K hK;go_simp;refine zY (jF hS hk2 (by simp)) (fun hS=>?_);refine hK _ _ ?_;clear hK K;refine zN ?_;intro hS;have hS' : zC [bl] W1 w2:=hS;have hownn:=hownx.kept hS' (fun y hy=>by have:=(hownr.at_base hy).1;simp;omega);have hkn:=zC.trans hkx hS' (fun x hx=>.inl hx);clear b1 b2 hne hS hk2 hrun hcx hrx;(go_wp2_with fail);go_roundw
          case rel=>exact ⟨k + 1,by omega,by go_num,xA.congr hm2 (fun y=>by rw [Htk.out];simp [or_comm]),hkn,hownn⟩
          case measure=>simp [intOf];omega
        · have e2 : T.take k = T:=List.take_of_length_le (by omega);rw [e2] at hm;(go_wp2_with fail);go_end0;exact ⟨rfl,xA.congr hm Hmem.out,hkr⟩
    · have hSn : (g4 S O).length + 1 ≤ 1000000:=by
        obtain ⟨M,Z,hZ,hks,_,hZS,hnd⟩:=hR1;have h1:=hZ.length;have h2 : (Z.map (·.1)).length = (S ++ [x]).length:=by rw [hZS]
        have h3 : (M.map (·.1)).length ≤ X.length:=vV hnd (fun y hy=>(hks y).1 hy);have h4 : (g4 S O).length ≤ S.length:=List.length_filter_le _ _;simp at h2 h3;omega
      have hl5 : g4 (S ++ [x]) O = if x.id ∈ O then g4 S O else g4 S O ++ [x]:=by
        unfold g4;rw [List.filter_append];by_cases e : x.id ∈ O <;> simp [e]
      have hown1:=hown.kept hk1 (fun y hy=>by have:=(hown.at_base hy).1;simp;omega);have hb1 : Below wS.heap.size wS w1:=hb.trans (hk1.below (B:=wS.heap.size) (by omega) (by simp));have hbx : Below w1.heap.size w1 (w1.alloc (.cells (zQ x) 184)):=(Below.refl _ _).alloc (Nat.le_refl _) _;have hR2:=hR1.kept (zC.of_below hbx) (by simp) (by simp);have hl2 : (w1.alloc (.cells (zQ x) 184)).rangeLeft bl wS.heap.size = w1.rangeLeft bl wS.heap.size:=x6 (zC.of_below hbx) (by simp) (by simp) hR1.lt.2 hR1.lt.1;have hown2:=hown1.below hbx;have hsz1 : w0.heap.size ≤ w1.heap.size:=by omega
      have hszw : wS.heap.size ≤ w1.heap.size:=by omega
      have hb2 : Below wS.heap.size wS (w1.alloc (.cells (zQ x) 184)):=hb1.trans (hbx.mono hszw);have hrx : zF (w1.alloc (.cells (zQ x) 184)) w1.heap.size 0 34 = some (zQ x):=by simp [go_sem]
      have hcx:=(hb2.cell (p:=⟨g,1,none⟩) hgl).trans hc1;have ho2 : dD (w1.alloc (.cells (zQ x) 184)) bo O:=ho.kept (zC.of_below (hb2.mono (Nat.le_refl _))) (by simp);have hsz2 : w0.heap.size ≤ (w1.alloc (.cells (zQ x) 184)).heap.size:=by simp;omega
      change (Instr.next _ _ _).run Tryz.prog wr = .ok (.tuple #[.bool true,.agg (zQ x),.bool true]) w1 at hrun;change (Instr.entry _).run Tryz.prog w1 = .ok (.tuple #[.agg (zQ x),.bool true]) w1 at hen;have Hl5:=Lib.hid hl5;clear hown hb hk1 hs1 hR1 hown1 hb1 hbx hl5;go_upto_region 4 with fail
      obtain ⟨W1,hW1⟩ : ∃ W1,W1 = w1.alloc (.cells (zQ x) 184):=⟨_,rfl⟩
      obtain ⟨gx,hgx⟩ : ∃ gx,w1.heap.size = gx:=⟨_,rfl⟩
      rw [hgx] at hrx;rw [← hW1] at hR2 hl2 hown2 hb2 hrx hcx ho2 hsz2 ⊢;have hxi : zF W1 gx 0 32 = some (idC x.id):=by have:=y7 hrx (j:=0) (m:=32) (by omega);rwa [g1] at this
      have hk : ∀ y : Subtype (Bel W1),(Instr.lookup 75 (.map (some bo)) (.agg (idC x.id)) false).run Tryz.prog y.1 = .ok (.bool (decide (x.id ∈ O))) y.1:=fun y=>KI (ho2.below y.2);obtain ⟨r,hrr⟩ : ∃ r,decide (x.id ∈ O) = r:=⟨_,rfl⟩
      rw [hrr] at hk;have Hrr:=Lib.hid hrr;clear hrun hen hW1 hrr;refine zE (Bel W1) false (by kernel_rfl) (by kernel_rfl) (by kernel_rfl) (zG W1) ?_;have hne:=zX W1;have hS:=zG W1;have b1:=zT hcx;have b2:=yD hxi;repeat (refine zB ?_ ?_;(focus (simp only [zA];done));intro K hK;go_simp;refine hK _ ?_;clear hK K)
      refine zN ?_;intro hS;have hR3 : jD W1.drew bl wS.heap.size dX okM X (S ++ [x]):=hR2.kept (zC.drew W1) (by simp) (by simp);have hl3 : W1.drew.rangeLeft bl wS.heap.size = W1.rangeLeft bl wS.heap.size:=x6 (zC.drew W1) (by simp) (by simp) hR2.lt.2 hR2.lt.1;have hown3:=hown2.kept (zC.drew W1) (by simp);have hb3 : Below wS.heap.size wS W1.drew:=hb2.drew;have hrx3 : zF W1.drew gx 0 34 = some (zQ x):=hrx;have hsz3 : w0.heap.size ≤ W1.drew.heap.size:=hsz2;clear b1 b2 hne hS hk hcx hxi hrx hown2 hb2 hR2 ho2 hsz2;obtain ⟨W2,hW2⟩ : ∃ W2,W1.drew = W2:=⟨_,rfl⟩
      rw [hW2] at hR3 hl3 hown3 hb3 hrx3 hsz3 ⊢;clear hW2;cases r with
      | true =>
        have hin : x.id ∈ O:=of_decide_eq_true Hrr.out;have e5:=Hl5.out;rw [if_pos hin] at e5;have E5:=Lib.hid e5;clear e5 hin;(go_wp2_with fail);go_roundw
        case rel=>exact ⟨S ++ [x],A,cap,by rw [E5.out],hR3,by rw [E5.out];exact hown3,hb3,hsz3⟩
        case measure=>omega
      | false =>
        have hin : x.id ∉ O:=of_decide_eq_false Hrr.out;have e5:=Hl5.out;rw [if_neg hin] at e5;have E5:=Lib.hid e5;clear e5 hin;have hb4 : Below W2.heap.size W2 (W2.alloc (.cells (zQ x) 184)):=(Below.refl _ _).alloc (Nat.le_refl _) _;have hown4:=hown3.below hb4;have hrow4 : zF (W2.alloc (.cells (zQ x) 184)) W2.heap.size 0 34 = some (zQ x):=by simp [go_sem]
        go_wp2_with (at_builtin;refine x8 lM rfl hown4 rfl hrow4 (qY _) (by omega) (by omega) (by simp;omega) ?_;intro A' cap' w5 hownA hkA hsubA)
        have hbA : bl ∉ blk A:=fun hx=>(by have:=(hown3.at_base hx).1;omega);have hrA : wS.heap.size ∉ blk A:=fun hx=>(by have:=(hown3.at_base hx).1;omega);have hR4:=hR3.kept (zC.of_below hb4) (by simp) (by simp);have hR5:=hR4.kept hkA hbA hrA;have hl5' : w5.rangeLeft bl wS.heap.size = W2.rangeLeft bl wS.heap.size :=
          (x6 hkA hbA hrA hR4.lt.2 hR4.lt.1).trans (x6 (zC.of_below hb4) (by simp) (by simp) hR3.lt.2 hR3.lt.1)
        have hsz5 : w0.heap.size ≤ w5.heap.size:=by
          have e1:=hb4.size;have e2:=hkA.size;omega
        have hb5 : Below wS.heap.size wS w5:=hb3.trans ((hb4.mono (by omega)).trans (hkA.below (B:=wS.heap.size) (by simp;omega) fun y hy=>by have:=(hown3.at_base hy).1;omega));(go_wp2_with fail);go_roundw
        case rel=>exact ⟨S ++ [x],A',cap',by rw [E5.out];simp,hR5,by rw [E5.out];simpa using hownA,hb5,hsz5⟩
        case measure=>omega
end
section
open Go.RowKit
def dM (O T : List zK) : List zK:=T.foldl (xJ zO) O
theorem n8 {O T : List zK} (h : Ris zO O) : Ris zO (dM O T):=(g7 xP T O h).1
theorem iN {O T : List zK} (h : Ris zO O) {x : zK} : x ∈ dM O T ↔ x ∈ O ∨ x ∈ T:=(g7 xP T O h).2 x
theorem XW (O T : List zK) (t : zK) : dM O (T ++ [t]) = xJ zO (dM O T) t:=by simp [dM]
theorem aD {w : World} {g o k b : Nat} {cs : Array Value} {κ : Type} {kv : κ → Value} {ok : κ → Prop} {X : List κ} (h : zF w g o k = some cs) (hs : xA w b kv ok X) : g ≠ b:=by
  rintro rfl;obtain ⟨M,es,clk,hm,_⟩:=hs;unfold zF at h;rw [hm.heap] at h;cases h
def pW (X : List xT) (O : List zK) (x : xT) (T : List zK) : List xT:=g4 (xJ qN X x) (dM O T)
set_option maxRecDepth 100000 in
set_option maxHeartbeats 2000000 in
theorem mset (d : zK) (key val : ByteArray) (A : Option Addr) (n cap : Nat) (T : List zK) (w : World) (g bl bo : Nat) (X : List xT) (O : List zK) (h : q4 w g bl bo X O) (hT : y4 w A n T) (hks : key.size ≤ 16) (hvs : val.size ≤ 16) (hn : n ≤ 1000000) (hX : X.length < 1000000) :
    Calls Tryz.prog 141 #[.pointer (some ⟨g,0,none⟩),.agg (idC d),.string key,.string val,.slice A n cap] w fun e w'=>e = .returned (.int .i64 0) ∧ q4 w' g bl bo (pW X O ⟨d,key,val⟩ T) (dM O T) ∧ zC [bl,bo] w w':=by
  have hlen:=hT.len;have Hlen:=Lib.hid hlen;have hb0 : Below w.heap.size w (w.alloc (.cells (idC d) 39)):=(Below.refl _ _).alloc (Nat.le_refl _) _;have h0:=h.below hb0;have hr0 : zF (w.alloc (.cells (idC d) 39)) w.heap.size 0 32 = some (idC d):=by simp [go_sem]
  have hsm : bX ⟨d,key,val⟩:=⟨hks,hvs⟩
  have hgl:=h.lt;clear hlen;go_enter Tryz.func141,Tryz.ntmps141
  go_upto_region 1 with fail
  obtain ⟨ga,hga⟩ : ∃ ga,w.heap.size = ga:=⟨_,rfl⟩
  have Hga:=Lib.hid hga;rw [hga] at hr0 hgl hb0 ⊢;obtain ⟨W0,hW0⟩ : ∃ W0,W0 = w.alloc (.cells (idC d) 39):=⟨_,rfl⟩
  rw [← hW0] at h0 hr0 hb0 ⊢;clear hW0 hga;(go_wp2_with fail);refine (wT W0 g bl h0.cell0).mono ?_;rintro e w1 ⟨rfl,rfl⟩;go_upto_region 6 with fail
  have hgb : g ∉ [bl]:=by simpa using h0.nel
  have hc0:=h0.cell0;obtain ⟨w2,hrun,hm2,hk2⟩:=mput (x:=⟨d,key,val⟩) (h0.live.kept (zC.drew W0) (by simp)) hsm;refine zE (Kp [bl] W0) false (by kernel_rfl) (by kernel_rfl) (by kernel_rfl) (yB [bl] W0) ?_;have hne:=xD [bl] W0;have hS:=yB [bl] W0;have b1:=zZ hc0 hgb;have b2:=yP hr0 (S:=[bl]) (by simp;omega);repeat (refine zB ?_ ?_;(focus (simp only [zA];done));intro K hK;go_simp;refine hK _ ?_;clear hK K)
  refine zH ?_ ?_ ?_;(focus (exact hS));(focus (simp only [zA];done));intro K hK;go_simp;refine zY (jF hS hk2 (by simp)) (fun hS=>?_);refine hK _ _ ?_;clear hK K;refine zN ?_;intro hS;have hS' : zC [bl] W0 w2:=hS;have hblk2:=(hS'.block g h0.lt.1 hgb).trans h0.blk;have ho2 : dD w2 bo O:=h0.over.kept hS' (by simpa using fun e=>h0.ne e.symm);have hK2 : zC [bl,bo] w w2:=zC.trans ((zC.of_below (hb0.mono (by rw [Hga.out];exact Nat.le_refl _))).mono (S':=[bl,bo]) (by simp)) (hS'.mono (S':=[bl,bo]) (by simp)) (fun x hx=>.inl hx);have hm3 : rB w2 bl (xJ qN X ⟨d,key,val⟩):=xA.congr hm2 (fun y=>by rw [qA fS,List.mem_cons]);have hrisX:=jP fS (x:=⟨d,key,val⟩) h.risX;have hsmX : ∀ y ∈ xJ qN X ⟨d,key,val⟩,bX y:=fun y hy=>by
    rcases (qA fS).1 hy with e | hy
    · rw [e];exact hsm
    · exact h.sm y hy
  have hlX : (xJ qN X ⟨d,key,val⟩).length ≤ 1000000:=by have:=jC (c:=qN) X ⟨d,key,val⟩;omega
  have Hset : Hid (pW X O ⟨d,key,val⟩ T = g4 (xJ qN X ⟨d,key,val⟩) (dM O T)):=rfl;obtain ⟨X1,hX1⟩ : ∃ X1,xJ qN X ⟨d,key,val⟩ = X1:=⟨_,rfl⟩
  rw [hX1] at hm3 hrisX hsmX hlX Hset;have hgne:=h.nel;have hgno:=h.neo;have hlne:=h.ne;have hro:=h.risO;have hlive:=h.live;have hover:=h.over;clear hX1 b1 b2 hne hS hk2 hrun hr0 hc0 hS' h0 hb0 hm2 hX;(go_wp2_with fail);go_loopw [33] (fun i wr=>∃ k : Nat,k ≤ n ∧ i = .int .i64 k ∧ rB wr bl X1 ∧ dD wr bo (dM O (T.take k)) ∧ zC [bl,bo] w wr) (fun i _=>n - (intOf i).toNat)
  case atStart=>exact ⟨0,Nat.zero_le _,rfl,hm3,ho2,hK2⟩
  case round =>
    obtain ⟨k,hk,rfl,hm,ho,hkr⟩:=hrel;have hcr1 : wr.cell? ⟨g,1,none⟩ = some (.map (some bo)):=(hkr.cell (p:=⟨g,1,none⟩) (show g < w.heap.size by have:=Hga.out;omega) (by simp;omega)).trans h.cell1;have hblkr:=(hkr.block g (by have:=Hga.out;omega) (by simp;omega)).trans h.blk;by_cases hlt : k < n
    · obtain ⟨q,o,rfl,hrow⟩:=hT.get hlt (by rw [Hlen.out];exact hlt);have hql : q ≠ bl:=aD hrow hlive;have hqo : q ≠ bo:=aD hrow hover;have hrr : zF wr q (o + k * 32) 32 = some (idC (T[k]'(by rw [Hlen.out];exact hlt))):=(hkr.row (zL hrow) (by simp [hql,hqo]) _ _).trans hrow;have htk : T.take (k + 1) = T.take k ++ [T[k]'(by rw [Hlen.out];exact hlt)]:=by rw [List.take_add_one,List.getElem?_eq_getElem (by rw [Hlen.out];exact hlt)];rfl
      obtain ⟨x,hx⟩ : ∃ x,T[k]'(by rw [Hlen.out];exact hlt) = x:=⟨_,rfl⟩
      rw [hx] at hrr htk;have Htk:=Lib.hid htk;clear hx htk hrow;have hbx : Below wr.heap.size wr (wr.alloc (.cells (idC x) 39)):=(Below.refl _ _).alloc (Nat.le_refl _) _;have hm1:=xA.below hm hbx;have ho1:=xA.below ho hbx;have hcx:=(hbx.cell (p:=⟨g,1,none⟩) (World.block_lt_of_cell? wr _ hcr1)).trans hcr1;have hrx : zF (wr.alloc (.cells (idC x) 39)) wr.heap.size 0 32 = some (idC x):=by simp [go_sem]
      have hkx : zC [bl,bo] w (wr.alloc (.cells (idC x) 39)):=zC.trans hkr (zC.of_below hbx) (by simp);have hbol : bo < wr.heap.size:=ho.lt;go_upto_region 10 with fail
      obtain ⟨W1,hW1⟩ : ∃ W1,W1 = wr.alloc (.cells (idC x) 39):=⟨_,rfl⟩
      rw [← hW1] at hm1 ho1 hcx hrx hkx ⊢;clear hW1;obtain ⟨w5,hrun,ho5,hk5⟩:=iput (x:=x) (ho1.kept (zC.drew W1) (by simp));have hgbo : g ∉ [bo]:=by simpa using hgno
      refine zE (Kp [bo] W1) false (by kernel_rfl) (by kernel_rfl) (by kernel_rfl) (yB [bo] W1) ?_;have hne:=xD [bo] W1;have hS:=yB [bo] W1;have b1:=zZ hcx hgbo;have b2:=yP hrx (S:=[bo]) (by simp;omega);repeat (refine zB ?_ ?_;(focus (simp only [zA];done));intro K hK;go_simp;refine hK _ ?_;clear hK K)
      refine zH ?_ ?_ ?_;(focus (exact hS));(focus (simp only [zA];done));intro K hK;go_simp;refine zY (jF hS hk5 (by simp)) (fun hS=>?_);refine hK _ _ ?_;clear hK K;refine zN ?_;intro hS;have hS' : zC [bo] W1 w5:=hS;have hm5:=hm1.kept hS' (by simpa using hlne);have hkn : zC [bl,bo] w w5:=zC.trans hkx (hS'.mono (S':=[bl,bo]) (by simp)) (fun x hx=>.inl hx);have ho6 : dD w5 bo (dM O (T.take (k + 1))):=xA.congr ho5 (fun y=>by rw [Htk.out,XW,qA xP,List.mem_cons]);clear b1 b2 hne hS hk5 hrun hcx hrx ho5 hS' hm1 ho1;(go_wp2_with fail);go_roundw
      case rel=>exact ⟨k + 1,by omega,by go_num,hm5,ho6,hkn⟩
      case measure=>simp [intOf];omega
    · have e2 : T.take k = T:=List.take_of_length_le (by rw [Hlen.out];omega);rw [e2] at ho;have csw:=msweep wr g bl bo X1 (dM O T) hblkr hm ho hlne hrisX hsmX hlX;clear e2 hcr1;(go_wp2_with fail);refine csw.mono ?_;rintro e w6 ⟨rfl,hm6,hk6⟩;have hblk6:=(hk6.block g (by have:=(Array.getElem?_eq_some_iff.1 hblkr).1;exact this) (by simpa using hgne)).trans hblkr;have ho6:=ho.kept hk6 (by simpa using fun e=>hlne e.symm);have hfin : q4 w6 g bl bo (pW X O ⟨d,key,val⟩ T) (dM O T):=by
        rw [Hset.out];exact ⟨hblk6,hm6,ho6,hlne,hrisX.filter _,n8 hro,fun y hy=>hsmX y (List.mem_filter.1 hy).1,fun y hy=>by have:=(List.mem_filter.1 hy).2;simpa using this⟩
      have hkf : zC [bl,bo] w w6:=zC.trans hkr (hk6.mono (S':=[bl,bo]) (by simp)) (fun x hx=>.inl hx);clear csw hm6 hk6 hblk6 ho6 hblkr hm ho hkr;(go_wp2_with fail);go_ret;exact ⟨rfl,hfin,hkf⟩
end
section
section
variable {ι ν : Type} (kid : ι → List ν) (idn : ν → ι) (N : List ν) (refn : ν → ι) (z : ι)
def bW : Nat → ι → List ν
  | 0,_=>[]
  | k + 1,r=>(kid r).flatMap fun c=>c :: bW k (idn c)
def Deep : Nat → ι → Prop
  | 0,_=>False
  | k + 1,r=>∀ c ∈ kid r,Deep k (idn c)
def workL : Nat → List ν → List ν
  | 0,_=>[]
  | _ + 1,[]=>[]
  | k + 1,n :: row=>n :: workL k (kid (idn n) ++ row)
def bL (k : Nat) (row : List ν) : List ν:=row.flatMap fun c=>c :: bW kid idn k (idn c)
variable {kid idn N refn z}
theorem tV : ∀ {k : Nat} {r : ι},Deep kid idn k r → Deep kid idn (k + 1) r
  | 0,_,h=>h.elim
  | _ + 1,_,h=>fun c hc=>tV (h c hc)
theorem cL : ∀ {k : Nat} {r : ι},Deep kid idn k r → bW kid idn (k + 1) r = bW kid idn k r
  | 0,_,h=>h.elim
  | k + 1,r,h=>by
    show (kid r).flatMap _ = (kid r).flatMap _;have : ∀ l : List ν,(∀ c ∈ l,Deep kid idn k (idn c)) → l.flatMap (fun c=>c :: bW kid idn (k + 1) (idn c)) = l.flatMap (fun c=>c :: bW kid idn k (idn c)):=by
      intro l;induction l with
      | nil=>intro _;rfl
      | cons c l ih =>
        intro hl;rw [List.flatMap_cons,List.flatMap_cons,cL (hl c (by simp)),ih (fun d hd=>hl d (by simp [hd]))]
    exact this _ h
theorem lF {k : Nat} {n : ν} {row : List ν} (hn : Deep kid idn k (idn n)) : bL kid idn k (n :: row) = n :: bL kid idn k (kid (idn n) ++ row):=by
  cases k with
  | zero=>exact hn.elim
  | succ k =>
    unfold bL;rw [List.flatMap_cons,List.flatMap_append,List.cons_append];congr 2
    show (kid (idn n)).flatMap _ = _;have h2 : bW kid idn (k + 1 + 1) (idn n) = bW kid idn (k + 1) (idn n):=cL hn;exact h2.symm
theorem sM {k : Nat} {n : ν} (hn : Deep kid idn k (idn n)) : ∀ c ∈ kid (idn n),Deep kid idn k (idn c):=by
  cases k with
  | zero=>exact hn.elim
  | succ k=>exact fun c hc=>tV (hn c hc)
inductive aY (kid : ι → List ν) (idn : ν → ι) (z : ι) : List ι → Prop
  | root : aY kid idn z [z]
  | step {r : ι} {p : List ι} {c : ν} (h : aY kid idn z (r :: p)) (hc : c ∈ kid r) : aY kid idn z (idn c :: r :: p)
theorem ZU (hid : ∀ a ∈ N,∀ b ∈ N,idn a = idn b → a = b) (hk : ∀ r,∀ c ∈ kid r,c ∈ N ∧ refn c = r) (hz : ∀ a ∈ N,idn a ≠ z) {q : List ι} (h : aY kid idn z q) {c : ν} (hc : c ∈ N) (hm : idn c ∈ q) :
    ∃ s t,q = s ++ idn c :: refn c :: t:=by
  induction h with
  | root=>simp at hm;exact absurd hm (hz c hc)
  | @step r p d h hd ih =>
    by_cases e : idn c = idn d
    · obtain ⟨hdN,hdr⟩:=hk _ _ hd;have:=hid c hc d hdN e;subst this;exact ⟨[],p,by simp [hdr]⟩
    · rcases List.mem_cons.1 hm with h1 | h1
      · exact absurd h1 e
      · obtain ⟨s,t,hq⟩:=ih h1;exact ⟨idn d :: s,t,by rw [hq];rfl⟩
theorem ZV (hid : ∀ a ∈ N,∀ b ∈ N,idn a = idn b → a = b) (hk : ∀ r,∀ c ∈ kid r,c ∈ N ∧ refn c = r) (hz : ∀ a ∈ N,idn a ≠ z) {q : List ι} (h : aY kid idn z q) : q.Nodup:=by
  induction h with
  | root=>simp
  | @step r p d h hd ih =>
    refine List.nodup_cons.2 ⟨fun hm=>?_,ih⟩;obtain ⟨hdN,hdr⟩:=hk _ _ hd;obtain ⟨s,t,hq⟩:=ZU hid hk hz h hdN hm;rw [hdr] at hq;rw [hq] at ih;cases s with
    | nil =>
      simp only [List.nil_append] at ih hq;injection hq with h1 h2
      rw [← h1] at ih;simp at ih
    | cons a s =>
      injection hq with h1 h2
      rw [← h1] at ih;simp at ih
theorem VV (hk : ∀ r,∀ c ∈ kid r,c ∈ N ∧ refn c = r) {q : List ι} (h : aY kid idn z q) : ∀ x ∈ q,x ∈ z :: N.map idn:=by
  induction h with
  | root=>simp
  | @step r p d h hd ih =>
    intro x hx;rcases List.mem_cons.1 hx with e | hx
    · subst e;exact List.mem_cons.2 (.inr (List.mem_map.2 ⟨d,(hk _ _ hd).1,rfl⟩))
    · exact ih x hx
theorem mU {α : Type} : ∀ {S M : List α},S.Nodup → (∀ x ∈ S,x ∈ M) → S.length ≤ M.length
  | [],M,_,_=>Nat.zero_le _
  | x :: S,M,hn,hs=>by
    classical
    obtain ⟨h1,h2⟩:=List.nodup_cons.1 hn;have:=mU (M:=M.erase x) h2 (fun y hy=>(List.mem_erase_of_ne (fun e=>h1 (by rw [← e];exact hy))).2 (hs y (by simp [hy])));rw [List.length_erase_of_mem (hs x (by simp))] at this;have h3:=List.length_pos_of_mem (hs x (by simp));simp only [List.length_cons];omega
theorem sK (hid : ∀ a ∈ N,∀ b ∈ N,idn a = idn b → a = b) (hk : ∀ r,∀ c ∈ kid r,c ∈ N ∧ refn c = r) (hz : ∀ a ∈ N,idn a ≠ z) :
    ∀ (f : Nat) (r : ι) (p : List ι),aY kid idn z (r :: p) → N.length + 1 < f + (r :: p).length → Deep kid idn f r
  | 0,r,p,h,hf=>by
    have:=mU (ZV hid hk hz h) (VV hk h);simp only [List.length_cons,List.length_map] at this hf;omega
  | f + 1,r,p,h,hf=>fun c hc=>sK hid hk hz f _ _ (h.step hc) (by simp only [List.length_cons] at hf ⊢;omega)
theorem QP (hid : ∀ a ∈ N,∀ b ∈ N,idn a = idn b → a = b) (hk : ∀ r,∀ c ∈ kid r,c ∈ N ∧ refn c = r) (hz : ∀ a ∈ N,idn a ≠ z) : Deep kid idn (N.length + 1) z :=
  sK hid hk hz _ z [] aY.root (by simp)
theorem iC {k : Nat} (h : Deep kid idn k z) : bW kid idn k z = bL kid idn k (kid z):=by
  rw [← cL h];rfl
theorem cM {k : Nat} {r : ι} (h : Deep kid idn k r) : ∀ j,bW kid idn (k + j) r = bW kid idn k r ∧ Deep kid idn (k + j) r
  | 0=>⟨rfl,h⟩
  | j + 1=>by
    obtain ⟨h1,h2⟩:=cM h j;exact ⟨(cL h2).trans h1,tV h2⟩
theorem pre_any {k m : Nat} {r : ι} (h : Deep kid idn k r) (h' : Deep kid idn m r) : bW kid idn k r = bW kid idn m r:=by
  rw [← (cM h m).1,Nat.add_comm,(cM h' k).1]
structure gX (N : List ν) (idn : ν → ι) (refn : ν → ι) (z : ι) (out row : List ν) : Prop where
  nodup : (out ++ row).Nodup
  sub : ∀ x ∈ out ++ row,x ∈ N
  par : ∀ x ∈ out ++ row,refn x = z ∨ ∃ y ∈ out,idn y = refn x
theorem gX.step (hid : ∀ a ∈ N,∀ b ∈ N,idn a = idn b → a = b) (hk : ∀ r,∀ c ∈ kid r,c ∈ N ∧ refn c = r) (hz : ∀ a ∈ N,idn a ≠ z) (hkn : ∀ r,(kid r).Nodup) {out row : List ν} {n : ν} (h : gX N idn refn z out (n :: row)) :
    gX N idn refn z (out ++ [n]) (kid (idn n) ++ row):=by
  have hnN : n ∈ N:=h.sub n (by simp);have hno : n ∉ out:=fun hm=>by
    have:=h.nodup;rw [List.nodup_append] at this;exact this.2.2 n hm n (by simp) rfl
  have hdis : ∀ x ∈ kid (idn n),x ∉ out ++ n :: row:=by
    intro x hx hm;obtain ⟨hxN,hxr⟩:=hk _ x hx;rcases h.par x hm with e | ⟨y,hy,e⟩
    · exact hz n hnN (hxr.symm.trans e)
    · rw [hxr] at e;have:=hid y (h.sub y (List.mem_append.2 (.inl hy))) n hnN e;subst this;exact hno hy
  have hp : (out ++ [n] ++ (kid (idn n) ++ row)).Perm (kid (idn n) ++ (out ++ n :: row)):=by
    have : out ++ [n] ++ (kid (idn n) ++ row) = (out ++ [n]) ++ kid (idn n) ++ row:=by simp
    rw [this];have e2 : kid (idn n) ++ (out ++ n :: row) = kid (idn n) ++ (out ++ [n]) ++ row:=by simp
    rw [e2];exact List.Perm.append_right _ List.perm_append_comm
  refine ⟨hp.nodup_iff.2 ?_,fun x hx=>?_,fun x hx=>?_⟩
  · rw [List.nodup_append];exact ⟨hkn _,h.nodup,fun a ha b hb e=>by subst e;exact hdis a ha hb⟩
  · rcases List.mem_append.1 (hp.mem_iff.1 hx) with hx | hx
    · exact (hk _ x hx).1
    · exact h.sub x hx
  · rcases List.mem_append.1 (hp.mem_iff.1 hx) with hx | hx
    · exact .inr ⟨n,by simp,(hk _ x hx).2.symm⟩
    · rcases h.par x hx with e | ⟨y,hy,e⟩
      · exact .inl e
      · exact .inr ⟨y,by simp [hy],e⟩
theorem gX.all (hid : ∀ a ∈ N,∀ b ∈ N,idn a = idn b → a = b) (hk : ∀ r,∀ c ∈ kid r,c ∈ N ∧ refn c = r) (hz : ∀ a ∈ N,idn a ≠ z) (hkn : ∀ r,(kid r).Nodup) {k : Nat} :
    ∀ (m : Nat) {out row : List ν},gX N idn refn z out row → (∀ c ∈ row,Deep kid idn k (idn c)) → (bL kid idn k row).length = m → (out ++ bL kid idn k row).Nodup ∧ ∀ x ∈ out ++ bL kid idn k row,x ∈ N
  | m,out,[],h,_,_=>⟨by simpa [bL] using h.nodup,fun x hx=>h.sub x (by simpa [bL] using hx)⟩
  | 0,out,n :: row,h,hd,hm=>by rw [lF (hd n (by simp))] at hm;simp at hm
  | m + 1,out,n :: row,h,hd,hm=>by
    have hn:=hd n (by simp);rw [lF hn] at hm ⊢;have:=gX.all hid hk hz hkn m (h.step hid hk hz hkn) (fun c hc=>by
      rcases List.mem_append.1 hc with hc | hc
      · exact sM hn c hc
      · exact hd c (by simp [hc])) (by simpa using hm)
    simpa using this
theorem gX.root (hk : ∀ r,∀ c ∈ kid r,c ∈ N ∧ refn c = r) (hkn : ∀ r,(kid r).Nodup) : gX N idn refn z [] (kid z) :=
  ⟨by simpa using hkn z,fun x hx=>(hk z x (by simpa using hx)).1,fun x hx=>.inl (hk z x (by simpa using hx)).2⟩
theorem XX (hid : ∀ a ∈ N,∀ b ∈ N,idn a = idn b → a = b) (hk : ∀ r,∀ c ∈ kid r,c ∈ N ∧ refn c = r) (hz : ∀ a ∈ N,idn a ≠ z) (hkn : ∀ r,(kid r).Nodup) {k : Nat} (h : Deep kid idn k z) :
    (bW kid idn k z).Nodup ∧ ∀ x ∈ bW kid idn k z,x ∈ N:=by
  have hd : ∀ c ∈ kid z,Deep kid idn k (idn c):=by
    cases k with
    | zero=>exact h.elim
    | succ k=>exact fun c hc=>tV (h c hc)
  have:=gX.all hid hk hz hkn _ (gX.root (z:=z) (refn:=refn) (idn:=idn) hk hkn) hd rfl;rw [iC h];simpa using this
end
end
section
open Go.RowKit
structure zW where
  id : zK
  h : Int
  ref : zK
  val : ByteArray
theorem zW.ext' {a b : zW} (h1 : a.id = b.id) (h2 : a.h = b.h) (h3 : a.ref = b.ref) (h4 : a.val = b.val) : a = b:=by cases a;cases b;simp_all
theorem totI : j0 dS where
  zero a b:=by unfold dS;constructor <;> intro h <;> (repeat' split at *) <;> omega
  anti a b:=by unfold dS;(repeat' split) <;> omega
  trans a b d:=by unfold dS;(repeat' split) <;> omega
theorem j0.rev {α : Type} {c : α → α → Int} (T : j0 c) : j0 (fun a b=>c b a) where
  zero a b:=by rw [T.zero];exact ⟨Eq.symm,Eq.symm⟩
  anti a b:=T.anti _ _
  trans a b d h1 h2:=T.trans _ _ _ h2 h1
def b9 (a b : zW) : Int:=orC (dS b.h a.h) (orC (zO b.id a.id) (orC (zO a.ref b.ref) (xS a.val b.val)))
theorem sY : j0 b9 :=
  j0.of (c:=fun (x y : Int × (zK × (zK × ByteArray)))=>orC (dS y.1 x.1) (orC (zO y.2.1 x.2.1) (orC (zO x.2.2.1 y.2.2.1) (xS x.2.2.2 y.2.2.2))))
    (j0.pair (c:=fun a b=>dS b a) totI.rev (j0.pair (c:=fun a b=>zO b a) xP.rev (j0.pair xP l9))) (fun n=>(n.h,n.id,n.ref,n.val))
    (fun x y h=>by simp only [Prod.mk.injEq] at h;exact zW.ext' h.2.1 h.1 h.2.2.1 h.2.2.2) (fun _ _=>rfl)
def tX (a b : zW) : Int:=orC (zO a.id b.id) (orC (dS a.h b.h) (orC (zO a.ref b.ref) (xS a.val b.val)))
theorem mS : j0 tX :=
  j0.of (c:=fun (x y : zK × (Int × (zK × ByteArray)))=>orC (zO x.1 y.1) (orC (dS x.2.1 y.2.1) (orC (zO x.2.2.1 y.2.2.1) (xS x.2.2.2 y.2.2.2))))
    (j0.pair xP (j0.pair totI (j0.pair xP l9))) (fun n=>(n.id,n.h,n.ref,n.val))
    (fun x y h=>by simp only [Prod.mk.injEq] at h;exact zW.ext' h.1 h.2.1 h.2.2.1 h.2.2.2) (fun _ _=>rfl)
def t7 (ah : Int) (a : zK) (bh : Int) (b : zK) : Bool:=if ah = bh then decide (zO a b < 0) else decide (ah < bh)
def Z0 (N : List zW) : Prop:=∀ a ∈ N,∀ b ∈ N,a.id = b.id → a = b
theorem p8 {a b : zW} (h : a.id ≠ b.id) : decide (b9 b a < 0) = t7 a.h a.id b.h b.id:=by
  have hid : zO a.id b.id ≠ 0:=fun e=>h ((dR _ _).1 e);unfold b9 t7 orC dS;by_cases e : a.h = b.h
  · rw [if_pos (by rw [if_neg (by omega),if_neg (by omega)]),if_neg hid,if_pos e]
  · rw [if_neg e];rw [if_neg (by (repeat' split) <;> omega)];by_cases h1 : a.h < b.h
    · rw [if_pos h1];simp [h1]
    · rw [if_neg h1,if_pos (by omega)];simp [h1]
def xV (N : List zW) (r : zK) : List zW:=yA b9 (N.filter fun n=>decide (n.ref = r))
theorem g0 {N : List zW} {r : zK} {n : zW} : n ∈ xV N r ↔ n ∈ N ∧ n.ref = r:=by unfold xV;rw [xL sY];simp
theorem u4 (N : List zW) (r : zK) : Ris b9 (xV N r):=xB sY _
theorem nL {N M : List zW} (h : ∀ n,n ∈ N ↔ n ∈ M) (r : zK) : xV N r = xV M r:=gJ sY fun z=>by simp [h]
theorem QE (N : List zW) (n : zW) (r : zK) : xV (n :: N) r = if n.ref = r then xJ b9 (xV N r) n else xV N r:=by
  refine kC sY (u4 _ _) ?_ fun z=>?_
  · split
    · exact jP sY (u4 _ _)
    · exact u4 _ _
  · rw [g0,List.mem_cons];split
    · rename_i e
      rw [qA sY,g0];constructor
      · rintro ⟨h1 | h1,h2⟩
        · exact .inl h1
        · exact .inr ⟨h1,h2⟩
      · rintro (h1 | ⟨h1,h2⟩)
        · subst h1;exact ⟨.inl rfl,e⟩
        · exact ⟨.inr h1,h2⟩
    · rename_i e
      rw [g0];constructor
      · rintro ⟨h1 | h1,h2⟩
        · subst h1;exact absurd h2 e
        · exact ⟨h1,h2⟩
      · rintro ⟨h1,h2⟩;exact ⟨.inr h1,h2⟩
theorem gQ (N : List zW) (r : zK) : (xV N r).length ≤ N.length:=by
  unfold xV;exact Nat.le_trans (yS _) (List.length_filter_le _ _)
def qW (N : List zW) : List zW:=bW (xV N) zW.id (N.length + 1) id0
def bF (N : List zW) : Prop:=Z0 N ∧ ∀ a ∈ N,a.id ≠ id0
theorem bF.deep {N : List zW} (h : bF N) : Deep (xV N) zW.id (N.length + 1) id0 :=
  QP (N:=N) (refn:=zW.ref) h.1 (fun _ _ hc=>g0.1 hc) h.2
end
section
open Go.RowKit
theorem KE {N M : List zW} (h : ∀ n,n ∈ N ↔ n ∈ M) : xV N = xV M:=funext fun r=>nL h r
theorem bF.congr {N M : List zW} (h : ∀ n,n ∈ N ↔ n ∈ M) (f : bF N) : bF M :=
  ⟨fun a ha b hb e=>f.1 a ((h a).2 ha) b ((h b).2 hb) e,fun a ha=>f.2 a ((h a).2 ha)⟩
theorem cN {N M : List zW} (h : ∀ n,n ∈ N ↔ n ∈ M) (f : bF N) : qW N = qW M:=by
  unfold qW;have h1:=f.deep;have h2:=(f.congr h).deep;rw [KE h] at h1 ⊢;exact pre_any h1 h2
theorem dO {N : List zW} (f : bF N) : (qW N).Nodup ∧ ∀ x ∈ qW N,x ∈ N :=
  XX (refn:=zW.ref) f.1 (fun _ _ hc=>g0.1 hc) f.2 (fun r=>(u4 N r).nodup sY) f.deep
theorem k6 {N : List zW} (f : bF N) : (qW N).length ≤ N.length:=mU (dO f).1 (dO f).2
def bV (N : List zW) (G : List zK) : List ByteArray:=((qW N).filter fun n=>decide (n.id ∉ G)).map zW.val
def kW (n : zW) : Int:=if 16 < n.val.size then 3 else if n.h < 1 ∨ 1073741824 < n.h ∨ n.id = id0 then 5 else 0
def uA (N : List zW) (n : zW) : List zW:=if kW n = 0 then (if n.id ∈ N.map zW.id then N else xJ tX N n) else N
structure jS (N : List zW) : Prop where
  ris : Ris tX N
  one : Z0 N
  ok : ∀ n ∈ N,kW n = 0
theorem kV {n : zW} (h : kW n = 0) : n.id ≠ id0 ∧ n.val.size ≤ 16 ∧ 1 ≤ n.h ∧ n.h ≤ 1073741824:=by
  unfold kW at h;split at h
  · cases h
  · split at h
    · cases h
    · rename_i h1 h2
      refine ⟨fun e=>h2 (.inr (.inr e)),by omega,?_,?_⟩
      · exact Classical.byContradiction fun hh=>h2 (.inl (by omega))
      · exact Classical.byContradiction fun hh=>h2 (.inr (.inl (by omega)))
theorem jS.forest {N : List zW} (h : jS N) : bF N:=⟨h.one,fun a ha=>(kV (h.ok a ha)).1⟩
theorem jS.nil : jS []:=⟨Ris.nil,fun a ha=>by simp at ha,by simp⟩
theorem jS.ins {N : List zW} (h : jS N) (n : zW) : jS (uA N n):=by
  unfold uA;split
  · rename_i hE
    split
    · exact h
    · rename_i hn
      have hne : ∀ a ∈ N,a.id ≠ n.id:=fun a ha e=>hn (List.mem_map.2 ⟨a,ha,e⟩);refine ⟨jP mS h.ris,fun a ha b hb e=>?_,fun a ha=>?_⟩
      · rcases (qA mS).1 ha with ha1 | ha1 <;> rcases (qA mS).1 hb with hb1 | hb1
        · rw [ha1,hb1]
        · rw [ha1] at e;exact absurd e.symm (hne b hb1)
        · rw [hb1] at e;exact absurd e (hne a ha1)
        · exact h.one a ha1 b hb1 e
      · rcases (qA mS).1 ha with ha | ha
        · rw [ha];exact hE
        · exact h.ok a ha
  · exact h
end
section
open Go.RowKit
def uW {α : Type} : List α → Nat → Option α
  | [],_=>none
  | x :: _,0=>some x
  | _ :: l,i + 1=>uW l i
theorem tK {α : Type} : ∀ (l : List α) (i : Nat),uW l i = l[i]?
  | [],_=>rfl
  | _ :: _,0=>rfl
  | _ :: l,i + 1=>by simpa [uW] using tK l i
theorem bM {ops : Array Oper} {i : Nat} {o : Oper} (h : uW ops.toList i = some o) : ops[i]? = some o:=by
  rw [tK] at h;simpa using h
inductive yV where
  | done : yV
  | loose (i : Nat) (n : yV) : yV
  | one (i : Nat) (n : yV) : yV
  | two (i : Nat) (n : yV) (j : Nat) (m : yV) : yV
  | three (i : Nat) (n : yV) (j : Nat) (m : yV) (k : Nat) (l : yV) : yV
def yV.depth : yV → Nat
  | .done=>0
  | .loose _ n=>n.depth + 1
  | .one _ n=>n.depth + 1
  | .two _ n _ m=>max n.depth m.depth + 1
  | .three _ n _ m _ l=>max (max n.depth m.depth) l.depth + 1
def yV.ok (md : Region.Mode) (ops : Array Oper) : yV → Array Bool → Bool
  | .done,listed=>(Region.ready md ops listed).isEmpty
  | .loose i n,listed=>(Region.ready md ops listed).contains i && Region.free md ops listed i && n.ok md ops (listed.setIfInBounds i true)
  | .one i n,listed=>(Region.ready md ops listed == [i]) && n.ok md ops (listed.setIfInBounds i true)
  | .two i n j m,listed=>(Region.ready md ops listed == [i,j]) && n.ok md ops (listed.setIfInBounds i true) && m.ok md ops (listed.setIfInBounds j true)
  | .three i n j m k l,listed=>(Region.ready md ops listed == [i,j,k]) && n.ok md ops (listed.setIfInBounds i true) && m.ok md ops (listed.setIfInBounds j true) && l.ok md ops (listed.setIfInBounds k true)
def vA (md : Region.Mode) (cv : Bool) (ops : Array Oper) (skip : List Nat) : Nat → Array Bool → yV
  | 0,_=>.done
  | f + 1,listed =>
    match (Region.ready md ops listed).find? (fun i=>(!j7 cv ops i || skip.contains i) && Region.free md ops listed i) with
    | some i=>.loose i (vA md cv ops skip f (listed.setIfInBounds i true))
    | none =>
      match Region.ready md ops listed with
      | [i]=>.one i (vA md cv ops skip f (listed.setIfInBounds i true))
      | [i,j]=>.two i (vA md cv ops skip f (listed.setIfInBounds i true)) j (vA md cv ops skip f (listed.setIfInBounds j true))
      | [i,j,k]=>.three i (vA md cv ops skip f (listed.setIfInBounds i true)) j (vA md cv ops skip f (listed.setIfInBounds j true)) k (vA md cv ops skip f (listed.setIfInBounds k true))
      | _=>.done
section
variable {P : Program} {ops : Array Oper} {md : Region.Mode} {S : World → Prop} {cv fb : Bool}
def k5 (P : Program) (ops : Array Oper) (S : World → Prop) (cv fb : Bool) (i : Nat) (K : Act → World → Prop) (a : Act) (w : World) : Prop :=
  match ops[i]? with
  | none=>False
  | some o=>if Region.wanted o (yielded ops a.tmps) then zA cv o = true ∧ xI P (cls ops S fb i) (fun v w'=>K (a.put o.dst v) w') ((execOp a.eval o).run P w) else K (a.put o.dst undef) w
def kP (P : Program) (ops : Array Oper) (S : World → Prop) (cv fb : Bool) (Q : Act → World → Prop) : yV → Act → World → Prop
  | .done,a,w=>Q a w
  | .loose i n,a,w =>
    match ops[i]? with
    | none=>False
    | some o=>if Region.wanted o (yielded ops a.tmps) then zA cv o = false ∧ ∃ v,(∀ w',S w' → qU w' v ((execOp a.eval o).run P w')) ∧ kP P ops S cv fb Q n (a.put o.dst v) w else kP P ops S cv fb Q n (a.put o.dst undef) w
  | .one i n,a,w=>k5 P ops S cv fb i (kP P ops S cv fb Q n) a w
  | .two i n j m,a,w=>k5 P ops S cv fb i (kP P ops S cv fb Q n) a w ∧ k5 P ops S cv fb j (kP P ops S cv fb Q m) a w
  | .three i n j m k l,a,w=>k5 P ops S cv fb i (kP P ops S cv fb Q n) a w ∧ k5 P ops S cv fb j (kP P ops S cv fb Q m) a w ∧ k5 P ops S cv fb k (kP P ops S cv fb Q l) a w
theorem v7 {i : Nat} {K K' : Act → World → Prop} {a : Act} {w : World} (hS : S w) (hk : ∀ a w,cls ops S fb i w → K a w → K' a w) (h : k5 P ops S cv fb i K a w) : lxOp P ops S cv fb i K' a w:=by
  unfold k5 at h;unfold lxOp;split at h
  · exact h.elim
  · rename_i o ho
    simp only [ho];split at h
    · rename_i hw
      rw [if_pos hw,if_pos h.1];exact jN (fun v w' hs hk'=>hk _ _ hs hk') h.2
    · rename_i hw
      rw [if_neg hw];exact hk _ _ (.inl hS) h
theorem gH {Q : Act → World → Prop} (hs : Region.noSelect ops = true) : ∀ (T : yV) (fuel : Nat) (listed : Array Bool) (a : Act) (w : World),qP md ops fb listed → (S w ∨ (fb = true ∧ Region.ready md ops listed = [])) →
    T.ok md ops listed = true → T.depth ≤ fuel → kP P ops S cv fb Q T a w → vZ P md ops S cv fb Q fuel listed a w:=by
  have after : ∀ {i : Nat} {listed : Array Bool} {w' : World},qP md ops fb listed → i ∈ Region.ready md ops listed → cls ops S fb i w' → S w' ∨ (fb = true ∧ Region.ready md ops (listed.setIfInBounds i true) = []):=by
    intro i listed w' hI hi hc;rcases hc with hc | ⟨hfb,he⟩
    · exact .inl hc
    · right
      refine ⟨hfb,?_⟩;rcases ((hI.set hi).inv hfb).2 with h1 | h1
      · exfalso
        have:=h1.tail i (by omega) (by omega);have hsz : i < (listed.setIfInBounds i true).size:=by rw [h1.size];omega
        have hsz' : i < listed.size:=by simpa using hsz
        simp [hsz'] at this
      · exact h1
  have nonempty : ∀ {i : Nat} {listed : Array Bool} {w : World},i ∈ Region.ready md ops listed → (S w ∨ (fb = true ∧ Region.ready md ops listed = [])) → S w:=by
    intro i listed w hi h;rcases h with h | ⟨_,h⟩
    · exact h
    · rw [h] at hi;cases hi
  intro T;induction T with
  | done =>
    intro fuel listed a w _ _ hok _ h;have h0 : Region.ready md ops listed = []:=by simpa [yV.ok] using hok
    cases fuel with
    | zero=>exact ⟨h0,h⟩
    | succ f=>exact ⟨fun _=>h,fun i hi=>by rw [h0] at hi;cases hi⟩
  | loose i n ih =>
    intro fuel listed a w hI hSw hok hd h;simp only [yV.ok,Bool.and_eq_true] at hok;obtain ⟨⟨hr,hf⟩,hn⟩:=hok;have hr' : i ∈ Region.ready md ops listed:=by simpa using hr
    have hS:=nonempty hr' hSw;cases fuel with
    | zero=>simp [yV.depth] at hd
    | succ f =>
      have hd' : n.depth ≤ f:=by simp [yV.depth] at hd;omega
      unfold kP at h;split at h
      · exact h.elim
      · rename_i o ho
        split at h
        · rename_i hw
          obtain ⟨hc,v,hv,hk⟩:=h;exact jX ho (Region.noSelect_spec hs) f listed a w hI hS (Region.free_spec ho hf) hr' (.inl ⟨hw,hc,hv⟩) (ih f _ _ w (hI.set hr') (.inl hS) hn hd' hk)
        · rename_i hw
          exact jX ho (Region.noSelect_spec hs) f listed a w hI hS (Region.free_spec ho hf) hr' (.inr ⟨by simpa using hw,rfl⟩) (ih f _ _ w (hI.set hr') (.inl hS) hn hd' h)
  | one i n ih =>
    intro fuel listed a w hI hSw hok hd h;simp only [yV.ok,Bool.and_eq_true,beq_iff_eq] at hok;obtain ⟨hr,hn⟩:=hok;have hr' : i ∈ Region.ready md ops listed:=by rw [hr];simp
    have hS:=nonempty hr' hSw;cases fuel with
    | zero=>simp [yV.depth] at hd
    | succ f =>
      have hd' : n.depth ≤ f:=by simp [yV.depth] at hd;omega
      refine ⟨fun h0=>(by rw [hr] at h0;cases h0),fun x hx=>?_⟩;have hx':=hx;rw [hr] at hx';obtain rfl : x = i:=by simpa using hx'
      exact v7 hS (fun a' w' hc hk=>ih f _ a' w' (hI.set hx) (after hI hx hc) hn hd' hk) h
  | two i n j m ih1 ih2 =>
    intro fuel listed a w hI hSw hok hd h;simp only [yV.ok,Bool.and_eq_true,beq_iff_eq] at hok;obtain ⟨⟨hr,hn⟩,hm⟩:=hok;have hS:=nonempty (i:=i) (by rw [hr];simp) hSw;cases fuel with
    | zero=>simp [yV.depth] at hd
    | succ f =>
      have hd1 : n.depth ≤ f:=by simp [yV.depth] at hd;omega
      have hd2 : m.depth ≤ f:=by simp [yV.depth] at hd;omega
      refine ⟨fun h0=>(by rw [hr] at h0;cases h0),fun x hx=>?_⟩;have hx':=hx;rw [hr] at hx';rcases List.mem_cons.1 hx' with rfl | hx'
      · exact v7 hS (fun a' w' hc hk=>ih1 f _ a' w' (hI.set hx) (after hI hx hc) hn hd1 hk) h.1
      · obtain rfl : x = j:=by simpa using hx'
        exact v7 hS (fun a' w' hc hk=>ih2 f _ a' w' (hI.set hx) (after hI hx hc) hm hd2 hk) h.2
  | three i n j m k l ih1 ih2 ih3 =>
    intro fuel listed a w hI hSw hok hd h;simp only [yV.ok,Bool.and_eq_true,beq_iff_eq] at hok;obtain ⟨⟨⟨hr,hn⟩,hm⟩,hl⟩:=hok;have hS:=nonempty (i:=i) (by rw [hr];simp) hSw;cases fuel with
    | zero=>simp [yV.depth] at hd
    | succ f =>
      have hd1 : n.depth ≤ f:=by simp [yV.depth] at hd;omega
      have hd2 : m.depth ≤ f:=by simp [yV.depth] at hd;omega
      have hd3 : l.depth ≤ f:=by simp [yV.depth] at hd;omega
      refine ⟨fun h0=>(by rw [hr] at h0;cases h0),fun x hx=>?_⟩;have hx':=hx;rw [hr] at hx';rcases List.mem_cons.1 hx' with rfl | hx'
      · exact v7 hS (fun a' w' hc hk=>ih1 f _ a' w' (hI.set hx) (after hI hx hc) hn hd1 hk) h.1
      · rcases List.mem_cons.1 hx' with rfl | hx'
        · exact v7 hS (fun a' w' hc hk=>ih2 f _ a' w' (hI.set hx) (after hI hx hc) hm hd2 hk) h.2.1
        · obtain rfl : x = k:=by simpa using hx'
          exact v7 hS (fun a' w' hc hk=>ih3 f _ a' w' (hI.set hx) (after hI hx hc) hl hd3 hk) h.2.2
structure bU (P : Program) (ops : Array Oper) (S : World → Prop) (cv fb : Bool) (Q : Act → World → Prop) (T : yV) (a : Act) (w : World) : Prop where
  out : kP P ops S cv fb Q T a w
theorem u1 {id : Nat} {Q : Exit → Act → World → Prop} {a : Act} {w : World} {ops : Array Oper} (T : yV) (S : World → Prop) (cv : Bool) (hm : P.follows .mixedOrders = true) (hs : Region.noSelect ops = true) (hT : T.ok .any ops (Array.replicate ops.size false) = true) (hd : Nat.ble T.depth ops.size = true) (hS : S w.drew)
    (h : bU P ops S cv false (fun a' w'=>S w' → Q .normal a' w') T a w.drew) : (Code.region id ops true).wp P Q a w:=by
  have hI : qP .any ops false (Array.replicate ops.size false):=⟨by simp⟩
  exact wp_region_any hm (vM (S:=S) (cv:=cv) (fb:=false) (Q:=fun a' w'=>S w' → Q .normal a' w') (fun _ w' hw' h=>h (hw'.elim (fun h=>h) (by simp))) _ _ _ _ hI (.inl hS)
    (gH (md:=.any) hs T _ _ a w.drew hI (.inl hS) hT (Nat.le_of_ble_eq_true hd) h.out))
theorem bT {id : Nat} {Q : Exit → Act → World → Prop} {a : Act} {w : World} {ops : Array Oper} (T : yV) (S : World → Prop) (cv : Bool) (hm : P.follows .mixedOrders = true) (hs : Region.noSelect ops = true) (hT : T.ok .any ops (Array.replicate ops.size false) = true) (hd : Nat.ble T.depth ops.size = true) (hE : eE .any ops = true) (hS : S w.drew)
    (h : bU P ops S cv true (fun a' w'=>Q .normal a' w') T a w.drew) : (Code.region id ops true).wp P Q a w:=by
  have hI : qP .any ops true (Array.replicate ops.size false):=⟨fun _=>⟨hE,.inl ⟨by simp,fun j oj _ hj=>(by rw [getD_replicate_false] at hj;cases hj),fun t ht hts=>by simp [hts]⟩⟩⟩
  exact wp_region_any hm (vM (S:=S) (cv:=cv) (fb:=true) (Q:=fun a' w'=>Q .normal a' w') (fun _ w' _ h=>h) _ _ _ _ hI (.inl hS)
    (gH (md:=.any) hs T _ _ a w.drew hI (.inl hS) hT (Nat.le_of_ble_eq_true hd) h.out))
variable {Q : Act → World → Prop} {a : Act} {w : World} {o : Oper} {i j k : Nat} {n m l : yV}
theorem rC (h : Q a w) : bU P ops S cv fb Q .done a w:=⟨h⟩
theorem q3 (ho' : uW ops.toList i = some o) (hc : zA cv o = false)
    (h : ∀ K : Act → Prop,(∀ a,bU P ops S cv fb Q n a w → K a) → if Region.wanted o (yielded ops a.tmps) then (∃ v,(∀ x : Subtype S,qU x.1 v ((execOp a.eval o).run P x.1)) ∧ K (a.put o.dst v)) else K (a.put o.dst undef)) : bU P ops S cv fb Q (.loose i n) a w:=by
  have ho:=bM ho';have:=h _ (fun _ h=>h);refine ⟨?_⟩;unfold kP;simp only [ho];split
  · rename_i hw
    rw [if_pos hw] at this;obtain ⟨v,hv,hk⟩:=this;exact ⟨hc,v,fun w' hs=>hv ⟨w',hs⟩,hk.out⟩
  · rename_i hw;rw [if_neg hw] at this;exact this.out
theorem qD (hS : S w) (ho' : uW ops.toList i = some o) (hc : zA cv o = true)
    (h : ∀ K : Act → World → Prop,(∀ a w,bU P ops S cv fb Q n a w → K a w) → if Region.wanted o (yielded ops a.tmps) then xI P S (fun v w'=>K (a.put o.dst v) w') ((execOp a.eval o).run P w) else K (a.put o.dst undef) w) : bU P ops S cv fb Q (.one i n) a w:=by
  have ho:=bM ho';have:=h _ (fun _ _ h=>h);refine ⟨?_⟩;unfold kP k5;simp only [ho];split
  · rename_i hw;rw [if_pos hw] at this;exact ⟨hc,jI (fun _ h=>.inl h) (fun _ _ _ h=>h.out) this⟩
  · rename_i hw;rw [if_neg hw] at this;exact this.out
theorem fP (h1 : bU P ops S cv fb Q (.one i n) a w) (h2 : bU P ops S cv fb Q (.one j m) a w) : bU P ops S cv fb Q (.two i n j m) a w:=⟨⟨h1.out,h2.out⟩⟩
theorem kQ (ho' : uW ops.toList i = some o) (hc : zA cv o = true) (hi : (i + 1 == ops.size) = true)
    (h : ∀ K : Act → World → Prop,(∀ a w,Q a w → K a w) → if Region.wanted o (yielded ops a.tmps) then xI P (fun _=>True) (fun v w'=>K (a.put o.dst v) w') ((execOp a.eval o).run P w) else K (a.put o.dst undef) w) : bU P ops S cv true Q (.one i .done) a w:=by
  have ho:=bM ho';have:=h _ (fun _ _ h=>h);refine ⟨?_⟩;unfold kP k5;simp only [ho];split
  · rename_i hw;rw [if_pos hw] at this;exact ⟨hc,jI (fun _ _=>.inr ⟨rfl,beq_iff_eq.1 hi⟩) (fun _ _ _ h=>h) this⟩
  · rename_i hw;rw [if_neg hw] at this;exact this
end
end
section
open Go.RowKit
def slS (T : TypeId) (x : Value) (lo hi mx : Option Value) : Sem Value:=Instr.sliceAt T x lo hi mx
section
variable {P : Program} {T E : TypeId} {k bytes : Nat}
theorem xF.sizeOf_run (I : xF P T E k bytes) (w : World) : (Go.sizeOf E).run P w = .ok k w:=by
  obtain ⟨i,z,hi,hz,hsz,hby,hzs⟩:=I.info;simp [Go.sizeOf,typeInfo,hi,hsz]
theorem kL (w : World) (m cap : Nat) (hm : m ≤ cap) (c : BoundsCode) : (Instr.sliceBound (.int .i64 m) cap c).run P w = .ok m w:=by
  unfold Instr.sliceBound;have h1 : (asIntOf (.int .i64 (m : Int))).run P w = .ok (.i64,(m : Int)) w:=rfl;simp only [Sem.run_bind,h1,Result.andThen_ok];rw [if_pos ⟨by omega,by omega⟩]
  simp
theorem dH (I : xF P T E k bytes) (w : World) (x : Value) (lo hi mx : Option Value) : (slS T x lo hi mx).run P w = (Instr.slice T x lo hi mx).run P w:=by
  unfold slS;simp [Instr.sliceAt,run_underlying I.und]
theorem fU (I : xF P T E k bytes) (w : World) (A : Option Addr) (n cap m : Nat) (hm : m ≤ cap) :
    (slS T (.slice A n cap) none (some (.int .i64 m)) none).run P w = .ok (.slice A m cap) w:=by
  rw [dH I];unfold Instr.slice Instr.sliceBounds;simp only [Sem.run_bind,run_underlying I.und,Result.andThen_ok,Sem.run_pure,kL w m cap hm,I.sizeOf_run w];have e : (if cap = 0 then A else A.map fun a=>a.add (0 * k)) = A:=by
    split
    · rfl
    · cases A with
      | none=>rfl
      | some a=>simp [Addr.add]
  simp only [Nat.sub_zero,e]
theorem dG (I : xF P T E k bytes) (w : World) (A : Option Addr) (n cap m : Nat) (hm : m ≤ n) (hc : n ≤ cap) (hA : A = none → cap = 0) (hsp : ∀ a,A = some a → a.spot = none) :
    ∃ A2 c2,(slS T (.slice A n cap) (some (.int .i64 m)) none none).run P w = .ok (.slice A2 (n - m) c2) w ∧ (∀ (w' : World) (L : List (Array Value)),SlR w' A n k L → SlR w' A2 (n - m) k (L.drop m)) ∧ (A2 = none → c2 = 0):=by
  refine ⟨if cap = m then A else A.map fun a=>a.add (m * k),cap - m,?_,?_,?_⟩
  · rw [dH I];unfold Instr.slice Instr.sliceBounds;simp only [Sem.run_bind,run_underlying I.und,Result.andThen_ok,Sem.run_pure,kL w m n hm,I.sizeOf_run w,Option.isSome_none,Bool.false_eq_true,if_false]
  · intro w' L hL;by_cases hcm : cap = m
    · have : n - m = 0:=by omega
      rw [this];exact ⟨by rw [List.length_drop,hL.1];omega,fun h=>absurd h (by omega)⟩
    · rw [if_neg hcm];cases A with
      | none=>exact absurd (hA rfl) (by omega)
      | some a =>
        obtain ⟨g,o,sp⟩:=a;have : sp = none:=hsp _ rfl;subst this;have e : (⟨g,o,none⟩ : Addr).add (m * k) = ⟨g,o + m * k,none⟩:=by unfold Addr.add;split <;> simp_all
        simp only [Option.map_some,e];exact hL.drop_ hm
  · intro h;by_cases hcm : cap = m
    · omega
    · rw [if_neg hcm] at h;cases A with
      | none=>have:=hA rfl;omega
      | some a=>cases h
theorem Own.hi (I : xF P T E k bytes) {w : World} {B : Nat} {A : Option Addr} {n cap : Nat} {L : List (Array Value)} (h : Own w B E k A n cap L) {m : Nat} (hm : m ≤ n) :
    ∃ A2 c2,(∀ w0 : World,(slS T (.slice A n cap) (some (.int .i64 m)) none none).run P w0 = .ok (.slice A2 (n - m) c2) w0) ∧ (∀ w' : World,SlR w' A n k L → SlR w' A2 (n - m) k (L.drop m)) ∧ (A2 = none → c2 = 0):=by
  have hA:=h.cap_le;have hsp : ∀ a,A = some a → a.spot = none:=fun a e=>by
    rcases h.addr with e' | ⟨g,e'⟩
    · rw [e'] at e;cases e
    · rw [e'] at e;injection e with e;rw [← e]
  obtain ⟨A2,c2,h1,h2,h3⟩:=dG (P:=P) I w A n cap m hm hA.1 (fun e=>(hA.2 e).2) hsp;refine ⟨A2,c2,fun w0=>?_,fun w' hw=>h2 w' L hw,h3⟩;obtain ⟨A3,c3,k1,_,_⟩:=dG (P:=P) I w0 A n cap m hm hA.1 (fun e=>(hA.2 e).2) hsp;rw [dH I] at h1 k1 ⊢;unfold Instr.slice Instr.sliceBounds at h1 k1 ⊢;simp only [Sem.run_bind,run_underlying I.und,Result.andThen_ok,Sem.run_pure,kL _ m n hm,I.sizeOf_run,Option.isSome_none,Bool.false_eq_true,if_false] at h1 ⊢;injection h1 with h1 _
  rw [h1]
end
theorem fE {P : Program} {ops : Array Oper} {S : World → Prop} {cv fb : Bool} {Q : Act → World → Prop} {a : Act} {w : World} {i : Nat} {nx : yV} {dst : Option Tmp} {s x : Operand} {ty : TypeId} {pos : String} {after : Array Edge} {T E : TypeId} {k bytes : Nat} (I : xF P T E k bytes)
    (ho' : uW ops.toList i = some { dst:=dst,op:=.call { callee:=.builtin .append,args:=#[s,x],argTypes:=#[T,T] },type:=ty,pos:=pos,after:=after,guard:=none })
    {B : Nat} {A : Option Addr} {n cap : Nat} {L : List (Array Value)} (hs : a.eval s = .slice A n cap) (hown : Own w B E k A n cap L)
    {A2 : Option Addr} {m c : Nat} {R : List (Array Value)} (hx : a.eval x = .slice A2 m c) (hsrc : SlR w A2 m k R) (hform : A2 = none → c = 0) (hone : ∀ r ∈ R,∀ u ∈ r.toList,u.oneCell' = true) (hbytes : (n + m) * bytes ≤ 140737488355328) (hn : n + m ≤ 9223372036854775807) (hB : B ≤ w.heap.size)
    (h : ∀ A' cap' w',Own w' B E k A' (n + m) cap' (L ++ R) → zC (blk A) w w' → (∀ x ∈ blk A',x ∈ blk A ∨ w.heap.size ≤ x) → S w' ∧ bU P ops S cv fb Q nx (a.put dst (.slice A' (n + m) cap')) w') :
    bU P ops S cv fb Q (.one i nx) a w:=by
  obtain ⟨A',cap',w',hrun,h1,h2,h3⟩:=mC I hown hsrc hform hone hbytes hn hB ty;obtain ⟨k1,k2⟩:=h A' cap' w' h1 h2 h3;have ho:=bM ho';refine ⟨?_⟩;unfold kP k5;simp only [ho];rw [if_pos (by rfl)];rw [kN a.eval hs hx hrun];exact ⟨rfl,.inl k1,k2.out⟩
theorem vW {P : Program} {ops : Array Oper} {S : World → Prop} {cv fb : Bool} {Q : Act → World → Prop} {a : Act} {w : World} {i : Nat} {nx : yV} {dst : Option Tmp} {s x : Operand} {ty : TypeId} {pos : String} {after : Array Edge} {T E : TypeId} {k bytes : Nat} (I : xF P T E k bytes)
    (ho' : uW ops.toList i = some { dst:=dst,op:=.call { callee:=.builtin .append,args:=#[s,x],argTypes:=#[T,T] },type:=ty,pos:=pos,after:=after,guard:=none })
    {B : Nat} {A : Option Addr} {n cap : Nat} {L : List (Array Value)} (hs : a.eval s = .slice A n cap) (hown : Own w B E k A n cap L)
    {q o c : Nat} {cs : Array Value} (hx : a.eval x = .slice (some ⟨q,o,none⟩) 1 c) (hrow : zF w q o k = some cs) (hone : ∀ u ∈ cs.toList,u.oneCell' = true) (hbytes : (n + 1) * bytes ≤ 140737488355328) (hn : n + 1 ≤ 9223372036854775807) (hB : B ≤ w.heap.size)
    (h : ∀ A' cap' w',Own w' B E k A' (n + 1) cap' (L ++ [cs]) → zC (blk A) w w' → (∀ x ∈ blk A',x ∈ blk A ∨ w.heap.size ≤ x) → S w' ∧ bU P ops S cv fb Q nx (a.put dst (.slice A' (n + 1) cap')) w') :
    bU P ops S cv fb Q (.one i nx) a w:=by
  obtain ⟨A',cap',w',hrun,h1,h2,h3⟩:=t6 I hown (c:=c) hrow hone hbytes hn hB ty;obtain ⟨k1,k2⟩:=h A' cap' w' h1 h2 h3;have ho:=bM ho';refine ⟨?_⟩;unfold kP k5;simp only [ho];rw [if_pos (by rfl)];rw [kN a.eval hs hx hrun];exact ⟨rfl,.inl k1,k2.out⟩
end
section
open Go.RowKit
structure SlW (w : World) (A : Option Addr) (n cap k : Nat) (L : List (Array Value)) : Prop where
  rd : SlR w A n k L
  le : n ≤ cap
  nil : A = none → cap = 0
  plain : ∀ a,A = some a → a.spot = none
section
variable {P : Program} {T E : TypeId} {k bytes : Nat} {w w' : World} {A : Option Addr} {n cap : Nat} {L : List (Array Value)}
theorem SlW.none_ : SlW w none 0 0 k []:=⟨SlR.nil_,Nat.le_refl _,fun _=>rfl,fun a e=>by cases e⟩
theorem SlW.kept {S : List Nat} (h : SlW w A n cap k L) (hk : zC S w w') (hn : ∀ x ∈ blk A,x ∉ S) : SlW w' A n cap k L:=⟨h.rd.kept hk hn,h.le,h.nil,h.plain⟩
theorem SlW.below (h : SlW w A n cap k L) (hb : Below w.heap.size w w') : SlW w' A n cap k L:=⟨h.rd.below hb,h.le,h.nil,h.plain⟩
theorem SlW.len (h : SlW w A n cap k L) : L.length = n:=h.rd.1
theorem Own.slw {B : Nat} (h : Own w B E k A n cap L) : SlW w A n cap k L:=by
  have hA:=h.cap_le;refine ⟨h.slr,hA.1,fun e=>(hA.2 e).2,fun a e=>?_⟩;rcases h.addr with e' | ⟨g,e'⟩
  · rw [e'] at e;cases e
  · rw [e'] at e;injection e with e;rw [← e]
theorem SlW.lo (I : xF P T E k bytes) (h : SlW w A n cap k L) {m : Nat} (hm : m ≤ n) (w0 : World) : (slS T (.slice A n cap) none (some (.int .i64 m)) none).run P w0 = .ok (.slice A m cap) w0 :=
  fU I w0 A n cap m (Nat.le_trans hm h.le)
theorem SlW.hi (I : xF P T E k bytes) (h : SlW w A n cap k L) {m : Nat} (hm : m ≤ n) :
    ∃ A2 c2,(∀ w0 : World,(slS T (.slice A n cap) (some (.int .i64 m)) none none).run P w0 = .ok (.slice A2 (n - m) c2) w0) ∧ (∀ w' : World,SlR w' A n k L → SlR w' A2 (n - m) k (L.drop m)) ∧ (A2 = none → c2 = 0):=by
  obtain ⟨A2,c2,h1,h2,h3⟩:=dG (P:=P) I w A n cap m hm h.le h.nil h.plain;refine ⟨A2,c2,fun w0=>?_,fun w' hw=>h2 w' L hw,h3⟩;obtain ⟨A3,c3,k1,_,_⟩:=dG (P:=P) I w0 A n cap m hm h.le h.nil h.plain;rw [dH I] at h1 k1 ⊢;unfold Instr.slice Instr.sliceBounds at h1 k1 ⊢;simp only [Sem.run_bind,run_underlying I.und,Result.andThen_ok,Sem.run_pure,kL _ m n hm,I.sizeOf_run,Option.isSome_none,Bool.false_eq_true,if_false] at h1 ⊢;injection h1 with h1 _
  rw [h1]
end
end
section
open Go.RowKit
structure bS where
  h : Int
  ref : zK
  val : ByteArray
def y8 (x : bS) : Array Value:=#[.int .i64 x.h] ++ idC x.ref ++ #[.string x.val]
@[simp] theorem u3 (x : bS) : (y8 x).size = 34:=by simp [y8]
@[go_sem] theorem lC (x : bS) : (y8 x)[0]? = some (.int .i64 x.h):=by first | (simp [y8,Array.getElem?_append];done) | (rw [show y8 x = ((#[] : Array Value)) ++ #[.int .i64 x.h] ++ (idC x.ref ++ #[.string x.val]) from by apply Array.ext';simp [y8]];exact qH _ _ _ _ (by simp))
@[go_sem] theorem sNodeC_gg0 (x : bS) (h : 0 < (y8 x).size) : (y8 x)[0]'h = .int .i64 x.h:=Option.some.inj ((Array.getElem?_eq_getElem h).symm.trans (lC x))
@[go_sem] theorem uM (x : bS) : (y8 x).extract 1 33 = idC x.ref:=by
  have h : y8 x = (#[.int .i64 x.h]) ++ idC x.ref ++ (#[.string x.val]):=by first | (simp [y8,Array.append_assoc];done) | (apply Array.ext';simp [y8];done)
  rw [h];exact fD _ _ _ _ _ (by simp) (by simp)
@[go_sem] theorem mW (x : bS) : (y8 x)[33]? = some (.string x.val):=by first | (simp [y8,Array.getElem?_append];done) | (rw [show y8 x = (#[.int .i64 x.h] ++ idC x.ref) ++ #[.string x.val] ++ ((#[] : Array Value)) from by apply Array.ext';simp [y8]];exact qH _ _ _ _ (by simp))
@[go_sem] theorem sNodeC_gg33 (x : bS) (h : 33 < (y8 x).size) : (y8 x)[33]'h = .string x.val:=Option.some.inj ((Array.getElem?_eq_getElem h).symm.trans (mW x))
@[go_sem] theorem sNodeC_all (x : bS) : (y8 x).extract 0 34 = y8 x:=by have:=Array.extract_size (xs:=y8 x);rwa [u3] at this
theorem ZF (x : bS) : ∀ u ∈ (y8 x).toList,u.oneCell' = true:=by
  intro u hu;simp only [y8,Array.toList_append,List.mem_append] at hu;rcases hu with (hu | hu) | hu
  · simp at hu;subst hu;rfl
  · exact xW _ u hu
  · simp at hu;subst hu;rfl
def v8 : bS:=⟨0,id0,⟨#[]⟩⟩
theorem J1 {x y : bS} (h : x.h = y.h ∧ x.ref = y.ref ∧ x.val = y.val) : x = y:=by cases x;cases y;simp_all
instance : DecidableEq bS:=fun x y=>if h : x.h = y.h ∧ x.ref = y.ref ∧ x.val = y.val then isTrue (J1 h) else isFalse (fun e=>h (by subst e;simp))
theorem rZ : (Tryz.prog.info? 193).map (·.size) = some 34:=by kernel_rfl
@[go_sem ↓] theorem pK (w : World) : (zeroValue 193).run Tryz.prog w = .ok (.agg (y8 v8)) w:=by
  have h : (Tryz.prog.info? 193).bind (·.zero) = some (.agg (y8 v8)):=by kernel_rfl
  cases hi : Tryz.prog.info? 193 with
  | none=>rw [hi] at h;cases h
  | some i =>
    rw [hi] at h;have hz : i.zero = some (.agg (y8 v8)):=h;simp [zeroValue,typeInfo,hi,hz]
@[go_sem ↓] theorem loadSNode_rw (a : Addr) : loadVar 193 a = ldS 193 a:=rfl
@[go_sem ↓] theorem storeSNode_rw (a : Addr) (v : Value) : storeVar 193 a v = stS 193 a v:=rfl
@[go_sem] theorem loadSNode_run (w : World) (g o : Nat) : (ldS 193 ⟨g,o,none⟩).run Tryz.prog w = match zF w g o 34 with | some cs=>.ok (.agg cs) w | none=>(loadVar 193 ⟨g,o,none⟩).run Tryz.prog w :=
  vU Tryz.underlying193 rfl rZ w g o
@[go_sem] theorem fT (w : World) (g : Nat) (hg : g = w.heap.size) (z : Array Value) (hz : z.size = 34) (x : bS) (e : TypeId) : (stS 193 ⟨g,0,none⟩ (.agg (y8 x))).run Tryz.prog (w.alloc (.cells z e)) = .ok () (w.alloc (.cells (y8 x) e)) :=
  hg ▸ jM rZ w z (y8 x) hz (u3 x) (ZF x)
theorem aK : Tryz.prog.underlying 193 = some (.struct (Tryz.prog.fieldsOf 193)):=by kernel_rfl
theorem iD (w : World) : ((Tryz.prog.fieldsOf 193).mapM fun (f : Field)=>do pure (f.offset,← sizeOf f.type)).run Tryz.prog w = .ok #[(0,1),(1,32),(33,1)] w:=by kernel_rfl
@[go_sem ↓] theorem buildSNode_rw (parts : Array (Nat × Value)) : Instr.build 193 parts = bdS 193 parts:=rfl
@[go_sem ↓] theorem fieldSNode_0 (x : bS) (w : World) : (Instr.field 193 (.agg (y8 x)) 0).run Tryz.prog w = .ok (.int .i64 x.h) w:=by
  unfold Instr.field;simp only [Sem.run_bind,run_underlying Tryz.underlying193,Result.andThen_ok,part,asAgg,isAgg];simp [go_sem]
@[go_sem ↓] theorem fieldSNode_2 (x : bS) (w : World) : (Instr.field 193 (.agg (y8 x)) 2).run Tryz.prog w = .ok (.string x.val) w:=by
  unfold Instr.field;simp only [Sem.run_bind,run_underlying Tryz.underlying193,Result.andThen_ok,part,asAgg,isAgg];simp [go_sem]
@[go_sem] theorem buildSNode (a0 : Int) (a1 : zK) (a2 : ByteArray) (w : World) : (bdS 193 #[(0,.int .i64 a0),(1,.agg (idC a1)),(2,.string a2)]).run Tryz.prog w = .ok (.agg (y8 ⟨a0,a1,a2⟩)) w:=by
  refine jE w aK _ (pK w) _ (iD w) [(0,.int .i64 a0),(1,.agg (idC a1)),(2,.string a2)] _ ?_;rw [show y8 v8 = (#[] : Array Value) ++ #[.int .i64 0] ++ (idC id0 ++ (#[.string ⟨#[]⟩])) from by first | (simp [y8,v8,Array.append_assoc];done) | (apply Array.ext';simp [y8,v8])];rw [yQ (off:=0) (size:=1) rfl (by simp) (by simp) (by simp [Value.cells])];rw [show (#[] : Array Value) ++ (Value.int .i64 a0).cells ++ (idC id0 ++ (#[.string ⟨#[]⟩])) = (#[.int .i64 a0]) ++ idC id0 ++ (#[.string ⟨#[]⟩]) from by first | (simp [Value.cells,Array.append_assoc];done) | (apply Array.ext';simp [Value.cells];done) | (apply Array.ext';simp only [Array.toList_append];simp [Value.cells])];rw [yQ (off:=1) (size:=32) rfl (by simp) (by simp) (by simp [Value.cells])];rw [show (#[.int .i64 a0]) ++ (Value.agg (idC a1)).cells ++ (#[.string ⟨#[]⟩]) = (#[.int .i64 a0] ++ (idC a1)) ++ #[.string ⟨#[]⟩] ++ (#[] : Array Value) from by first | (simp [Value.cells,Array.append_assoc];done) | (apply Array.ext';simp [Value.cells];done) | (apply Array.ext';simp only [Array.toList_append];simp [Value.cells])];rw [yQ (off:=33) (size:=1) rfl (by simp) (by simp) (by simp [Value.cells])];first | (simp [Instr.fill,y8,Array.append_assoc,Value.cells];done) | (simp only [Instr.fill,y8];congr 1;apply Array.ext';simp [Value.cells];done) | (simp only [Instr.fill,y8];congr 1;done) | (simp only [Instr.fill,y8];done)
def cS (x : bS) : Value:=.agg (y8 x)
def j4 (n : zW) : bS:=⟨n.h,n.ref,n.val⟩
structure Sl where
  A : Option Addr
  n : Nat
  c : Nat
def slV (s : Sl) : Value:=.slice s.A s.n s.c
structure q5 (w : World) (M : List Nat) (g bn bb bg : Nat) (N : List zW) (G : List zK) : Prop where
  blk : w.heap[g]? = some (.cells #[.map (some bn),.map (some bb),.map (some bg)] 191 (0,0))
  nodes : ∃ es clk,qG w bn idV cS d8 (N.map fun n=>(n.id,j4 n)) es clk
  behind : ∃ BM es clk,qG w bb idV slV d8 BM es clk ∧ (∀ p ∈ BM,SlW w p.2.A p.2.n p.2.c 32 (((xV N p.1).map zW.id).map idC) ∧ ∀ x ∈ Go.Proofs.YtgfpjjppeldhbaaGreatDoor.blk p.2.A,x ∉ M ∧ x < w.heap.size) ∧ ∀ r,r ∉ BM.map (·.1) → xV N r = []
  gone : dD w bg G
  inM : bn ∈ M ∧ bb ∈ M ∧ bg ∈ M
  ne : bn ≠ bb ∧ bn ≠ bg ∧ bb ≠ bg
  one : Z0 N
  ok : ∀ n ∈ N,kW n = 0
section
variable {w w' : World} {M : List Nat} {g bn bb bg : Nat} {N : List zW} {G : List zK}
theorem q5.cell0 (h : q5 w M g bn bb bg N G) : w.cell? ⟨g,0,none⟩ = some (.map (some bn)):=by rw [cell_of_row w g 0 _ _ _ h.blk];rfl
theorem q5.cell1 (h : q5 w M g bn bb bg N G) : w.cell? ⟨g,1,none⟩ = some (.map (some bb)):=by rw [cell_of_row w g 1 _ _ _ h.blk];rfl
theorem q5.cell2 (h : q5 w M g bn bb bg N G) : w.cell? ⟨g,2,none⟩ = some (.map (some bg)):=by rw [cell_of_row w g 2 _ _ _ h.blk];rfl
theorem q5.ltg (h : q5 w M g bn bb bg N G) : g < w.heap.size:=(Array.getElem?_eq_some_iff.1 h.blk).1
theorem iS {κ ν : Type} {kv : κ → Value} {vv : ν → Value} {ok : κ → Prop} {w : World} {b g : Nat} {X : List (κ × ν)} {es : Array MapEntry} {clk : Nat} {cs : Array Value} {t : TypeId} {f : Nat × Nat} (h : qG w b kv vv ok X es clk) (hg : w.heap[g]? = some (.cells cs t f)) : g ≠ b:=by
  rintro rfl;rw [h.heap] at hg;cases hg
theorem q5.neg (h : q5 w M g bn bb bg N G) : g ≠ bn ∧ g ≠ bb ∧ g ≠ bg:=by
  obtain ⟨es,clk,hn⟩:=h.nodes;obtain ⟨BM,es',clk',hb,_⟩:=h.behind;refine ⟨iS hn h.blk,iS hb h.blk,?_⟩;rintro rfl;obtain ⟨M',es,clk,hm,_⟩:=h.gone;have:=h.blk.symm.trans hm.heap;cases this
theorem q5.lt (h : q5 w M g bn bb bg N G) : bn < w.heap.size ∧ bb < w.heap.size ∧ bg < w.heap.size:=by
  obtain ⟨es,clk,hn⟩:=h.nodes;obtain ⟨BM,es',clk',hb,_⟩:=h.behind;exact ⟨hn.lt,hb.lt,h.gone.lt⟩
theorem q5.kept {S : List Nat} (h : q5 w M g bn bb bg N G) (k : zC S w w') (hS : ∀ x ∈ S,x ∈ M ∨ w.heap.size ≤ x) (hg : g ∉ S) (h1 : bn ∉ S) (h2 : bb ∉ S) (h3 : bg ∉ S) : q5 w' M g bn bb bg N G:=by
  obtain ⟨es,clk,hn⟩:=h.nodes;obtain ⟨BM,es',clk',hb,hsl,hno⟩:=h.behind;refine ⟨(k.block g h.ltg hg).trans h.blk,⟨es,clk,hn.kept k h1⟩,⟨BM,es',clk',hb.kept k h2,fun p hp=>?_,hno⟩,h.gone.kept k h3,h.inM,h.ne,h.one,h.ok⟩;obtain ⟨s1,s2⟩:=hsl p hp;refine ⟨?_,fun x hx=>⟨(s2 x hx).1,Nat.lt_of_lt_of_le (s2 x hx).2 k.size⟩⟩;refine ⟨⟨s1.rd.1,fun h0=>?_⟩,s1.le,s1.nil,s1.plain⟩;obtain ⟨q,o,e,hc⟩:=s1.rd.2 h0;refine ⟨q,o,e,fun i hi=>?_⟩;have hql:=zL (hc i hi);rw [k.row hql (fun hm=>(hS q hm).elim (s2 q (by simp [Go.Proofs.YtgfpjjppeldhbaaGreatDoor.blk,e])).1 (by omega)) _ _];exact hc i hi
theorem q5.below (h : q5 w M g bn bb bg N G) (k : Below w.heap.size w w') : q5 w' M g bn bb bg N G:=h.kept (zC.of_below k) (by simp) (by simp) (by simp) (by simp) (by simp)
end
theorem gI (w : World) (g b : Nat) (h : w.cell? ⟨g,0,none⟩ = some (.map (some b))) : Calls Tryz.prog 203 #[.pointer (some ⟨g,0,none⟩)] w fun e w'=>e = .returned (.bool false) ∧ w = w':=by
  have hn:=fun r=>run_eql_map_nil (P:=Tryz.prog) w 188 39 193 r Tryz.underlying188;go_enter Tryz.func203,Tryz.ntmps203
  (go_wp2_with fail);go_ret;exact ⟨rfl,rfl⟩
theorem sqnew (w : World) : Calls Tryz.prog 119 #[] w fun e w'=>∃ g bn bb bg,e = .returned (.pointer (some ⟨g,0,none⟩)) ∧ (∀ M,bn ∈ M → bb ∈ M → bg ∈ M → q5 w' M g bn bb bg [] []) ∧ w.heap.size ≤ g ∧ w.heap.size ≤ bn ∧ w.heap.size ≤ bb ∧ w.heap.size ≤ bg ∧ Below w.heap.size w w':=by
  have hmm:=@run_makeMap Tryz.prog;go_enter Tryz.func119,Tryz.ntmps119
  (go_wp2_with fail);go_ret;have k1:=qG.new (kv:=idV) (vv:=cS) (ok:=d8) w w.heap.size rfl;have k2:=qG.new (kv:=idV) (vv:=slV) (ok:=d8) (w.alloc (.map #[] 0)) (w.heap.size + 1) (by simp);have k3:=xA.new (kv:=idV) (ok:=d8) ((w.alloc (.map #[] 0)).alloc (.map #[] 0)) (w.heap.size + 2) (by simp);refine ⟨w.heap.size + 3,w.heap.size,w.heap.size + 1,w.heap.size + 2,rfl,fun M i1 i2 i3=>⟨?_,⟨_,_,((k1.kept (zC.alloc _ _) (by simp)).kept (zC.alloc _ _) (by simp)).kept (zC.alloc _ _) (by simp)⟩,⟨[],_,_,(k2.kept (zC.alloc _ _) (by simp)).kept (zC.alloc _ _) (by simp),by simp,fun r _=>rfl⟩,k3.kept (zC.alloc _ _) (by simp),⟨i1,i2,i3⟩,by omega,fun a ha=>by simp at ha,by simp⟩,by omega,by omega,by omega,by omega,((((Below.refl _ _).alloc (Nat.le_refl _) _).alloc (by simp) _).alloc (by simp;omega) _).alloc (by simp;omega) _⟩;have:=heap_alloc_new (((w.alloc (.map #[] 0)).alloc (.map #[] 0)).alloc (.map #[] 0)) (.cells #[.map (some w.heap.size),.map (some (w.heap.size + 1)),.map (some (w.heap.size + 2))] 191 (0,0));simpa using this
theorem sqcheck (d : zK) (n : zW) (hd : d = n.id) (w : World) (hv : n.val.size ≤ 9223372036854775807) :
    Calls Tryz.prog 214 #[.agg (idC d),.agg (y8 (j4 n))] w fun e w'=>e = .returned (.int .i64 (kW n)) ∧ Below w.heap.size w w':=by
  subst hd;obtain ⟨d,h,ref,val⟩:=n;unfold j4;have hB : Below w.heap.size w ((w.alloc (.cells (idC d) 39)).alloc (.cells (y8 ⟨h,ref,val⟩) 193)):=((Below.refl _ _).alloc (Nat.le_refl _) _).alloc (by simp) _;have hE : kW ⟨d,h,ref,val⟩ = if 16 < val.size then 3 else if h < 1 ∨ 1073741824 < h ∨ d = id0 then 5 else 0:=rfl;have HE:=Lib.hid hE;clear hE;dsimp only at *;obtain ⟨b,hb⟩ : ∃ b,(d == id0) = b:=⟨_,rfl⟩
  have Hb:=Lib.hid hb;cases b
  all_goals
    clear hb;go_enter Tryz.func214,Tryz.ntmps214
    go_wp2_with fail
    all_goals
      go_ret;exact ⟨yE (by rw [HE.out];have hdd:=Hb.out;(repeat' split) <;> first | rfl | omega | (simp_all;done) | (simp_all;omega)),hB⟩
theorem hahead (ah : Int) (a : zK) (bh : Int) (b : zK) (w : World) :
    Calls Tryz.prog 113 #[.int .i64 ah,.agg (idC a),.int .i64 bh,.agg (idC b)] w fun e w'=>e = .returned (.bool (t7 ah a bh b)) ∧ Below w.heap.size w w':=by
  have hB : Below w.heap.size w ((w.alloc (.cells (idC a) 39)).alloc (.cells (idC b) 39)):=((Below.refl _ _).alloc (Nat.le_refl _) _).alloc (by simp) _;have hA : t7 ah a bh b = if ah = bh then decide (zO a b < 0) else decide (ah < bh):=rfl;have HA:=Lib.hid hA;clear hA;by_cases h : ah = bh
  · subst h;go_enter Tryz.func113,Tryz.ntmps113
    (go_wp2_with fail);refine (Y8 a b _).mono ?_;rintro e w1 ⟨rfl,hb1⟩;have hbb:=yN hB hb1;clear hB hb1;(go_wp2_with fail);go_ret;exact ⟨yG (by rw [HA.out];simp),hbb⟩
  · have hn : (ah != bh) = true:=by simpa using h
    have hn2 : (ah == bh) = false:=by simpa using h
    have Hh:=Lib.hid h;clear h;go_enter Tryz.func113,Tryz.ntmps113
    (go_wp2_with fail);go_ret;exact ⟨yG (by rw [HA.out,if_neg Hh.out]),hB⟩
theorem sqdel (d : zK) (w : World) (M : List Nat) (g bn bb bg : Nat) (N : List zW) (G : List zK) (h : q5 w M g bn bb bg N G) :
    Calls Tryz.prog 143 #[.pointer (some ⟨g,0,none⟩),.agg (idC d)] w fun e w'=>e = .returned (.int .i64 0) ∧ q5 w' M g bn bb bg N (xJ zO G d) ∧ zC [bg] w w':=by
  have hB : Below w.heap.size w (w.alloc (.cells (idC d) 39)):=(Below.refl _ _).alloc (Nat.le_refl _) _;have h1:=h.below hB;have hr : zF (w.alloc (.cells (idC d) 39)) w.heap.size 0 32 = some (idC d):=by simp [go_sem]
  have hlt:=h.lt;go_enter Tryz.func143,Tryz.ntmps143
  go_upto_region 1 with fail
  obtain ⟨ga,hga⟩ : ∃ ga,w.heap.size = ga:=⟨_,rfl⟩
  have Hga:=Lib.hid hga;rw [hga] at hr hB hlt ⊢;obtain ⟨W,hW⟩ : ∃ W,W = w.alloc (.cells (idC d) 39):=⟨_,rfl⟩
  rw [← hW] at h1 hr hB ⊢;clear hW hga;(go_wp2_with fail);refine (gI W g bn h1.cell0).mono ?_;rintro e w1 ⟨rfl,rfl⟩;go_upto_region 3 with fail
  have hc2:=h1.cell2;obtain ⟨w2,hrun,hG2,hk2⟩:=iput (x:=d) (h1.gone.kept (zC.drew W) (by simp));have hgb : g ∉ [bg]:=by simpa using h1.neg.2.2
  refine zE (Kp [bg] W) false (by kernel_rfl) (by kernel_rfl) (by kernel_rfl) (yB [bg] W) ?_;have hne:=xD [bg] W;have hS:=yB [bg] W;have b1:=zZ hc2 hgb;have b2:=yP hr (S:=[bg]) (by simp;omega);repeat (refine zB ?_ ?_;(focus (simp only [zA];done));intro K hK;go_simp;refine hK _ ?_;clear hK K)
  refine zH ?_ ?_ ?_;(focus (exact hS));(focus (simp only [zA];done));intro K hK;go_simp;refine zY (jF hS hk2 (by simp)) (fun hS=>?_);refine hK _ _ ?_;clear hK K;refine zN ?_;intro hS;have hS' : zC [bg] W w2:=hS;obtain ⟨es,clk,hn⟩:=h1.nodes;obtain ⟨BM,es',clk',hb,hsl,hno⟩:=h1.behind;have hfin : q5 w2 M g bn bb bg N (xJ zO G d):=by
    refine ⟨(hS'.block g h1.ltg hgb).trans h1.blk,⟨es,clk,hn.kept hS' (by simpa using h1.ne.2.1)⟩,⟨BM,es',clk',hb.kept hS' (by simpa using h1.ne.2.2),fun p hp=>?_,hno⟩,xA.congr hG2 (fun x=>by rw [qA xP,List.mem_cons]),h1.inM,h1.ne,h1.one,h1.ok⟩;obtain ⟨s1,s2⟩:=hsl p hp;exact ⟨s1.kept hS' (fun x hx hm=>by have e : x = bg:=by simpa using hm
                                                                                                                                                                                                                                                                                                                  subst e;exact (s2 x hx).1 h1.inM.2.2),fun x hx=>⟨(s2 x hx).1,Nat.lt_of_lt_of_le (s2 x hx).2 hS'.size⟩⟩
  have hkf : zC [bg] w w2:=zC.trans ((zC.of_below (hB.mono (by rw [Hga.out];exact Nat.le_refl _))).mono (S':=[bg]) (by simp)) hS' (fun x hx=>.inl hx);clear b1 b2 hne hS hk2 hrun hr hc2 h1 hB hG2 hn hb hsl hno hS';(go_wp2_with fail);go_ret;exact ⟨rfl,hfin,hkf⟩
end
section
open Go.RowKit Go.Shelf
theorem m5 {P : Program} {T E : TypeId} {k bytes : Nat} (I : xF P T E k bytes) (w : World) (A : Option Addr) (n cap m : Nat) (hm : m ≤ cap) :
    (slS T (.slice A n cap) none (some (.int .i64 m)) (some (.int .i64 m))).run P w = .ok (.slice A m m) w:=by
  rw [dH I];unfold Instr.slice Instr.sliceBounds;simp only [Sem.run_bind,run_underlying I.und,Result.andThen_ok,Sem.run_pure,kL w m cap hm,kL w m m (Nat.le_refl _),I.sizeOf_run w];have e : (if m = 0 then A else A.map fun a=>a.add (0 * k)) = A:=by
    split
    · rfl
    · cases A with
      | none=>rfl
      | some a=>simp [Addr.add]
  simp only [Nat.sub_zero,e]
theorem grow0 (w : World) (n : Nat) (h0 : 0 < n) (hn : n ≤ 1000000) :
    Calls Tryz.prog 297 #[.slice none 0 0,.int .i64 n] w fun e w'=>∃ A cap,e = .returned (.slice A 0 cap) ∧ Own w' w.heap.size 39 32 A 0 cap [] ∧ Below w.heap.size w w':=by
  obtain ⟨i,z,hi,hz,hsz,hby,hzs⟩:=xX.info;have c:=Any8.slices_Grow_grow Tryz.layGrowId i z hi hz (by omega) none 0 0 n [] w (Nat.le_refl _) (by omega) (by rw [hby];omega) (by omega) (by simp) (fun _=>rfl) (by simp);have e25 : Tryz.layGrowId_ren.t 25 = 39:=rfl;have hG:=grownCap_ge w (0 + n) 0 39;have hM:=grownCap_le_maxLen w (0 + n) 0 39 (by unfold maxLen;omega);rw [e25] at c;obtain ⟨G,hGe⟩ : ∃ G,grownCap w (0 + n) 0 39 = G:=⟨_,rfl⟩
  rw [hGe] at c hG hM;clear hGe e25;refine c.mono ?_;rintro e w' ⟨rfl,rfl⟩;obtain ⟨cs,hcs⟩ : ∃ cs,(#[] ++ Builtin.zeroCells z.cells (0 + n - 0) ++ Builtin.zeroCells z.cells (G - (0 + n)) : Array Value) = cs:=⟨_,rfl⟩
  have hsz2 : cs.size = G * 32:=by
    rw [← hcs,Array.size_append,Array.size_append,size_zeroCells,size_zeroCells,hzs];simp only [List.size_toArray,List.length_nil,Nat.zero_add,Nat.sub_zero];rw [← Nat.add_mul,show n + (G - n) = G from by omega]
  have hcs' : (([] : List Value).toArray ++ Builtin.zeroCells z.cells (0 + n - 0) ++ Builtin.zeroCells z.cells (G - (0 + n)) : Array Value) = cs:=hcs;rw [hcs'];refine ⟨some ⟨w.heap.size,0,none⟩,G,rfl,⟨⟨rfl,.inr ⟨w.heap.size,G,cs,rfl,Nat.le_refl _,heap_alloc_new w.drew _,Nat.zero_le _,hM,hsz2,rfl⟩⟩,rfl,by simp⟩,((Below.refl _ _).drew).alloc (Nat.le_refl _) _⟩
theorem X0 (w : World) (q c0 : Nat) (A1 A2 A3 : Option Addr) (n1 n2 n3 c1 c2 c3 : Nat) (R1 R2 R3 : List zK) (h1 : y4 w A1 n1 R1) (h2 : y4 w A2 n2 R2) (h3 : y4 w A3 n3 R3) (f1 : A1 = none → c1 = 0) (f2 : A2 = none → c2 = 0) (f3 : A3 = none → c3 = 0)
    (k0 : w.cell? ⟨q,0,none⟩ = some (.slice A1 n1 c1)) (k1 : w.cell? ⟨q,1,none⟩ = some (.slice A2 n2 c2)) (k2 : w.cell? ⟨q,2,none⟩ = some (.slice A3 n3 c3)) (hp : 0 < n1 + n2 + n3) (hn : n1 + n2 + n3 ≤ 1000000) :
    Calls Tryz.prog 264 #[.slice (some ⟨q,0,none⟩) 3 c0] w fun e w'=>∃ A cap,e = .returned (.slice A (n1 + n2 + n3) cap) ∧ Own w' w.heap.size 39 32 A (n1 + n2 + n3) cap ((R1 ++ R2 ++ R3).map idC) ∧ Below w.heap.size w w':=by
  have cg:=grow0 w (n1 + n2 + n3) hp hn;rw [show ((n1 + n2 + n3 : Nat) : Int) = (n1 : Int) + (n2 : Int) + (n3 : Int) from by omega] at cg;go_enter Tryz.func264,Tryz.ntmps264
  (go_wp2_with fail);refine wp_loop_rounds 4 ?_;rw [rounds_succ];(go_wp2_with fail);rw [rounds_succ];(go_wp2_with fail);rw [rounds_succ];(go_wp2_with fail);rw [rounds_succ];(go_wp2_with fail);refine cg.mono ?_;rintro e w1 ⟨A,cap,rfl,hown,hb⟩;have k0':=(hb.cell (World.block_lt_of_cell? w _ k0)).trans k0;have k1':=(hb.cell (World.block_lt_of_cell? w _ k1)).trans k1;have k2':=(hb.cell (World.block_lt_of_cell? w _ k2)).trans k2;have t1 : y4 w1 A1 n1 R1:=SlR.below h1 hb;have t2 : y4 w1 A2 n2 R2:=SlR.below h2 hb;have t3 : y4 w1 A3 n3 R3:=SlR.below h3 hb;have hq : q < w.heap.size:=World.block_lt_of_cell? w _ k0;have hone : ∀ R : List zK,∀ r ∈ R.map idC,∀ u ∈ r.toList,u.oneCell' = true:=fun R r hr=>by
    obtain ⟨x,_,rfl⟩:=List.mem_map.1 hr;exact xW x
  have hsz:=hb.size;have Hone:=Lib.hid hone;clear cg hone;(go_wp2_with fail);refine wp_loop_rounds 4 ?_;rw [rounds_succ];go_wp2_with (at_builtin;refine yF xX rfl hown rfl t1 f1 (Hone.out _) (by omega) (by omega) (by omega) ?_;intro B1 d1 w2 hown2 hk2 hsub2)
  simp only [Nat.zero_add,List.nil_append] at hown2;have hb2 : Below w.heap.size w w2:=hb.trans (hk2.below (by have:=hb.size;omega) (fun x hx=>(hown.at_base hx).1));have hsz2:=hb2.size;have k12:=(hb2.cell (World.block_lt_of_cell? w _ k1)).trans k1;have k22:=(hb2.cell (World.block_lt_of_cell? w _ k2)).trans k2;have k02:=(hb2.cell (World.block_lt_of_cell? w _ k0)).trans k0;have t22 : y4 w2 A2 n2 R2:=SlR.below h2 hb2;clear hk2 hsub2 hown k0' k1' k2';rw [rounds_succ];go_wp2_with (at_builtin;refine yF xX rfl hown2 rfl t22 f2 (Hone.out _) (by omega) (by omega) (by omega) ?_;intro B3 d3 w3 hown3 hk3 hsub3)
  simp only [← List.map_append] at hown3;have hb3 : Below w.heap.size w w3:=hb2.trans (hk3.below (by have:=hb2.size;omega) (fun x hx=>(hown2.at_base hx).1));have hsz3:=hb3.size;have k13:=(hb3.cell (World.block_lt_of_cell? w _ k1)).trans k1;have k23:=(hb3.cell (World.block_lt_of_cell? w _ k2)).trans k2;have k03:=(hb3.cell (World.block_lt_of_cell? w _ k0)).trans k0;have t33 : y4 w3 A3 n3 R3:=SlR.below h3 hb3;clear hk3 hsub3 hown2 k02 k12 k22;rw [rounds_succ];go_wp2_with (at_builtin;refine yF xX rfl hown3 rfl t33 f3 (Hone.out _) (by omega) (by omega) (by omega) ?_;intro B4 d4 w4 hown4 hk4 hsub4)
  have hb4 : Below w.heap.size w w4:=hb3.trans (hk4.below (by omega) (fun x hx=>(hown3.at_base hx).1));rw [← List.map_append] at hown4;have Hown4:=Lib.hid hown4;have k04:=(hb4.cell (World.block_lt_of_cell? w _ k0)).trans k0;clear hk4 hsub4 hown3 k03 k13 k23 hown4;rw [rounds_succ];(go_wp2_with fail);go_ret;exact ⟨B4,d4,rfl,Hown4.out,hb4⟩
end
section
open Go.RowKit
theorem fK (N : List zW) (n : zW) (r : zK) : xV (N ++ [n]) r = if n.ref = r then xJ b9 (xV N r) n else xV N r:=by
  rw [← QE];exact nL (fun x=>by simp [or_comm]) r
theorem iO {κ ν : Type} [DecidableEq κ] {M : List (κ × ν)} {k : κ} {v : ν} {p : κ × ν} (h : p ∈ dZ M k v) : p = (k,v) ∨ (p ∈ M ∧ p.1 ≠ k):=by
  unfold dZ at h;split at h
  · obtain ⟨q,hq,rfl⟩:=List.mem_map.1 h;split
    · exact .inl rfl
    · rename_i hne;exact .inr ⟨hq,hne⟩
  · rename_i hno
    rcases List.mem_append.1 h with h | h
    · exact .inr ⟨h,fun e=>hno (List.mem_map.2 ⟨p,h,e⟩)⟩
    · exact .inl (by simpa using h)
theorem rX {κ ν : Type} [DecidableEq κ] {M : List (κ × ν)} {k r : κ} {v : ν} (h : r ∉ (dZ M k v).map (·.1)) : r ∉ M.map (·.1) ∧ r ≠ k:=by
  unfold dZ at h;split at h
  · rename_i hin
    have e : (M.map fun p=>if p.1 = k then (k,v) else p).map (·.1) = M.map (·.1):=by
      rw [List.map_map];refine List.map_congr_left fun p _=>?_;simp only [Function.comp_apply];split
      · rename_i h;exact h.symm
      · rfl
    rw [e] at h;exact ⟨h,fun e=>h (by rw [e];exact hin)⟩
  · rw [List.map_append,List.mem_append] at h;exact ⟨fun h1=>h (.inl h1),fun e=>h (.inr (by simp [e]))⟩
theorem X8 (w : World) : (zeroValue 50).run Tryz.prog w = .ok (.slice none 0 0) w:=by kernel_rfl
theorem blook {w : World} {M : List Nat} {bb : Nat} {N : List zW} {BM : List (zK × Sl)} {es : Array MapEntry} {clk : Nat} (hb : qG w bb idV slV d8 BM es clk)
    (hsl : ∀ p ∈ BM,SlW w p.2.A p.2.n p.2.c 32 (((xV N p.1).map zW.id).map idC) ∧ ∀ x ∈ blk p.2.A,x ∉ M ∧ x < w.heap.size) (hno : ∀ r,r ∉ BM.map (·.1) → xV N r = []) (r : zK) :
    ∃ s : Sl,SlW w s.A s.n s.c 32 (((xV N r).map zW.id).map idC) ∧ (∀ x ∈ blk s.A,x ∉ M ∧ x < w.heap.size) ∧
      ∀ w',qG w' bb idV slV d8 BM es clk → (Instr.lookup 189 (.map (some bb)) (.agg (idC r)) false).run Tryz.prog w' = .ok (.slice s.A s.n s.c) w':=by
  by_cases h : r ∈ BM.map (·.1)
  · obtain ⟨p,hp,rfl⟩:=List.mem_map.1 h;exact ⟨p.2,(hsl p hp).1,(hsl p hp).2,fun w' hm=>hm.hit uC Tryz.underlying189 trivial hp false⟩
  · refine ⟨⟨none,0,0⟩,?_,by simp [blk],fun w' hm=>hm.miss uC Tryz.underlying189 (X8 w') trivial h false⟩;rw [hno r h];exact SlW.none_
theorem YX {w : World} {bn : Nat} {N : List zW} {es : Array MapEntry} {clk : Nat} (hn : qG w bn idV cS d8 (N.map fun n=>(n.id,j4 n)) es clk) {y : zW} (hy : y ∈ N) (comma : Bool) :
    (Instr.lookup 188 (.map (some bn)) (.agg (idC y.id)) comma).run Tryz.prog w = .ok (if comma then .tuple #[.agg (y8 (j4 y)),.bool true] else .agg (y8 (j4 y))) w :=
  hn.hit uC Tryz.underlying188 trivial (List.mem_map.2 ⟨y,hy,rfl⟩) comma
@[go_sem ↓] theorem slIdC_rw (x : Value) (lo hi mx : Option Value) : Instr.sliceAt 50 x lo hi mx = slS 50 x lo hi mx:=rfl
@[go_sem ↓] theorem bsIds3_run (w : World) (A B C : Option Addr) (n m k a b c : Nat) : (Instr.buildSlice 370 3 #[(0,.slice A n a),(1,.slice B m b),(2,.slice C k c)]).run Tryz.prog w = .ok (.slice (some ⟨w.heap.size,0,none⟩) 3 3) (w.alloc (.cells #[.slice A n a,.slice B m b,.slice C k c] 50)):=by kernel_rfl
set_option maxRecDepth 100000 in
set_option maxHeartbeats 4000000 in
theorem sqhang (n : zW) (w : World) (M : List Nat) (g bn bb bg : Nat) (N : List zW) (G : List zK) (h : q5 w M g bn bb bg N G) (hM : ∀ x ∈ M,x < w.heap.size) (hnew : n.id ∉ N.map zW.id) (hE : kW n = 0) (hl : N.length ≤ 100000) :
    Calls Tryz.prog 215 #[.pointer (some ⟨g,0,none⟩),.agg (idC n.id),.agg (y8 (j4 n))] w fun e w'=>e = .returned (.tuple #[]) ∧ q5 w' M g bn bb bg (N ++ [n]) G ∧ zC [bn,bb] w w':=by
  have hB : Below w.heap.size w ((w.alloc (.cells (idC n.id) 39)).alloc (.cells (y8 (j4 n)) 193)):=((Below.refl _ _).alloc (Nat.le_refl _) _).alloc (by simp) _;have h1:=h.below hB;have hrd : zF ((w.alloc (.cells (idC n.id) 39)).alloc (.cells (y8 (j4 n)) 193)) w.heap.size 0 32 = some (idC n.id):=by simp [go_sem]
  have hrn : zF ((w.alloc (.cells (idC n.id) 39)).alloc (.cells (y8 (j4 n)) 193)) (w.heap.size + 1) 0 34 = some (y8 (j4 n)):=by simp [go_sem]
  have hltw:=h.lt;have hgw:=h.ltg;go_enter Tryz.func215,Tryz.ntmps215
  go_upto_region 1 with fail
  obtain ⟨ga,hga⟩ : ∃ ga,w.heap.size = ga:=⟨_,rfl⟩
  have Hga:=Lib.hid hga;rw [hga] at hrd hrn hB hltw hgw hM ⊢;obtain ⟨W,hW⟩ : ∃ W,W = (w.alloc (.cells (idC n.id) 39)).alloc (.cells (y8 (j4 n)) 193):=⟨_,rfl⟩
  rw [← hW] at h1 hrd hrn hB ⊢;clear hW hga;have hrr : zF W (ga + 1) 1 32 = some (idC n.ref):=by have:=y7 hrn (j:=1) (m:=32) (by omega);rw [uM] at this;simpa [j4] using this
  have hch : W.cell? ⟨ga + 1,0,none⟩ = some (.int .i64 n.h):=by have:=zD hrn (j:=0) (by omega);rw [lC] at this;simpa [j4] using this
  obtain ⟨es,clk,hn⟩:=h1.nodes;obtain ⟨BM,es',clk',hb,hsl,hno⟩:=h1.behind;obtain ⟨⟨A,sn,sc⟩,hsw,hsM,hlook⟩:=blook hb hsl hno n.ref;dsimp only at hsw hsM hlook;have hKN : ∀ y ∈ xV N n.ref,y ∈ N:=fun y hy=>(g0.1 hy).1;have hKl:=gQ N n.ref;have hKn : n ∉ xV N n.ref:=fun hm=>hnew (List.mem_map.2 ⟨n,hKN n hm,rfl⟩);have hc1:=h1.cell1;have hk : ∀ x : Subtype (Bel W),(Instr.lookup 189 (.map (some bb)) (.agg (idC n.ref)) false).run Tryz.prog x.1 = .ok (.slice A sn sc) x.1:=fun x=>hlook x.1 (hb.kept (zC.of_below x.2) (by simp));refine zE (Bel W) false (by kernel_rfl) (by kernel_rfl) (by kernel_rfl) (zG W) ?_;have hne:=zX W;have hS:=zG W;have b1:=zT hc1;have b2:=yD hrr;repeat (refine zB ?_ ?_;(focus (simp only [zA];done));intro K hK;go_simp;refine hK _ ?_;clear hK K)
  refine zN ?_;intro hS;have hB1 : Below ga w W.drew:=hB.drew;have h2 : q5 W.drew M g bn bb bg N G:=h1.below (zG W);have hn2:=hn.kept (zC.drew W) (by simp);have hsw2:=hsw.below (zG W);have hrd2 : zF W.drew ga 0 32 = some (idC n.id):=hrd;have hrn2 : zF W.drew (ga + 1) 0 34 = some (y8 (j4 n)):=hrn;have hrr2 : zF W.drew (ga + 1) 1 32 = some (idC n.ref):=hrr;have hch2 : W.drew.cell? ⟨ga + 1,0,none⟩ = some (.int .i64 n.h):=hch;clear b1 b2 hne hS hk hlook hc1 hb hsl hno hn hsw hrd hrn hrr hch h1 hB;have hlen : (xV N n.ref).length = sn:=by have:=hsw2.len;simpa using this
  obtain ⟨K,hK⟩ : ∃ K,xV N n.ref = K:=⟨_,rfl⟩
  rw [hK] at hsw2 hKN hKl hKn hlen;have HK:=Lib.hid hK;have Hlen:=Lib.hid hlen;have hsnl : sn ≤ 100000:=by omega
  clear hK hlen hKl;obtain ⟨W1,hW1⟩ : ∃ W1,W.drew = W1:=⟨_,rfl⟩
  rw [hW1] at hB1 h2 hn2 hsw2 hrd2 hrn2 hrr2 hch2 ⊢;have hW1s : W1.heap.size = W.heap.size:=by rw [← hW1];rfl
  rw [← hW1s] at hsM;clear hW1 hW1s;(go_wp2_with fail);go_loopw [7] (fun j wj=>∃ m : Nat,m ≤ sn ∧ j = .int .i64 m ∧ Hid (∀ i (hi : i < K.length),i < m → b9 K[i] n < 0) ∧ Below W1.heap.size W1 wj) (fun j _=>sn - (intOf j).toNat)
  case atStart=>exact ⟨0,Nat.zero_le _,rfl,(show ∀ i (hi : i < K.length),i < 0 → _ from fun i _ h=>absurd h (by omega)),Below.refl _ _⟩
  case round =>
    obtain ⟨m,hmO,rfl,hlow,hbj⟩:=hrel;have hrdj : zF wr ga 0 32 = some (idC n.id):=(zI (hbj.block ga (zL hrd2)) _ _).trans hrd2;have hchj : wr.cell? ⟨ga + 1,0,none⟩ = some (.int .i64 n.h):=(hbj.cell (p:=⟨ga + 1,0,none⟩) (zL hrn2)).trans hch2;have hsj:=h2.below hbj;have hswj:=hsw2.below hbj;by_cases hmlt : m < sn
    · obtain ⟨q,o,rfl,hrO⟩:=hswj.rd.at_ hmlt;rw [List.getElem_map,List.getElem_map] at hrO;have hmem : K[m]'(by rw [Hlen.out];exact hmlt) ∈ K:=List.getElem_mem _;obtain ⟨y,hy⟩ : ∃ y,K[m]'(by rw [Hlen.out];exact hmlt) = y:=⟨_,rfl⟩
      rw [hy] at hrO hmem;have hyN:=hKN y hmem;have hne' : n.id ≠ y.id:=fun e=>hnew (List.mem_map.2 ⟨y,hyN,e.symm⟩);have hca:=p8 (a:=n) (b:=y) hne';have hk2 : ∀ x : Subtype (Bel wr),(Instr.lookup 188 (.map (some bn)) (.agg (idC y.id)) false).run Tryz.prog x.1 = .ok (.agg (y8 ⟨y.h,y.ref,y.val⟩)) x.1:=fun x=>YX ((hn2.kept (zC.of_below hbj) (by simp)).kept (zC.of_below x.2) (by simp)) hyN false;have hc0:=hsj.cell0;have c2:=hahead n.h n.id y.h y.id wr.drew;obtain ⟨c,hc⟩ : ∃ c,t7 n.h n.id y.h y.id = c:=⟨_,rfl⟩
      rw [hc] at c2 hca;have Hy:=Lib.hid hy;have Hca:=Lib.hid hca;have Hmem:=Lib.hid hmem;clear hc hy hca hmem hne';go_upto_region 3 with fail
      refine zE (Bel wr) false (by kernel_rfl) (by kernel_rfl) (by kernel_rfl) (zG wr) ?_;have hne:=zX wr;have hS:=zG wr;have b1:=yD hrdj;have b2:=yD hrO;have b3:=zT hchj;have b4:=zT hc0;repeat (refine zB ?_ ?_;(focus (simp only [zA];done));intro K hK;go_simp;refine hK _ ?_;clear hK K)
      refine zH ?_ ?_ ?_;(focus (exact hS));(focus (simp only [zA];done));intro K hK;go_simp;refine (c2).mono ?_;rintro e w' ⟨rfl,hb⟩;replace hS:=yJ hS hb;refine ⟨_,rfl,hS,hK _ _ ?_⟩;clear hK K hb;repeat (refine zB ?_ ?_;(focus (simp only [zA];done));intro K hK;go_simp;refine hK _ ?_;clear hK K)
      refine zN ?_;intro hS;have hS' : Below wr.heap.size wr w':=hS;have hbz:=yN hbj hS';clear b1 b2 b3 b4 hne hS c2 hk2 hc0;cases c with
      | true =>
        (go_wp2_with fail);go_roundw
        case rel =>
          refine ⟨m + 1,by omega,by go_num,(show ∀ i (hi : i < K.length),i < m + 1 → b9 K[i] n < 0 from fun i hi hlt=>?_),hbz⟩;by_cases e : i = m
          · subst e;rw [Hy.out];exact of_decide_eq_true Hca.out
          · exact hlow.out i hi (by omega)
        case measure=>simp [intOf];omega
      | false =>
        have hat:=jQ (c:=b9) K n m (by rw [Hlen.out];exact hmO) hlow.out (fun hk'=>by
          rw [Hy.out];have h1 : ¬ b9 y n < 0:=of_decide_eq_false Hca.out;have h2 : b9 y n ≠ 0:=fun e=>hKn (by rw [← (sY.zero _ _).1 e];exact Hmem.out);omega)
        have Hat:=Lib.hid hat;have hsq:=h2.below hbz;have hswz:=hsw2.below hbz;have hrdz : zF w' ga 0 32 = some (idC n.id):=(zI (hbz.block ga (zL hrd2)) _ _).trans hrd2;have hrnz : zF w' (ga + 1) 0 34 = some (y8 (j4 n)):=(zI (hbz.block (ga + 1) (zL hrn2)) _ _).trans hrn2;have hBz : Below ga w w':=hB1.trans (hbz.mono (by have:=zL hrd2;omega));have hszz:=hbz.size;clear hat hrO hrdj hchj hsj hswj hbj hbz hS';obtain ⟨V,rfl⟩ : ∃ V,V = w':=⟨w',rfl⟩
        obtain ⟨A,hA1⟩ : ∃ A,(some ⟨q,o,none⟩ : Option Addr) = A:=⟨_,rfl⟩
        rw [hA1] at hswz hsM ⊢;clear hA1;have hrrz : zF V (ga + 1) 1 32 = some (idC n.ref):=by have:=y7 hrnz (j:=1) (m:=32) (by omega);rw [uM] at this;simpa [j4] using this
        have hc1:=hsq.cell1;have hmc : m ≤ sc:=Nat.le_trans hmO hswz.le;have hmx : ∀ w0 : World,(slS 50 (.slice A sn sc) none (some (.int .i64 m)) (some (.int .i64 m))).run Tryz.prog w0 = .ok (.slice A m m) w0:=fun w0=>m5 xX w0 A sn sc m hmc;obtain ⟨Ah,ch,hhi,hhs,hhf⟩:=hswz.hi (P:=Tryz.prog) xX (m:=m) hmO;have hgbb : g ∉ [bb]:=by simpa using hsq.neg.2.1
        go_upto_region 5 with fail
        refine zE (Kp [bb] V) false (by kernel_rfl) (by kernel_rfl) (by kernel_rfl) (yB [bb] V) ?_;have hne:=xD [bb] V;have hS:=yB [bb] V;have b1:=zZ hc1 hgbb;have b2:=yP hrdz (S:=[bb]) (by simp;omega);have b3:=yP hrrz (S:=[bb]) (by simp;omega);repeat (refine zB ?_ ?_;(focus (simp only [zA];done));intro K hK;go_simp;refine hK _ ?_;clear hK K)
        refine zH ?_ ?_ ?_;(focus (exact hS));(focus (simp only [zA];done));intro K hK;go_simp;refine zY (qE hS _) (fun hS=>?_);refine hK _ _ ?_;clear hK K;repeat (refine zB ?_ ?_;(focus (simp only [zA];done));intro K hK;go_simp;refine hK _ ?_;clear hK K)
        refine zH ?_ ?_ ?_;(focus (exact hS));(focus (simp only [zA];done));intro K hK;go_simp;refine zY (qE hS _) (fun hS=>?_);refine hK _ _ ?_;clear hK K;have hbX : Below V.heap.size V ((V.alloc (.cells (idC n.id) 39)).alloc (.cells #[.slice A m m,.slice (some ⟨V.heap.size,0,none⟩) 1 1,.slice Ah (sn - m) ch] 50)).drew:=(((Below.refl _ _).alloc (Nat.le_refl _) _).alloc (by simp) _).drew;have t1 : y4 ((V.alloc (.cells (idC n.id) 39)).alloc (.cells #[.slice A m m,.slice (some ⟨V.heap.size,0,none⟩) 1 1,.slice Ah (sn - m) ch] 50)).drew A m ((K.map zW.id).take m):=by
          have:=(hswz.rd.below hbX).take_ hmO
          rwa [← List.map_take] at this
        have t3 : y4 ((V.alloc (.cells (idC n.id) 39)).alloc (.cells #[.slice A m m,.slice (some ⟨V.heap.size,0,none⟩) 1 1,.slice Ah (sn - m) ch] 50)).drew Ah (sn - m) ((K.map zW.id).drop m):=by
          have:=hhs _ (hswz.rd.below hbX)
          rwa [← List.map_drop] at this
        have t2 : y4 ((V.alloc (.cells (idC n.id) 39)).alloc (.cells #[.slice A m m,.slice (some ⟨V.heap.size,0,none⟩) 1 1,.slice Ah (sn - m) ch] 50)).drew (some ⟨V.heap.size,0,none⟩) 1 [n.id]:=⟨rfl,fun _=>⟨V.heap.size,0,rfl,fun i hi=>by
          have : i = 0:=by simpa using hi
          subst this;simp [go_sem]⟩⟩
        have k0 : ((V.alloc (.cells (idC n.id) 39)).alloc (.cells #[.slice A m m,.slice (some ⟨V.heap.size,0,none⟩) 1 1,.slice Ah (sn - m) ch] 50)).drew.cell? ⟨V.heap.size + 1,0,none⟩ = some (.slice A m m):=by simp [go_sem]
        have k1 : ((V.alloc (.cells (idC n.id) 39)).alloc (.cells #[.slice A m m,.slice (some ⟨V.heap.size,0,none⟩) 1 1,.slice Ah (sn - m) ch] 50)).drew.cell? ⟨V.heap.size + 1,1,none⟩ = some (.slice (some ⟨V.heap.size,0,none⟩) 1 1):=by simp [go_sem]
        have k2 : ((V.alloc (.cells (idC n.id) 39)).alloc (.cells #[.slice A m m,.slice (some ⟨V.heap.size,0,none⟩) 1 1,.slice Ah (sn - m) ch] 50)).drew.cell? ⟨V.heap.size + 1,2,none⟩ = some (.slice Ah (sn - m) ch):=by simp [go_sem]
        have hXs : ((V.alloc (.cells (idC n.id) 39)).alloc (.cells #[.slice A m m,.slice (some ⟨V.heap.size,0,none⟩) 1 1,.slice Ah (sn - m) ch] 50)).drew.heap.size = V.heap.size + 2:=by simp [World.drew]
        have hsV:=hBz.size;have hgaV:=zL hrdz;obtain ⟨X,hX⟩ : ∃ X,((V.alloc (.cells (idC n.id) 39)).alloc (.cells #[.slice A m m,.slice (some ⟨V.heap.size,0,none⟩) 1 1,.slice Ah (sn - m) ch] 50)).drew = X:=⟨_,rfl⟩
        rw [hX] at hbX t1 t2 t3 k0 k1 k2 hXs hS ⊢;clear hX;have cc:=X0 X (V.heap.size + 1) 3 A (some ⟨V.heap.size,0,none⟩) Ah m 1 (sn - m) m 1 ch _ _ _ t1 t2 t3 (fun e=>by have:=hswz.nil e;omega) (fun e=>by cases e) hhf k0 k1 k2 (by omega) (by omega);repeat (refine zB ?_ ?_;(focus (simp only [zA];done));intro K hK;go_simp;refine hK _ ?_;clear hK K)
        refine zH ?_ ?_ ?_;(focus (exact hS));(focus (simp only [zA];done));intro K hK;go_simp;refine cc.mono ?_;rintro e wC ⟨A5,cap5,rfl,hown5,hb5⟩;replace hS:=kX hS hb5;refine ⟨_,rfl,hS,hK _ _ ?_⟩;clear hK K cc k0 k1 k2 t1 t2 t3;have hSC : zC [bb] V wC:=hS;obtain ⟨BM2,es2,clk2,hb2,hsl2,hno2⟩:=hsq.behind;have hVC:=yN hbX hb5;have hbC:=hb2.kept (zC.of_below hVC) (by simp);have hL5 : ((K.map zW.id).take m ++ [n.id] ++ (K.map zW.id).drop m) = (xJ b9 K n).map zW.id:=by rw [Hat.out];simp [List.map_take,List.map_drop]
        rw [hL5] at hown5;have hslC:=hown5.slw;have hblC : ∀ x ∈ blk A5,x ∉ M ∧ x < wC.heap.size:=fun x hx=>by
          obtain ⟨h1,h2⟩:=hown5.at_base hx;exact ⟨fun hm=>by have:=hM x hm;omega,h2⟩
        obtain ⟨wD,esD,clkD,hrun,hmD,hkD⟩:=hbC.update (P:=Tryz.prog) (v:=(⟨A5,m + 1 + (sn - m),cap5⟩ : Sl)) uC Tryz.underlying189 (k:=n.ref) trivial;change (Instr.mapUpdate 189 (.map (some bb)) (.agg (idC n.ref)) (.slice A5 (m + 1 + (sn - m)) cap5)).run Tryz.prog wC = .ok () wD at hrun;refine zH ?_ ?_ ?_;(focus (exact hS));(focus (simp only [zA];done));intro K hK;go_simp;refine zY (jF hS hkD (by simp)) (fun hS=>?_);refine hK _ _ ?_;clear hK K;refine zN ?_;intro hS;have hSD : zC [bb] V wD:=hS;have hblkD:=(hSD.block g hsq.ltg hgbb).trans hsq.blk;have hbnb : bn ∉ [bb]:=by simpa using hsq.ne.1
        have hbgb : bg ∉ [bb]:=by simpa using fun e=>hsq.ne.2.2 e.symm
        obtain ⟨esN,clkN,hnV⟩:=hsq.nodes;have hnD:=hnV.kept hSD hbnb;have hgD:=hsq.gone.kept hSD hbgb;have hslD : SlW wD A5 (m + 1 + (sn - m)) cap5 32 (((xJ b9 K n).map zW.id).map idC):=hslC.kept hkD (fun x hx hm=>by
          have e : x = bb:=by simpa using hm
          subst e;exact (hblC _ hx).1 hsq.inM.2.1)
        have hrdD : zF wD ga 0 32 = some (idC n.id):=(hSD.row hgaV (by simp;omega) _ _).trans hrdz;have hrnD : zF wD (ga + 1) 0 34 = some (y8 (j4 n)):=(hSD.row (zL hrnz) (by simp;omega) _ _).trans hrnz;have hc0D : wD.cell? ⟨g,0,none⟩ = some (.map (some bn)):=by rw [cell_of_row wD g 0 _ _ _ hblkD];rfl
        have hsDs:=hSD.size;clear b1 b2 b3 hne hS hrun hbC hnV hslC hb5 hbX hVC hmx hhi hhs hrrz hc1;go_upto_region 6 with fail
        obtain ⟨wE,esE,clkE,hrun,hmE,hkE⟩:=(hnD.kept (zC.drew wD) (by simp)).update (P:=Tryz.prog) (v:=j4 n) uC Tryz.underlying188 (k:=n.id) trivial;change (Instr.mapUpdate 188 (.map (some bn)) (.agg (idC n.id)) (.agg (y8 (j4 n)))).run Tryz.prog wD.drew = .ok () wE at hrun;have hgbn : g ∉ [bn]:=by simpa using hsq.neg.1
        refine zE (Kp [bn] wD) false (by kernel_rfl) (by kernel_rfl) (by kernel_rfl) (yB [bn] wD) ?_;have hne:=xD [bn] wD;have hS:=yB [bn] wD;have b1:=zZ hc0D hgbn;have b2:=yP hrdD (S:=[bn]) (by simp;omega);have b3:=yP hrnD (S:=[bn]) (by simp;omega);repeat (refine zB ?_ ?_;(focus (simp only [zA];done));intro K hK;go_simp;refine hK _ ?_;clear hK K)
        refine zH ?_ ?_ ?_;(focus (exact hS));(focus (simp only [zA];done));intro K hK;go_simp;refine zY (jF hS hkE (by simp)) (fun hS=>?_);refine hK _ _ ?_;clear hK K;refine zN ?_;intro hS;have hSE : zC [bn] wD wE:=hS;have hput : dZ (N.map fun n=>(n.id,j4 n)) n.id (j4 n) = (N ++ [n]).map fun n=>(n.id,j4 n):=by
          unfold dZ;rw [if_neg (by rw [List.map_map];exact hnew),List.map_append];rfl
        rw [hput] at hmE;have hbnE : bb ∉ [bn]:=by simpa using fun e=>hsq.ne.1 e.symm
        have hbgE : bg ∉ [bn]:=by simpa using fun e=>hsq.ne.2.1 e.symm
        have hfin : q5 wE M g bn bb bg (N ++ [n]) G:=by
          refine ⟨(hSE.block g (by have:=hsq.ltg;omega) hgbn).trans hblkD,⟨esE,clkE,hmE⟩,⟨_,esD,clkD,hmD.kept hSE hbnE,fun p hp=>?_,fun r hr=>?_⟩,hgD.kept hSE hbgE,hsq.inM,hsq.ne,?_,?_⟩
          · rcases iO hp with e | ⟨hp,hne⟩
            · subst e;dsimp only;have hki : xV (N ++ [n]) n.ref = xJ b9 (xV N n.ref) n:=by rw [fK,if_pos rfl]
              rw [hki,HK.out];exact ⟨hslD.kept hSE (fun x hx hm=>by
                have e : x = bn:=by simpa using hm
                subst e;exact (hblC _ hx).1 hsq.inM.1),fun x hx=>⟨(hblC x hx).1,Nat.lt_of_lt_of_le (hblC x hx).2 (Nat.le_trans hkD.size hSE.size)⟩⟩
            · obtain ⟨s1,s2⟩:=hsl2 p hp;rw [fK,if_neg (fun e=>hne e.symm)];refine ⟨(s1.kept hSD (fun x hx hm=>?_)).kept hSE (fun x hx hm=>?_),fun x hx=>⟨(s2 x hx).1,Nat.lt_of_lt_of_le (s2 x hx).2 (Nat.le_trans hSD.size hSE.size)⟩⟩
              · have e : x = bb:=by simpa using hm
                subst e;exact (s2 _ hx).1 hsq.inM.2.1
              · have e : x = bn:=by simpa using hm
                subst e;exact (s2 _ hx).1 hsq.inM.1
          · obtain ⟨h1,h2⟩:=rX hr;rw [fK,if_neg (fun e=>h2 e.symm)];exact hno2 r h1
          · intro a ha b hb' e;rcases List.mem_append.1 ha with ha1 | ha1 <;> rcases List.mem_append.1 hb' with hb1 | hb1
            · exact hsq.one a ha1 b hb1 e
            · have e2 : b = n:=by simpa using hb1
              rw [e2] at e;exact absurd (List.mem_map.2 ⟨a,ha1,e⟩) hnew
            · have e2 : a = n:=by simpa using ha1
              rw [e2] at e;exact absurd (List.mem_map.2 ⟨b,hb1,e.symm⟩) hnew
            · have e1 : a = n:=by simpa using ha1
              have e2 : b = n:=by simpa using hb1
              rw [e1,e2]
          · intro x hx;rcases List.mem_append.1 hx with hx | hx
            · exact hsq.ok x hx
            · have e : x = n:=by simpa using hx
              rw [e];exact hE
        have hkf : zC [bn,bb] w wE:=zC.trans (zC.trans ((zC.of_below (hBz.mono (by rw [Hga.out];exact Nat.le_refl _))).mono (S':=[bn,bb]) (by simp)) (hSD.mono (S':=[bn,bb]) (by simp)) (fun x hx=>.inl hx)) (hSE.mono (S':=[bn,bb]) (by simp)) (fun x hx=>.inl hx);clear b1 b2 b3 hne hS hkE hkD hrun hmE hmD hnD hgD hslD hrdD hrnD hc0D hblkD hsl2 hno2 hSE hSD hsq hput;(go_wp2_with fail);go_end0;exact ⟨rfl,hfin,hkf⟩
    · have hd : decide (m < sn) = false:=by simpa using hmlt
      have hat:=jQ (c:=b9) K n m (by rw [Hlen.out];exact hmO) hlow.out (fun hk'=>absurd (by rw [← Hlen.out];exact hk') hmlt);have Hat:=Lib.hid hat;clear hat;go_upto_region 3 with fail
      refine zE (Bel wr) false (by kernel_rfl) (by kernel_rfl) (by kernel_rfl) (zG wr) ?_;have hne:=zX wr;have hS:=zG wr;repeat (refine zB ?_ ?_;(focus (simp only [zA];done));intro K hK;go_simp;refine hK _ ?_;clear hK K)
      refine zH ?_ ?_ ?_;(focus (exact hS));(focus (simp only [zA];done));intro K hK;go_simp;refine hK _ _ ?_;clear hK K;repeat (refine zB ?_ ?_;(focus (simp only [zA];done));intro K hK;go_simp;refine hK _ ?_;clear hK K)
      refine zN ?_;intro hS;have hbz:=hbj.drew;have hsq:=h2.below hbz;have hswz:=hsw2.below hbz;have hrdz : zF wr.drew ga 0 32 = some (idC n.id):=hrdj;have hrnz : zF wr.drew (ga + 1) 0 34 = some (y8 (j4 n)):=(zI (hbz.block (ga + 1) (zL hrn2)) _ _).trans hrn2;have hBz : Below ga w wr.drew:=hB1.trans (hbz.mono (by have:=zL hrd2;omega));have hszz:=hbz.size;clear hne hS hbz hbj hmlt hd hsj hswj hchj hrdj;obtain ⟨V,hV⟩ : ∃ V,wr.drew = V:=⟨_,rfl⟩
      rw [hV] at hsq hswz hrdz hrnz hBz hszz ⊢;clear hV;have hrrz : zF V (ga + 1) 1 32 = some (idC n.ref):=by have:=y7 hrnz (j:=1) (m:=32) (by omega);rw [uM] at this;simpa [j4] using this
      have hc1:=hsq.cell1;have hmc : m ≤ sc:=Nat.le_trans hmO hswz.le;have hmx : ∀ w0 : World,(slS 50 (.slice A sn sc) none (some (.int .i64 m)) (some (.int .i64 m))).run Tryz.prog w0 = .ok (.slice A m m) w0:=fun w0=>m5 xX w0 A sn sc m hmc;obtain ⟨Ah,ch,hhi,hhs,hhf⟩:=hswz.hi (P:=Tryz.prog) xX (m:=m) hmO;have hgbb : g ∉ [bb]:=by simpa using hsq.neg.2.1
      go_upto_region 5 with fail
      refine zE (Kp [bb] V) false (by kernel_rfl) (by kernel_rfl) (by kernel_rfl) (yB [bb] V) ?_;have hne:=xD [bb] V;have hS:=yB [bb] V;have b1:=zZ hc1 hgbb;have b2:=yP hrdz (S:=[bb]) (by simp;omega);have b3:=yP hrrz (S:=[bb]) (by simp;omega);repeat (refine zB ?_ ?_;(focus (simp only [zA];done));intro K hK;go_simp;refine hK _ ?_;clear hK K)
      refine zH ?_ ?_ ?_;(focus (exact hS));(focus (simp only [zA];done));intro K hK;go_simp;refine zY (qE hS _) (fun hS=>?_);refine hK _ _ ?_;clear hK K;repeat (refine zB ?_ ?_;(focus (simp only [zA];done));intro K hK;go_simp;refine hK _ ?_;clear hK K)
      refine zH ?_ ?_ ?_;(focus (exact hS));(focus (simp only [zA];done));intro K hK;go_simp;refine zY (qE hS _) (fun hS=>?_);refine hK _ _ ?_;clear hK K;have hbX : Below V.heap.size V ((V.alloc (.cells (idC n.id) 39)).alloc (.cells #[.slice A m m,.slice (some ⟨V.heap.size,0,none⟩) 1 1,.slice Ah (sn - m) ch] 50)).drew:=(((Below.refl _ _).alloc (Nat.le_refl _) _).alloc (by simp) _).drew;have t1 : y4 ((V.alloc (.cells (idC n.id) 39)).alloc (.cells #[.slice A m m,.slice (some ⟨V.heap.size,0,none⟩) 1 1,.slice Ah (sn - m) ch] 50)).drew A m ((K.map zW.id).take m):=by
        have:=(hswz.rd.below hbX).take_ hmO
        rwa [← List.map_take] at this
      have t3 : y4 ((V.alloc (.cells (idC n.id) 39)).alloc (.cells #[.slice A m m,.slice (some ⟨V.heap.size,0,none⟩) 1 1,.slice Ah (sn - m) ch] 50)).drew Ah (sn - m) ((K.map zW.id).drop m):=by
        have:=hhs _ (hswz.rd.below hbX)
        rwa [← List.map_drop] at this
      have t2 : y4 ((V.alloc (.cells (idC n.id) 39)).alloc (.cells #[.slice A m m,.slice (some ⟨V.heap.size,0,none⟩) 1 1,.slice Ah (sn - m) ch] 50)).drew (some ⟨V.heap.size,0,none⟩) 1 [n.id]:=⟨rfl,fun _=>⟨V.heap.size,0,rfl,fun i hi=>by
        have : i = 0:=by simpa using hi
        subst this;simp [go_sem]⟩⟩
      have k0 : ((V.alloc (.cells (idC n.id) 39)).alloc (.cells #[.slice A m m,.slice (some ⟨V.heap.size,0,none⟩) 1 1,.slice Ah (sn - m) ch] 50)).drew.cell? ⟨V.heap.size + 1,0,none⟩ = some (.slice A m m):=by simp [go_sem]
      have k1 : ((V.alloc (.cells (idC n.id) 39)).alloc (.cells #[.slice A m m,.slice (some ⟨V.heap.size,0,none⟩) 1 1,.slice Ah (sn - m) ch] 50)).drew.cell? ⟨V.heap.size + 1,1,none⟩ = some (.slice (some ⟨V.heap.size,0,none⟩) 1 1):=by simp [go_sem]
      have k2 : ((V.alloc (.cells (idC n.id) 39)).alloc (.cells #[.slice A m m,.slice (some ⟨V.heap.size,0,none⟩) 1 1,.slice Ah (sn - m) ch] 50)).drew.cell? ⟨V.heap.size + 1,2,none⟩ = some (.slice Ah (sn - m) ch):=by simp [go_sem]
      have hXs : ((V.alloc (.cells (idC n.id) 39)).alloc (.cells #[.slice A m m,.slice (some ⟨V.heap.size,0,none⟩) 1 1,.slice Ah (sn - m) ch] 50)).drew.heap.size = V.heap.size + 2:=by simp [World.drew]
      have hsV:=hBz.size;have hgaV:=zL hrdz;obtain ⟨X,hX⟩ : ∃ X,((V.alloc (.cells (idC n.id) 39)).alloc (.cells #[.slice A m m,.slice (some ⟨V.heap.size,0,none⟩) 1 1,.slice Ah (sn - m) ch] 50)).drew = X:=⟨_,rfl⟩
      rw [hX] at hbX t1 t2 t3 k0 k1 k2 hXs hS ⊢;clear hX;have cc:=X0 X (V.heap.size + 1) 3 A (some ⟨V.heap.size,0,none⟩) Ah m 1 (sn - m) m 1 ch _ _ _ t1 t2 t3 (fun e=>by have:=hswz.nil e;omega) (fun e=>by cases e) hhf k0 k1 k2 (by omega) (by omega);repeat (refine zB ?_ ?_;(focus (simp only [zA];done));intro K hK;go_simp;refine hK _ ?_;clear hK K)
      refine zH ?_ ?_ ?_;(focus (exact hS));(focus (simp only [zA];done));intro K hK;go_simp;refine cc.mono ?_;rintro e wC ⟨A5,cap5,rfl,hown5,hb5⟩;replace hS:=kX hS hb5;refine ⟨_,rfl,hS,hK _ _ ?_⟩;clear hK K cc k0 k1 k2 t1 t2 t3;have hSC : zC [bb] V wC:=hS;obtain ⟨BM2,es2,clk2,hb2,hsl2,hno2⟩:=hsq.behind;have hVC:=yN hbX hb5;have hbC:=hb2.kept (zC.of_below hVC) (by simp);have hL5 : ((K.map zW.id).take m ++ [n.id] ++ (K.map zW.id).drop m) = (xJ b9 K n).map zW.id:=by rw [Hat.out];simp [List.map_take,List.map_drop]
      rw [hL5] at hown5;have hslC:=hown5.slw;have hblC : ∀ x ∈ blk A5,x ∉ M ∧ x < wC.heap.size:=fun x hx=>by
        obtain ⟨h1,h2⟩:=hown5.at_base hx;exact ⟨fun hm=>by have:=hM x hm;omega,h2⟩
      obtain ⟨wD,esD,clkD,hrun,hmD,hkD⟩:=hbC.update (P:=Tryz.prog) (v:=(⟨A5,m + 1 + (sn - m),cap5⟩ : Sl)) uC Tryz.underlying189 (k:=n.ref) trivial;change (Instr.mapUpdate 189 (.map (some bb)) (.agg (idC n.ref)) (.slice A5 (m + 1 + (sn - m)) cap5)).run Tryz.prog wC = .ok () wD at hrun;refine zH ?_ ?_ ?_;(focus (exact hS));(focus (simp only [zA];done));intro K hK;go_simp;refine zY (jF hS hkD (by simp)) (fun hS=>?_);refine hK _ _ ?_;clear hK K;refine zN ?_;intro hS;have hSD : zC [bb] V wD:=hS;have hblkD:=(hSD.block g hsq.ltg hgbb).trans hsq.blk;have hbnb : bn ∉ [bb]:=by simpa using hsq.ne.1
      have hbgb : bg ∉ [bb]:=by simpa using fun e=>hsq.ne.2.2 e.symm
      obtain ⟨esN,clkN,hnV⟩:=hsq.nodes;have hnD:=hnV.kept hSD hbnb;have hgD:=hsq.gone.kept hSD hbgb;have hslD : SlW wD A5 (m + 1 + (sn - m)) cap5 32 (((xJ b9 K n).map zW.id).map idC):=hslC.kept hkD (fun x hx hm=>by
        have e : x = bb:=by simpa using hm
        subst e;exact (hblC _ hx).1 hsq.inM.2.1)
      have hrdD : zF wD ga 0 32 = some (idC n.id):=(hSD.row hgaV (by simp;omega) _ _).trans hrdz;have hrnD : zF wD (ga + 1) 0 34 = some (y8 (j4 n)):=(hSD.row (zL hrnz) (by simp;omega) _ _).trans hrnz;have hc0D : wD.cell? ⟨g,0,none⟩ = some (.map (some bn)):=by rw [cell_of_row wD g 0 _ _ _ hblkD];rfl
      have hsDs:=hSD.size;clear b1 b2 b3 hne hS hrun hbC hnV hslC hb5 hbX hVC hmx hhi hhs hrrz hc1;go_upto_region 6 with fail
      obtain ⟨wE,esE,clkE,hrun,hmE,hkE⟩:=(hnD.kept (zC.drew wD) (by simp)).update (P:=Tryz.prog) (v:=j4 n) uC Tryz.underlying188 (k:=n.id) trivial;change (Instr.mapUpdate 188 (.map (some bn)) (.agg (idC n.id)) (.agg (y8 (j4 n)))).run Tryz.prog wD.drew = .ok () wE at hrun;have hgbn : g ∉ [bn]:=by simpa using hsq.neg.1
      refine zE (Kp [bn] wD) false (by kernel_rfl) (by kernel_rfl) (by kernel_rfl) (yB [bn] wD) ?_;have hne:=xD [bn] wD;have hS:=yB [bn] wD;have b1:=zZ hc0D hgbn;have b2:=yP hrdD (S:=[bn]) (by simp;omega);have b3:=yP hrnD (S:=[bn]) (by simp;omega);repeat (refine zB ?_ ?_;(focus (simp only [zA];done));intro K hK;go_simp;refine hK _ ?_;clear hK K)
      refine zH ?_ ?_ ?_;(focus (exact hS));(focus (simp only [zA];done));intro K hK;go_simp;refine zY (jF hS hkE (by simp)) (fun hS=>?_);refine hK _ _ ?_;clear hK K;refine zN ?_;intro hS;have hSE : zC [bn] wD wE:=hS;have hput : dZ (N.map fun n=>(n.id,j4 n)) n.id (j4 n) = (N ++ [n]).map fun n=>(n.id,j4 n):=by
        unfold dZ;rw [if_neg (by rw [List.map_map];exact hnew),List.map_append];rfl
      rw [hput] at hmE;have hbnE : bb ∉ [bn]:=by simpa using fun e=>hsq.ne.1 e.symm
      have hbgE : bg ∉ [bn]:=by simpa using fun e=>hsq.ne.2.1 e.symm
      have hfin : q5 wE M g bn bb bg (N ++ [n]) G:=by
        refine ⟨(hSE.block g (by have:=hsq.ltg;omega) hgbn).trans hblkD,⟨esE,clkE,hmE⟩,⟨_,esD,clkD,hmD.kept hSE hbnE,fun p hp=>?_,fun r hr=>?_⟩,hgD.kept hSE hbgE,hsq.inM,hsq.ne,?_,?_⟩
        · rcases iO hp with e | ⟨hp,hne⟩
          · subst e;dsimp only;have hki : xV (N ++ [n]) n.ref = xJ b9 (xV N n.ref) n:=by rw [fK,if_pos rfl]
            rw [hki,HK.out];exact ⟨hslD.kept hSE (fun x hx hm=>by
              have e : x = bn:=by simpa using hm
              subst e;exact (hblC _ hx).1 hsq.inM.1),fun x hx=>⟨(hblC x hx).1,Nat.lt_of_lt_of_le (hblC x hx).2 (Nat.le_trans hkD.size hSE.size)⟩⟩
          · obtain ⟨s1,s2⟩:=hsl2 p hp;rw [fK,if_neg (fun e=>hne e.symm)];refine ⟨(s1.kept hSD (fun x hx hm=>?_)).kept hSE (fun x hx hm=>?_),fun x hx=>⟨(s2 x hx).1,Nat.lt_of_lt_of_le (s2 x hx).2 (Nat.le_trans hSD.size hSE.size)⟩⟩
            · have e : x = bb:=by simpa using hm
              subst e;exact (s2 _ hx).1 hsq.inM.2.1
            · have e : x = bn:=by simpa using hm
              subst e;exact (s2 _ hx).1 hsq.inM.1
        · obtain ⟨h1,h2⟩:=rX hr;rw [fK,if_neg (fun e=>h2 e.symm)];exact hno2 r h1
        · intro a ha b hb' e;rcases List.mem_append.1 ha with ha1 | ha1 <;> rcases List.mem_append.1 hb' with hb1 | hb1
          · exact hsq.one a ha1 b hb1 e
          · have e2 : b = n:=by simpa using hb1
            rw [e2] at e;exact absurd (List.mem_map.2 ⟨a,ha1,e⟩) hnew
          · have e2 : a = n:=by simpa using ha1
            rw [e2] at e;exact absurd (List.mem_map.2 ⟨b,hb1,e.symm⟩) hnew
          · have e1 : a = n:=by simpa using ha1
            have e2 : b = n:=by simpa using hb1
            rw [e1,e2]
        · intro x hx;rcases List.mem_append.1 hx with hx | hx
          · exact hsq.ok x hx
          · have e : x = n:=by simpa using hx
            rw [e];exact hE
      have hkf : zC [bn,bb] w wE:=zC.trans (zC.trans ((zC.of_below (hBz.mono (by rw [Hga.out];exact Nat.le_refl _))).mono (S':=[bn,bb]) (by simp)) (hSD.mono (S':=[bn,bb]) (by simp)) (fun x hx=>.inl hx)) (hSE.mono (S':=[bn,bb]) (by simp)) (fun x hx=>.inl hx);clear b1 b2 b3 hne hS hkE hkD hrun hmE hmD hnD hgD hslD hrdD hrnD hc0D hblkD hsl2 hno2 hSE hSD hsq hput;(go_wp2_with fail);go_end0;exact ⟨rfl,hfin,hkf⟩
end
end Go.Proofs.YtgfpjjppeldhbaaGreatDoor
