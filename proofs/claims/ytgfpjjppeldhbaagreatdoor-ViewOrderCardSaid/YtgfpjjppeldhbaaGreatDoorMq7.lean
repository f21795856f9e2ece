/- Part 7 of the texts that lead to this claim: the walks of the functions and the plain law, in order. -/
import Derived.Test.YtgfpjjppeldhbaaGreatDoorMq6
import Derived.Laws.StructEq
namespace Go.Proofs.YtgfpjjppeldhbaaGreatDoor
section
open Go.RowKit Go.Sort Go.Shelf
def psort (S : List Pair) : List Pair:=S.mergeSort fun x y=>!(ltOf cmpPair y x)
theorem psort_le (S : List Pair) : (psort S).Pairwise (fun x y=>¬ cmpPair y x < 0):=by
  have htot : ∀ a b : Pair,((!ltOf cmpPair b a) || !ltOf cmpPair a b) = true:=fun a b=>by
    unfold ltOf;by_cases h1 : cmpPair b a < 0
    · have:=totPair.asym h1;simp [this]
    · simp [h1]
  have htr : ∀ a b d : Pair,(!ltOf cmpPair b a) = true → (!ltOf cmpPair d b) = true → (!ltOf cmpPair d a) = true:=fun a b d h1 h2=>by
    unfold ltOf at *;simp only [Bool.not_eq_true',decide_eq_false_iff_not] at h1 h2 ⊢;intro h3;exact h2 (totPair.le_trans (a:=d) (b:=a) (d:=b) (totPair.asym h3) (by
      by_cases e : a = b
      · subst e;exact absurd h3 h2
      · exact totPair.flip h1 (fun e'=>e e'.symm)))
  exact List.Pairwise.imp (fun {a b} h=>by simpa [ltOf] using h) (List.pairwise_mergeSort htr htot S)
theorem psort_perm (S : List Pair) : (psort S).Perm S:=List.mergeSort_perm _ _
theorem isAggPair (w : World) : (isAgg 98).run Tryz.prog w = .ok true w:=by simp [isAgg,run_underlying Tryz.underlying98]
theorem size_pairs (w : World) : (Go.sizeOf 98).run Tryz.prog w = .ok 2 w:=by
  have h:=infoPair;cases hi : Tryz.prog.info? 98 with
  | none=>rw [hi] at h;cases h
  | some i =>
    rw [hi] at h;have hk : i.size = 2:=by simpa using h
    simp [Go.sizeOf,typeInfo,hi,hk]
set_option maxHeartbeats 1000000 in
theorem mpcmp (x y : Pair) (w : World) : Calls Tryz.prog 129 #[.agg (pairC x),.agg (pairC y)] w fun e w'=>e = .returned (.int .i64 (cmpPair x y)) ∧ Gr w w':=by
  go_enter Tryz.func129,Tryz.ntmps129
  go_upto_region 1 with fail
  obtain ⟨W,hW⟩ : ∃ W,W = (w.alloc (.cells (pairC x) 98)).alloc (.cells (pairC y) 98):=⟨_,rfl⟩
  have hB : Gr w W:=by rw [hW];exact ((Gr.refl _).alloc _).alloc _
  have a3 : W.cell? ⟨w.heap.size,0,none⟩ = some (.string x.key):=by rw [hW];simp [go_sem]
  have a4 : W.cell? ⟨w.heap.size + 1,0,none⟩ = some (.string y.key):=by rw [hW];simp [go_sem]
  have a5 : W.cell? ⟨w.heap.size,1,none⟩ = some (.string x.val):=by rw [hW];simp [go_sem]
  have a6 : W.cell? ⟨w.heap.size + 1,1,none⟩ = some (.string y.val):=by rw [hW];simp [go_sem]
  rw [← hW];clear hW;refine wp_region_lex (Gr W) false (by kernel_rfl) (by kernel_rfl) (by kernel_rfl) (Gr.drew W) ?_;have hne:=gr_some W;have hS:=Gr.drew W;have b3:=gsub_cell a3;have b4:=gsub_cell a4;have b5:=gsub_cell a5;have b6:=gsub_cell a6;repeat (refine wpLx_loose ?_ ?_;(focus (simp only [chainOp];done));intro K hK;go_simp;refine hK _ ?_;clear hK K)
  refine wpLx_chain ?_ ?_ ?_;(focus (exact hS));(focus (simp only [chainOp];done));intro K hK;go_simp;refine (cmp_str _ _ _).mono ?_;rintro e w' ⟨rfl,rfl⟩;refine ⟨_,rfl,hS,hK _ _ ?_⟩;clear hK K;repeat (refine wpLx_loose ?_ ?_;(focus (simp only [chainOp];done));intro K hK;go_simp;refine hK _ ?_;clear hK K)
  refine wpLx_chain ?_ ?_ ?_;(focus (exact hS));(focus (simp only [chainOp];done));intro K hK;go_simp;refine (cmp_str _ _ _).mono ?_;rintro e w' ⟨rfl,rfl⟩;refine ⟨_,rfl,hS,hK _ _ ?_⟩;clear hK K;refine wpLx_chain ?_ ?_ ?_;(focus (exact hS));(focus (simp only [chainOp];done));intro K hK;go_simp;refine step_keep (Gr.alloc hS _) (fun hS=>?_);refine hK _ _ ?_;clear hK K;refine wpLx_chain ?_ ?_ ?_;(focus (exact hS));(focus (simp only [chainOp];done));intro K hK;go_simp;refine (or_any W.heap.size 2 [cmpS x.key y.key,cmpS x.val y.val] (by simp) (W.alloc (.cells #[.int .i64 (cmpS x.key y.key),.int .i64 (cmpS x.val y.val)] 3)).drew (or2_cells W _ _)).mono ?_;rintro e w' ⟨rfl,rfl⟩;refine ⟨_,rfl,hS,hK _ _ ?_⟩;clear hK K;repeat (refine wpLx_loose ?_ ?_;(focus (simp only [chainOp];done));intro K hK;go_simp;refine hK _ ?_;clear hK K)
  refine wpLx_nil ?_;intro hS;(go_wp2_with fail);go_ret;exact ⟨rfl,hB.trans hS⟩
theorem sort_pairs (w : World) (B : Nat) (A : Option Addr) (n cap : Nat) (S : List Pair) (hown : Own w B 98 2 A n cap (S.map pairC)) (hn : S.length ≤ 1000000) :
    Calls Tryz.prog 128 #[.slice A n cap,.func (.func 129) #[] #[]] w fun e w'=>e = .returned (.tuple #[]) ∧ Own w' B 98 2 A n cap ((psort S).map pairC) ∧ Keep (blk A) w w':=by
  have hl : S.length = n:=by simpa using hown.len
  rcases hown.addr with rfl | ⟨g,rfl⟩
  · have hn0 : n = 0:=(hown.cap_le.2 rfl).1;subst hn0;have hS : S = []:=List.eq_nil_of_length_eq_zero hl;subst hS;refine (AnyF.slices_SortFunc_none Tryz.laySortPair none cap (.func (.func 129) #[] #[]) w).mono ?_;rintro e w' ⟨rfl,rfl⟩;exact ⟨rfl,by simpa [psort] using hown,Keep.refl _ _⟩
  · subst hl;have hH:=own_holds (enc:=pairC) (by omega) pairC_size hown;have hcmp : CmpLays Tryz.prog 129 #[] (fun x : Pair=>(pairC x).toList) 2 cmpPair g 0 S.toArray.size w:=fun m os dk _ x y=>mpcmp x y _;have hgl : g < w.heap.size:=(hown.at_base (x:=g) (by simp [blk])).2;have hcon:=AnyQ.slices_SortFunc_total Tryz.laySortPair 2 isAggPair size_pairs (fun x : Pair=>(pairC x).toList) (by simp) (fun x v hv=>pairC_one x v hv) cmpPair (swo_of totPair) 129 #[] g 0 cap S.toArray w
      (enters_of Tryz.func129 (by kernel_rfl) rfl) hcmp hH hgl (by simp;omega) (fun x y h1 h2=>by
        simp only [ltOf,decide_eq_false_iff_not] at h1 h2;exact Classical.byContradiction fun e=>h2 (totPair.flip h1 e))
    have e1 : S.toArray.size = S.length:=by simp
    rw [e1] at hcon;refine hcon.mono ?_;rintro e w' ⟨rfl,n,os,rfl⟩;have e2 : (S.toArray.toList.mergeSort fun x y=>!(ltOf cmpPair y x)) = psort S:=rfl;rw [e2];obtain ⟨h1,h2⟩:=own_sorted (enc:=pairC) (by omega) pairC_size hown n (psort S) (psort_perm S).length_eq os;exact ⟨rfl,h1,h2.mono (by simp [blk])⟩
theorem compact_nil (w : World) (cap : Nat) : Calls Tryz.prog 131 #[.slice none 0 cap] w fun e w'=>e = .returned (.slice none 0 cap) ∧ w = w':=by
  go_enter Tryz.func131,Tryz.ntmps131
  (go_wp2_with fail);go_ret;exact ⟨rfl,rfl⟩
def mpair (x : MRow) : Pair:=⟨x.key,x.val⟩
def listM (X : List MRow) : List Pair:=sortC cmpPair (X.map mpair)
theorem listM_len (X : List MRow) : (listM X).length ≤ X.length:=by have:=sortC_length (c:=cmpPair) (X.map mpair);simpa [listM] using this
set_option maxRecDepth 100000 in
set_option maxHeartbeats 1000000 in
theorem mlist (w : World) (g bl bo : Nat) (X : List MRow) (O : List Id32) (h : MultiAt w g bl bo X O) (hn : X.length ≤ 1000000) :
    Calls Tryz.prog 60 #[.pointer (some ⟨g,0,none⟩)] w fun e w'=>∃ A cap,e = .returned (.slice A (listM X).length cap) ∧ Own w' w.heap.size 98 2 A (listM X).length cap ((listM X).map pairC) ∧ Below w.heap.size w w':=by
  have c1:=msorted w g bl bo X O h hn;go_enter Tryz.func60,Tryz.ntmps60
  (go_wp2_with fail);refine c1.mono ?_;rintro e w1 ⟨RA,rc,rfl,hrow,hb⟩;have hsl:=hrow.slr;have haddr:=hrow.addr;clear hrow c1 h;(go_wp2_with fail);go_loopw [3,9] (fun out i wr=>∃ (k : Nat) (A : Option Addr) (cap : Nat),k ≤ X.length ∧ i = .int .i64 k ∧ out = .slice A k cap ∧ Own wr w1.heap.size 98 2 A k cap (((X.take k).map mpair).map pairC) ∧ Below w1.heap.size w1 wr) (fun _ i _=>X.length - (intOf i).toNat)
  case atStart=>exact ⟨0,none,0,Nat.zero_le _,rfl,rfl,Own.nil _ _ _ _,Below.refl _ _⟩
  case round =>
    obtain ⟨k,A,cap,hk,rfl,rfl,hown,hbr⟩:=hrel;by_cases hlt : k < X.length
    · obtain ⟨q,o,rfl,hr⟩:=(hsl.below hbr).at_ hlt;obtain rfl : o = 0:=by
        rcases haddr with e | ⟨g',e⟩
        · cases e
        · injection e with e;injection e
      rw [Nat.zero_add,List.getElem_map] at hr;have htk : ((X.take (k + 1)).map mpair).map pairC = ((X.take k).map mpair).map pairC ++ [pairC (mpair (X[k]'hlt))]:=by rw [List.take_add_one,List.getElem?_eq_getElem hlt,Option.toList_some,List.map_append,List.map_append];rfl
      obtain ⟨x,hx⟩ : ∃ x,X[k]'hlt = x:=⟨_,rfl⟩
      rw [hx] at hr htk;have Htk:=Lib.hid htk;clear hx htk;have hszr:=hbr.size;have hby : Below wr.heap.size wr ((wr.alloc (.cells (mRowC x) 184)).alloc (.cells (pairC ⟨x.key,x.val⟩) 98)):=((Below.refl _ _).alloc (Nat.le_refl _) _).alloc (by simp) _;have hown2:=hown.below hby;have hrow2 : rowAt ((wr.alloc (.cells (mRowC x) 184)).alloc (.cells (pairC ⟨x.key,x.val⟩) 98)) (wr.heap.size + 1) 0 2 = some (pairC ⟨x.key,x.val⟩):=by simp [go_sem]
      go_wp2_with (at_builtin;refine L_append einfoPair rfl hown2 rfl hrow2 (pairC_one _) (by omega) (by omega) (by simp;omega) ?_;intro A' cap' w2 hownA hkA hsubA)
      have hbA : Below w1.heap.size w1 w2:=hbr.trans ((hby.mono hszr).trans (hkA.below (B:=w1.heap.size) (by simp;omega) fun y hy=>(hown.at_base hy).1));(go_wp2_with fail);go_roundw
      case rel=>exact ⟨k + 1,A',cap',by omega,by go_num,rfl,by rw [Htk.out];exact hownA,hbA⟩
      case measure=>simp [intOf];omega
    · have e : X.take k = X:=List.take_of_length_le (by omega);have hkX : k = X.length:=by omega
      rw [e] at hown;obtain ⟨S,hS⟩ : ∃ S,X.map mpair = S:=⟨_,rfl⟩
      have hSl : S.length = k:=by rw [← hS];simp [hkX]
      have hlist : listM X = sortC cmpPair (psort S):=by unfold listM;rw [hS];exact sortC_congr totPair fun z=>(psort_perm S).mem_iff.symm
      rw [hS] at hown;have Hlist:=Lib.hid hlist;have cs:=sort_pairs wr w1.heap.size A k cap S hown (by omega);have HkX:=Lib.hid hkX;have hkn : k ≤ 1000000:=by omega
      clear hS hlist e hkX;(go_wp2_with fail);refine cs.mono ?_;rintro e w2 ⟨rfl,hown2,hk2⟩;have hb2 : Below w1.heap.size w1 w2:=hbr.trans (hk2.below (B:=w1.heap.size) hbr.size fun x hx=>(hown.at_base hx).1);have hb02:=bel2 hb hb2;have hszb:=hb.size;clear cs hk2 hb2 hbr;rcases hown2.addr with rfl | ⟨q,rfl⟩
      · have hk0 : k = 0:=(hown2.cap_le.2 rfl).1;have hc0 : cap = 0:=(hown2.cap_le.2 rfl).2;have hS0 : S = []:=List.eq_nil_of_length_eq_zero (hSl.trans hk0);subst hS0;have hl0 : listM X = []:=by rw [Hlist.out];simp [psort,sortC]
        have Hl0:=Lib.hid hl0;subst hk0;clear hl0 hSl hc0;have cn:=compact_nil w2 cap;(go_wp2_with fail);refine cn.mono ?_;rintro e w3 ⟨rfl,rfl⟩;(go_wp2_with fail);go_ret;exact ⟨none,cap,by rw [Hl0.out];rfl,by rw [Hl0.out];have:=hown2.mono hszb;simpa [psort] using this,hb02⟩
      · have cc:=compact_pairs w2 w1.heap.size q k cap (psort S) hown2 (by omega) (psort_le S);(go_wp2_with fail);refine cc.mono ?_;rintro e w3 ⟨rfl,hown3,hk3⟩;have hb3:=hb02.trans (hk3.below (B:=w.heap.size) hb02.size (by have:=(hown2.at_base (x:=q) (by simp [blk])).1;simp;omega));rw [← Hlist.out] at hown3 ⊢;have Hown3:=Lib.hid (hown3.mono (B':=w.heap.size) hszb);clear cc hk3 hown2 hown hown3 hb02;(go_wp2_with fail);go_ret;exact ⟨_,cap,rfl,Hown3.out,hb3⟩
end
section
open Go.RowKit
theorem cell0_of (w : World) (g : Nat) (v : Value) (t : TypeId) (h : w.heap[g]? = some (.cells #[v] t (0,0))) : w.cell? ⟨g,0,none⟩ = some v:=by rw [cell_of_row w g 0 _ _ _ h];rfl
theorem frozen_of (w : World) (g j : Nat) (cs : Array Value) (t : TypeId) (h : w.heap[g]? = some (.cells cs t (0,0))) : w.frozen? ⟨g,j,none⟩ = false:=by simp [World.frozen?,h]
structure DownAt (w0 : World) (gs go gd B : Nat) (g : Nat) (w : World) (P : List NodeV) (A : Option Addr) (cap : Nat) : Prop where
  bel : Below w0.heap.size w0 w
  hgs : w.heap[gs]? = some (.cells #[.pointer (some ⟨g,0,none⟩)] 106 (0,0))
  hgo : w.heap[go]? = some (.cells #[.slice A P.length cap] 50 (0,0))
  hgd : w.heap[gd]? = some (.cells #[.func (.func 204) #[] #[.pointer (some ⟨gs,0,none⟩),.pointer (some ⟨go,0,none⟩),.pointer (some ⟨gd,0,none⟩)]] 214 (0,0))
  own : Own w B 39 32 A P.length cap ((P.map NodeV.id).map idC)
  B : B ≤ w.heap.size
set_option maxRecDepth 100000 in
set_option maxHeartbeats 4000000 in
theorem sqdown (w0 : World) (M : List Nat) (g bn bb bg : Nat) (N : List NodeV) (G : List Id32) (h : SeqAt w0 M g bn bb bg N G) (hN : N.length ≤ 100000) (gs go gd B : Nat) (h1 : w0.heap.size ≤ gs) (h2 : w0.heap.size ≤ go) (h3 : w0.heap.size ≤ gd) (n1 : gs ≠ go) (n2 : gd ≠ go) (b1 : gs < B) (b2 : go < B) (b3 : gd < B) :
    ∀ (k : Nat) (r : Id32) (P : List NodeV) (A : Option Addr) (cap : Nat) (w : World),Deep (kids N) NodeV.id k r → DownAt w0 gs go gd B g w P A cap → P.length + (preD (kids N) NodeV.id k r).length ≤ 1000000 →
    Calls Tryz.prog 204 #[.agg (idC r),.pointer (some ⟨gs,0,none⟩),.pointer (some ⟨go,0,none⟩),.pointer (some ⟨gd,0,none⟩)] w fun e w'=>e = .returned (.tuple #[]) ∧ ∃ A' cap',DownAt w0 gs go gd B g w' (P ++ preD (kids N) NodeV.id k r) A' cap':=by
  intro k;induction k with
  | zero=>intro r P A cap w hd;exact hd.elim
  | succ k ih =>
    intro r P A cap w hd hD hlen;obtain ⟨BM,es',clk',hb,hsl,hno⟩:=h.behind;obtain ⟨⟨As,sn,sc⟩,hsw,hsM,hlook⟩:=blook hb hsl hno r;dsimp only at hsw hsM hlook;have hdk : ∀ c ∈ kids N r,Deep (kids N) NodeV.id k c.id:=hd;have hpre : preD (kids N) NodeV.id (k + 1) r = (kids N r).flatMap fun c=>c :: preD (kids N) NodeV.id k c.id:=rfl;have hkl:=kids_length N r;obtain ⟨K,hK⟩ : ∃ K,kids N r = K:=⟨_,rfl⟩
    rw [hK] at hsw hdk hpre hkl;rw [hpre] at hlen ⊢;have hlK : K.length = sn:=by have:=hsw.len;simpa using this
    have hsnb : sn ≤ 100000:=by omega
    have HlK:=Lib.hid hlK;have Hdk:=Lib.hid hdk;clear hd hdk hpre hK hlK hkl;obtain ⟨f,hf⟩ : ∃ f : NodeV → List NodeV,(fun c=>c :: preD (kids N) NodeV.id k c.id) = f:=⟨_,rfl⟩
    have hfc : ∀ c,f c = c :: preD (kids N) NodeV.id k c.id:=fun c=>(by rw [← hf]);rw [hf] at hlen ⊢;have Hfc:=Lib.hid hfc;have Hlen:=Lib.hid hlen;clear hf hfc hlen;have hBw : Below w.heap.size w (w.alloc (.cells (idC r) 39)):=(Below.refl _ _).alloc (Nat.le_refl _) _;have hr0 : rowAt (w.alloc (.cells (idC r) 39)) w.heap.size 0 32 = some (idC r):=by simp [go_sem]
    have hD1 : DownAt w0 gs go gd B g (w.alloc (.cells (idC r) 39)) P A cap:=by
      have hB:=hD.B;have hs:=hBw.size;exact ⟨bel2 hD.bel hBw,(hBw.block gs (by omega)).trans hD.hgs,(hBw.block go (by omega)).trans hD.hgo,(hBw.block gd (by omega)).trans hD.hgd,hD.own.below hBw,by omega⟩
    go_enter Tryz.func204,Tryz.ntmps204
    go_upto_region 1 with fail
    obtain ⟨W,hW⟩ : ∃ W,W = w.alloc (.cells (idC r) 39):=⟨_,rfl⟩
    obtain ⟨ga,hga⟩ : ∃ ga,w.heap.size = ga:=⟨_,rfl⟩
    rw [hga] at hr0 ⊢;rw [← hW] at hD1 hr0 ⊢;clear hW hga hD hBw;have hcs : W.cell? ⟨gs,0,none⟩ = some (.pointer (some ⟨g,0,none⟩)):=by rw [cell_of_row W gs 0 _ _ _ hD1.hgs];rfl
    have hc1 : W.cell? ⟨g,1,none⟩ = some (.map (some bb)):=(hD1.bel.cell (p:=⟨g,1,none⟩) h.ltg).trans h.cell1;have hk : ∀ x : Subtype (Bel W),(Instr.lookup 189 (.map (some bb)) (.agg (idC r)) false).run Tryz.prog x.1 = .ok (.slice As sn sc) x.1:=fun x=>hlook x.1 ((hb.kept (Keep.of_below hD1.bel) (by simp)).kept (Keep.of_below x.2) (by simp));refine wp_region_lex (Bel W) false (by kernel_rfl) (by kernel_rfl) (by kernel_rfl) (bel_drew W) ?_;have hne:=bel_some W;have hS:=bel_drew W;have b1:=sub_cell hcs;have b2:=sub_cell hc1;have b3:=sub_row hr0;repeat (refine wpLx_loose ?_ ?_;(focus (simp only [chainOp];done));intro K hK;go_simp;refine hK _ ?_;clear hK K)
    refine wpLx_nil ?_;intro hS;have hD2 : DownAt w0 gs go gd B g W.drew P A cap:=⟨hD1.bel.drew,hD1.hgs,hD1.hgo,hD1.hgd,hD1.own.kept (Keep.drew W) (by simp),hD1.B⟩
    clear b1 b2 b3 hne hS hk hcs hc1 hr0 hD1 hlook hb hsl hno;obtain ⟨W1,hW1⟩ : ∃ W1,W.drew = W1:=⟨_,rfl⟩
    rw [hW1] at hD2 ⊢;clear hW1 hS;(go_wp2_with fail);go_loopw [14] (fun iv wr=>∃ (i : Nat) (A' : Option Addr) (cap' : Nat),i ≤ sn ∧ iv = .int .i64 i ∧ DownAt w0 gs go gd B g wr (P ++ (K.take i).flatMap f) A' cap') (fun iv _=>sn - (intOf iv).toNat)
    case atStart=>exact ⟨0,A,cap,Nat.zero_le _,rfl,by simpa using hD2⟩
    case round =>
      obtain ⟨i,A',cap',hi,rfl,hDr⟩:=hrel;by_cases hlt : i < sn
      · obtain ⟨q,o,rfl,hrO⟩:=(hsw.below hDr.bel).rd.at_ hlt;rw [List.getElem_map,List.getElem_map] at hrO;have hmem : K[i]'(by rw [HlK.out];exact hlt) ∈ K:=List.getElem_mem _;have hspl : K.flatMap f = (K.take i).flatMap f ++ f (K[i]'(by rw [HlK.out];exact hlt)) ++ (K.drop (i + 1)).flatMap f:=by
          rw [List.append_assoc,← List.flatMap_cons,← List.drop_eq_getElem_cons (show i < K.length by rw [HlK.out];exact hlt),← List.flatMap_append,List.take_append_drop]
        have htk : (K.take (i + 1)).flatMap f = (K.take i).flatMap f ++ f (K[i]'(by rw [HlK.out];exact hlt)):=by
          rw [List.take_add_one,List.getElem?_eq_getElem (by rw [HlK.out];exact hlt),Option.toList_some,List.flatMap_append];simp
        obtain ⟨c,hc⟩ : ∃ c,K[i]'(by rw [HlK.out];exact hlt) = c:=⟨_,rfl⟩
        rw [hc] at hrO hmem hspl htk;have hdc:=Hdk.out c hmem;have hl2 : (P ++ (K.take i).flatMap f).length + 1 + (preD (kids N) NodeV.id k c.id).length ≤ 1000000:=by
          have:=Hlen.out;rw [hspl,Hfc.out c] at this;simp only [List.length_append,List.length_cons] at this ⊢;omega
        obtain ⟨Q,hQ⟩ : ∃ Q,P ++ (K.take i).flatMap f = Q:=⟨_,rfl⟩
        have hQn : P ++ (K.take (i + 1)).flatMap f = Q ++ [c] ++ preD (kids N) NodeV.id k c.id:=by rw [htk,Hfc.out c,← hQ];simp
        rw [hQ] at hDr hl2;have HQn:=Lib.hid hQn;have Hl2:=Lib.hid hl2;have hlq : Q.length + 1 ≤ 1000000:=by omega
        clear hc hspl htk hQ hQn hmem hl2;have hBr:=hDr.B;have hby : Below wr.heap.size wr ((wr.alloc (.cells (idC c.id) 39)).alloc (.cells (idC c.id) 39)):=((Below.refl _ _).alloc (Nat.le_refl _) _).alloc (by simp) _;have hby1 : Below wr.heap.size wr (wr.alloc (.cells (idC c.id) 39)):=(Below.refl _ _).alloc (Nat.le_refl _) _;have hcg1 : (wr.alloc (.cells (idC c.id) 39)).cell? ⟨go,0,none⟩ = some (.slice A' Q.length cap'):=(hby1.cell (p:=⟨go,0,none⟩) (show go < wr.heap.size by omega)).trans (by rw [cell_of_row wr go 0 _ _ _ hDr.hgo];rfl);have hown2:=hDr.own.below hby;have hrow2 : rowAt ((wr.alloc (.cells (idC c.id) 39)).alloc (.cells (idC c.id) 39)) (wr.heap.size + 1) 0 32 = some (idC c.id):=by simp [go_sem]
        have hgo2:=(hby.block go (by omega)).trans hDr.hgo;have hgoB : go < ((wr.alloc (.cells (idC c.id) 39)).alloc (.cells (idC c.id) 39)).heap.size:=by have:=hby.size;omega
        have hBB : B ≤ ((wr.alloc (.cells (idC c.id) 39)).alloc (.cells (idC c.id) 39)).heap.size:=by have:=hby.size;omega
        have hgoA : go ∉ blk A':=fun hx=>(by have:=(hDr.own.at_base hx).1;omega);go_upto_region 5 with (at_builtin;refine L_append einfoId rfl hown2 rfl hrow2 (idC_one _) (by omega) (by omega) hBB ?_;intro A2 cap2 w2 hownA hkA hsubA;have hgo3:=(hkA.block go hgoB hgoA).trans hgo2;have hcg3:=cell0_of w2 go _ _ hgo3;have hf3:=frozen_of w2 go 0 _ _ hgo3)
        have hb0w : w0.heap.size ≤ wr.heap.size:=hDr.bel.size;have hbz2 : Below w0.heap.size w0 w2:=(bel2 hDr.bel hby).trans (hkA.below (B:=w0.heap.size) (by have:=hby.size;omega) (fun x hx=>by have:=(hDr.own.at_base hx).1;omega));have hks:=Keep.setCell w2 ⟨go,0,none⟩ (.slice A2 (Q.length + 1) cap2);have hbz3 : Below w0.heap.size w0 (w2.setCell ⟨go,0,none⟩ (.slice A2 (Q.length + 1) cap2)):=hbz2.trans (hks.below (B:=w0.heap.size) hbz2.size (by simpa using h2));have hsz2 : wr.heap.size + 2 ≤ w2.heap.size:=by have:=hkA.size;simpa using this
        have hgs3:=(hks.block gs (by omega) (by simpa using n1)).trans ((hkA.block gs (by have:=hby.size;omega) (fun hx=>by have:=(hDr.own.at_base hx).1;omega)).trans ((hby.block gs (by omega)).trans hDr.hgs));have hgd3:=(hks.block gd (by omega) (by simpa using n2)).trans ((hkA.block gd (by have:=hby.size;omega) (fun hx=>by have:=(hDr.own.at_base hx).1;omega)).trans ((hby.block gd (by omega)).trans hDr.hgd));have hgo4 : (w2.setCell ⟨go,0,none⟩ (.slice A2 (Q.length + 1) cap2)).heap[go]? = some (.cells #[.slice A2 (Q.length + 1) cap2] 50 (0,0)):=by rw [heap_setCell_same hgo3];rfl
        have hown4:=hownA.kept hks (fun x hx hm=>by
          have e : x = go:=by simpa using hm
          have:=(hownA.at_base hx).1;omega)
        have hl1 : (Q ++ [c]).length = Q.length + 1:=by simp
        have hD4 : DownAt w0 gs go gd B g (w2.setCell ⟨go,0,none⟩ (.slice A2 (Q.length + 1) cap2)) (Q ++ [c]) A2 cap2 :=
          ⟨hbz3,hgs3,by rw [hl1];exact hgo4,hgd3,by rw [hl1];simpa using hown4,by have:=hks.size;omega⟩
        have hrb : rowAt (w2.setCell ⟨go,0,none⟩ (.slice A2 (Q.length + 1) cap2)) wr.heap.size 0 32 = some (idC c.id):=(hks.row (by omega) (by simp;omega) _ _).trans ((hkA.row (by simp;omega) (fun hx=>by have:=(hDr.own.at_base hx).2;omega) _ _).trans (by simp [go_sem]));have cih:=ih c.id (Q ++ [c]) A2 cap2 _ hdc hD4 (by rw [hl1];exact Hl2.out);have hcd:=cell0_of _ gd _ _ hgd3;have HbA : Hid (B ≤ wr.heap.size):=hBr;clear hbz2 hbz3 hks hgs3 hgd3 hgo4 hown4 hl1 hD4 hgo3 hcg3 hf3 hownA hkA hsubA hown2 hrow2 hgo2 hgoA hgoB hBB hby hby1 hcg1 hrO hDr hBr;obtain ⟨w5,hw5⟩ : ∃ w5,w2.setCell ⟨go,0,none⟩ (.slice A2 (Q.length + 1) cap2) = w5:=⟨_,rfl⟩
        rw [hw5] at hrb cih hcd ⊢;clear hw5;(go_wp2_with fail);refine cih.mono ?_;rintro e w6 ⟨rfl,A6,cap6,hD6⟩;have hD7 : DownAt w0 gs go gd B g w6 (P ++ (K.take (i + 1)).flatMap f) A6 cap6:=by rw [HQn.out];exact hD6
        have HD7:=Lib.hid hD7;clear hD6 hD7 cih hrb hcd;(go_wp2_with fail);go_roundw
        case rel=>exact ⟨i + 1,A6,cap6,by omega,by go_num,HD7.out⟩
        case measure=>simp [intOf];omega
      · have e : i = sn:=by omega
        subst e;rw [List.take_of_length_le (by rw [HlK.out];exact Nat.le_refl _)] at hDr;(go_wp2_with fail);go_end0;exact ⟨rfl,A',cap',hDr⟩
set_option maxRecDepth 100000 in
set_option maxHeartbeats 2000000 in
theorem sqorder (w : World) (M : List Nat) (g bn bb bg : Nat) (N : List NodeV) (G : List Id32) (h : SeqAt w M g bn bb bg N G) (hl : N.length ≤ 100000) :
    Calls Tryz.prog 132 #[.pointer (some ⟨g,0,none⟩)] w fun e w'=>∃ A cap,e = .returned (.slice A (orderN N).length cap) ∧ Own w' w.heap.size 39 32 A (orderN N).length cap (((orderN N).map NodeV.id).map idC) ∧ Below w.heap.size w w':=by
  have hf : Forest N:=⟨h.one,fun a ha=>(nodeE_id (h.ok a ha)).1⟩
  have hb0 : Below w.heap.size w (w.alloc (.cells #[.pointer (some ⟨g,0,none⟩)] 106)):=(Below.refl _ _).alloc (Nat.le_refl _) _;have h0:=h.below hb0;have hsf:=fun (a : Addr) (c : Array Value) (w : World)=>run_store Tryz.prog w a (.func (.func 204) #[] c) .plain rfl;have hB3 : Below w.heap.size w (((w.alloc (.cells #[.pointer (some ⟨g,0,none⟩)] 106)).alloc (.cells #[.slice none 0 0] 50)).alloc (.cells #[.func (.func 204) #[] #[.pointer (some ⟨w.heap.size,0,none⟩),.pointer (some ⟨w.heap.size + 1,0,none⟩),.pointer (some ⟨w.heap.size + 1 + 1,0,none⟩)]] 214)):=(((Below.refl _ _).alloc (Nat.le_refl _) _).alloc (by simp) _).alloc (by simp;omega) _;have hD : DownAt w w.heap.size (w.heap.size + 1) (w.heap.size + 1 + 1) (w.heap.size + 3) g (((w.alloc (.cells #[.pointer (some ⟨g,0,none⟩)] 106)).alloc (.cells #[.slice none 0 0] 50)).alloc (.cells #[.func (.func 204) #[] #[.pointer (some ⟨w.heap.size,0,none⟩),.pointer (some ⟨w.heap.size + 1,0,none⟩),.pointer (some ⟨w.heap.size + 1 + 1,0,none⟩)]] 214)) [] none 0:=by
    refine ⟨hB3,?_,?_,?_,Own.nil _ _ _ _,by simp⟩
    · exact ((Keep.alloc _ _).block _ (by simp;omega) (by simp)).trans (((Keep.alloc _ _).block _ (by simp) (by simp)).trans (heap_alloc_new w _))
    · have e:=heap_alloc_new (w.alloc (.cells #[.pointer (some ⟨g,0,none⟩)] 106 (0,0))) (.cells #[.slice none 0 0] 50 (0,0));have e1 : (w.alloc (.cells #[.pointer (some ⟨g,0,none⟩)] 106 (0,0))).heap.size = w.heap.size + 1:=by simp
      rw [e1] at e;exact ((Keep.alloc _ _).block _ (by simp) (by simp)).trans e
    · have e:=heap_alloc_new ((w.alloc (.cells #[.pointer (some ⟨g,0,none⟩)] 106 (0,0))).alloc (.cells #[.slice none 0 0] 50 (0,0))) (.cells #[.func (.func 204) #[] #[.pointer (some ⟨w.heap.size,0,none⟩),.pointer (some ⟨w.heap.size + 1,0,none⟩),.pointer (some ⟨w.heap.size + 1 + 1,0,none⟩)]] 214 (0,0));have e1 : ((w.alloc (.cells #[.pointer (some ⟨g,0,none⟩)] 106 (0,0))).alloc (.cells #[.slice none 0 0] 50 (0,0))).heap.size = w.heap.size + 1 + 1:=by simp
      rw [e1] at e;exact e
  have hlo:=orderN_length hf;have cd:=sqdown w M g bn bb bg N G h hl w.heap.size (w.heap.size + 1) (w.heap.size + 1 + 1) (w.heap.size + 3) (Nat.le_refl _) (by omega) (by omega) (by omega) (by omega) (by omega) (by omega) (by omega) (N.length + 1) id0 [] none 0 _ hf.deep hD (by show 0 + (orderN N).length ≤ _;omega);have e0 : preD (kids N) NodeV.id (N.length + 1) id0 = orderN N:=rfl;rw [e0] at cd;simp only [List.nil_append] at cd;obtain ⟨P,hP⟩ : ∃ P,orderN N = P:=⟨_,rfl⟩
  rw [hP] at cd ⊢;clear hP hlo hf hD hB3 e0;go_enter Tryz.func132,Tryz.ntmps132
  (go_wp2_with fail);refine (sqnone_live _ g bn h0.cell0).mono ?_;rintro e w1 ⟨rfl,rfl⟩;clear h0 hb0;(go_wp2_with fail);refine cd.mono ?_;rintro e w2 ⟨rfl,A2,cap2,hD2⟩;have hc2:=cell0_of _ _ _ _ hD2.hgo;have hown:=hD2.own.mono (B':=w.heap.size) (by omega);have hbel:=hD2.bel;clear cd hD2 hsf;(go_wp2_with fail);go_ret;exact ⟨A2,cap2,rfl,hown,hbel⟩
def listS (N : List NodeV) (G : List Id32) : List Pair:=(seen N G).map fun v=>⟨⟨#[]⟩,v⟩
theorem listS_len {N : List NodeV} {G : List Id32} (hf : Forest N) : (listS N G).length ≤ N.length:=by
  unfold listS seen;rw [List.length_map,List.length_map];exact Nat.le_trans (List.length_filter_le _ _) (orderN_length hf)
end
section
open Go.RowKit
@[go_sem] theorem buildPair_v (v : ByteArray) (w : World) : (bdS 98 #[(1,.string v)]).run Tryz.prog w = .ok (.agg (pairC ⟨⟨#[]⟩,v⟩)) w:=by kernel_rfl
def pS (T : List NodeV) (G : List Id32) : List Pair:=((T.filter fun n=>decide (n.id ∉ G)).map NodeV.val).map fun v=>⟨⟨#[]⟩,v⟩
theorem pS_snoc (T : List NodeV) (G : List Id32) (c : NodeV) : pS (T ++ [c]) G = if c.id ∈ G then pS T G else pS T G ++ [⟨⟨#[]⟩,c.val⟩]:=by
  unfold pS;rw [List.filter_append];by_cases e : c.id ∈ G <;> simp [e]
theorem pS_len (T : List NodeV) (G : List Id32) : (pS T G).length ≤ T.length:=by
  unfold pS;rw [List.length_map,List.length_map];exact List.length_filter_le _ _
set_option maxRecDepth 100000 in
set_option maxHeartbeats 4000000 in
theorem sqlist (w : World) (M : List Nat) (g bn bb bg : Nat) (N : List NodeV) (G : List Id32) (h : SeqAt w M g bn bb bg N G) (hl : N.length ≤ 100000) :
    Calls Tryz.prog 61 #[.pointer (some ⟨g,0,none⟩)] w fun e w'=>∃ A cap,e = .returned (.slice A (listS N G).length cap) ∧ Own w' w.heap.size 98 2 A (listS N G).length cap ((listS N G).map pairC) ∧ Below w.heap.size w w':=by
  have hf : Forest N:=⟨h.one,fun a ha=>(nodeE_id (h.ok a ha)).1⟩
  have c1:=sqorder w M g bn bb bg N G h hl;have hN:=(orderN_nodup hf).2;have hlo:=orderN_length hf;have hls : listS N G = pS (orderN N) G:=rfl;rw [hls];obtain ⟨L,hL⟩ : ∃ L,orderN N = L:=⟨_,rfl⟩
  rw [hL] at c1 hN hlo ⊢;clear hL hls hf;go_enter Tryz.func61,Tryz.ntmps61
  (go_wp2_with fail);refine c1.mono ?_;rintro e w1 ⟨RA,rc,rfl,hrow,hb⟩;have hsl:=hrow.slr;have haddr:=hrow.addr;clear hrow c1;(go_wp2_with fail);go_loopw [3,9] (fun out i wr=>∃ (k : Nat) (A : Option Addr) (cap : Nat),k ≤ L.length ∧ i = .int .i64 k ∧ out = .slice A (pS (L.take k) G).length cap ∧ Own wr w1.heap.size 98 2 A (pS (L.take k) G).length cap ((pS (L.take k) G).map pairC) ∧ Below w1.heap.size w1 wr) (fun _ i _=>L.length - (intOf i).toNat)
  case atStart=>exact ⟨0,none,0,Nat.zero_le _,rfl,rfl,Own.nil _ _ _ _,Below.refl _ _⟩
  case round =>
    obtain ⟨k,A,cap,hk,rfl,rfl,hown,hbr⟩:=hrel;by_cases hlt : k < L.length
    · obtain ⟨q,o,rfl,hr⟩:=(hsl.below hbr).at_ hlt;obtain rfl : o = 0:=by
        rcases haddr with e | ⟨g',e⟩
        · cases e
        · injection e with e;injection e
      rw [Nat.zero_add,List.getElem_map,List.getElem_map] at hr;have htk : pS (L.take (k + 1)) G = if (L[k]'hlt).id ∈ G then pS (L.take k) G else pS (L.take k) G ++ [⟨⟨#[]⟩,(L[k]'hlt).val⟩]:=by
        rw [List.take_add_one,List.getElem?_eq_getElem hlt,Option.toList_some,pS_snoc]
      have hcN:=hN _ (List.getElem_mem hlt);have hpl : (pS (L.take k) G).length + 1 ≤ 1000000:=by have:=pS_len (L.take k) G;simp at this;omega
      obtain ⟨c,hc⟩ : ∃ c,L[k]'hlt = c:=⟨_,rfl⟩
      rw [hc] at hr htk hcN;obtain ⟨T0,hT0⟩ : ∃ T0,pS (L.take k) G = T0:=⟨_,rfl⟩
      rw [hT0] at htk hpl hown ⊢;have Htk:=Lib.hid htk;clear hc hT0 htk;have hszr:=hbr.size;have hbx : Below wr.heap.size wr (wr.alloc (.cells (idC c.id) 39)):=(Below.refl _ _).alloc (Nat.le_refl _) _;have hbw : Below w.heap.size w (wr.alloc (.cells (idC c.id) 39)):=(bel2 hb hbr).trans (hbx.mono (by have:=hb.size;omega));have hown1:=hown.below hbx;have hb1r : Below w1.heap.size w1 (wr.alloc (.cells (idC c.id) 39)):=hbr.trans (hbx.mono hszr);have hrc : rowAt (wr.alloc (.cells (idC c.id) 39)) wr.heap.size 0 32 = some (idC c.id):=by simp [go_sem]
      have hs1:=h.below hbw;go_upto_region 5 with fail
      obtain ⟨W,hW⟩ : ∃ W,wr.alloc (.cells (idC c.id) 39) = W:=⟨_,rfl⟩
      obtain ⟨gx,hgx⟩ : ∃ gx,wr.heap.size = gx:=⟨_,rfl⟩
      have hgxA : gx ∉ blk A:=fun hx=>(by have:=(hown.at_base hx).2;omega);rw [hgx] at hrc ⊢;rw [hW] at hown1 hb1r hrc hs1 ⊢;have hc2:=hs1.cell2;have hkk : ∀ y : Subtype (Bel W),(Instr.lookup 75 (.map (some bg)) (.agg (idC c.id)) false).run Tryz.prog y.1 = .ok (.bool (decide (c.id ∈ G))) y.1:=fun y=>ilook (hs1.gone.below y.2);obtain ⟨rr,hrr⟩ : ∃ rr,decide (c.id ∈ G) = rr:=⟨_,rfl⟩
      rw [hrr] at hkk;have Hrr:=Lib.hid hrr;clear hW hgx hrr hr hown hbr hbx hbw;refine wp_region_lex (Bel W) false (by kernel_rfl) (by kernel_rfl) (by kernel_rfl) (bel_drew W) ?_;have hne:=bel_some W;have hS:=bel_drew W;have b1:=sub_cell hc2;have b2:=sub_row hrc;repeat (refine wpLx_loose ?_ ?_;(focus (simp only [chainOp];done));intro K hK;go_simp;refine hK _ ?_;clear hK K)
      refine wpLx_nil ?_;intro hS;have hs2:=hs1.below (bel_drew W);have hown2:=hown1.kept (Keep.drew W) (by simp);have hb2r : Below w1.heap.size w1 W.drew:=hb1r.drew;have hrc2 : rowAt W.drew gx 0 32 = some (idC c.id):=hrc;clear b1 b2 hne hS hkk hc2 hrc hs1 hown1 hb1r;obtain ⟨V,hV⟩ : ∃ V,W.drew = V:=⟨_,rfl⟩
      rw [hV] at hs2 hown2 hb2r hrc2 ⊢;clear hV;cases rr with
      | true =>
        have e5:=Htk.out;rw [if_pos (of_decide_eq_true Hrr.out)] at e5;have E5:=Lib.hid e5;clear e5;(go_wp2_with fail);go_roundw
        case rel=>exact ⟨k + 1,A,cap,by omega,by go_num,by rw [E5.out],by rw [E5.out];exact hown2,hb2r⟩
        case measure=>simp [intOf];omega
      | false =>
        have e5:=Htk.out;rw [if_neg (of_decide_eq_false Hrr.out)] at e5;have E5:=Lib.hid e5;clear e5;have hc0:=hs2.cell0;obtain ⟨es,clk,hn⟩:=hs2.nodes;have hgA : g ∉ blk A:=fun hx=>(by have:=(hown2.at_base hx).1;have:=h.ltg;have:=hb.size;omega);have hbnA : bn ∉ blk A:=fun hx=>(by have:=(hown2.at_base hx).1;have:=h.lt.1;have:=hb.size;omega);have hkn : ∀ y : Subtype (Kp (blk A) V),(Instr.lookup 188 (.map (some bn)) (.agg (idC c.id)) false).run Tryz.prog y.1 = .ok (.agg (sNodeC ⟨c.h,c.ref,c.val⟩)) y.1:=fun y=>nlook (hn.kept y.2 hbnA) hcN false;go_upto_region 6 with fail
        refine wp_region_lex (Kp (blk A) V) false (by kernel_rfl) (by kernel_rfl) (by kernel_rfl) (kp_drew (blk A) V) ?_;have hne:=kp_some (blk A) V;have hS:=kp_drew (blk A) V;have b1:=ksub_cell hc0 hgA;have b2:=ksub_row hrc2 (S:=blk A) hgxA;repeat (refine wpLx_loose ?_ ?_;(focus (simp only [chainOp];done));intro K hK;go_simp;refine hK _ ?_;clear hK K)
        refine wpLx_chain ?_ ?_ ?_;(focus (exact hS));(focus (simp only [chainOp];done));intro K hK;go_simp;refine step_keep (Keep.trans (Keep.trans (Keep.refl (blk A) V) (Keep.drew _) (by simp)) (Keep.alloc _ _) (by simp)) (fun hS2=>?_);refine hK _ _ ?_;clear hK K;have hk0 : Keep [] V (V.drew.alloc (.cells (pairC ⟨⟨#[]⟩,c.val⟩) 98)):=Keep.trans (Keep.drew V) (Keep.alloc _ _) (by simp);have hownr:=hown2.kept hk0 (by simp);have hrow2 : rowAt (V.drew.alloc (.cells (pairC ⟨⟨#[]⟩,c.val⟩) 98)) V.heap.size 0 2 = some (pairC ⟨⟨#[]⟩,c.val⟩):=by simp [go_sem]
        have hszV:=hb2r.size;refine Lx_append einfoPair rfl hownr rfl hrow2 (pairC_one _) (by omega) (by omega) (by simp;omega) ?_;intro A3 cap3 w3 hown3 hk3 hsub3;refine step_keep (Keep.trans (hk0.mono (S':=blk A) (by simp)) hk3 (fun x hx=>.inl hx)) (fun hS3=>?_);repeat (refine wpLx_loose ?_ ?_;(focus (simp only [chainOp];done));intro K hK;go_simp;refine hK _ ?_;clear hK K)
        refine wpLx_nil ?_;intro hS;have hb3 : Below w1.heap.size w1 w3:=hb2r.trans ((Keep.trans (hk0.mono (S':=blk A) (by simp)) hk3 (fun x hx=>.inl hx)).below hszV (fun x hx=>(hown2.at_base hx).1));clear hne hS hS2 hS3 b1 b2 hkn;(go_wp2_with fail);go_roundw
        case rel=>exact ⟨k + 1,A3,cap3,by omega,by go_num,by rw [E5.out];simp,by rw [E5.out];simpa using hown3,hb3⟩
        case measure=>simp [intOf];omega
    · have e : L.take k = L:=List.take_of_length_le (by omega);rw [e] at hown ⊢;have Hown:=Lib.hid (hown.mono (B':=w.heap.size) hb.size);have Hb:=Lib.hid (bel2 hb hbr);clear hown e;(go_wp2_with fail);go_ret;exact ⟨A,cap,rfl,Hown.out,Hb.out⟩
end
section
open Go.RowKit
inductive VSt where
  | t (n : Int)
  | b (L G : List BRow)
  | l (L : List LRow)
  | m (X : List MRow) (O : List Id32)
  | s (N : List NodeV) (G : List Id32)
def StAt (w : World) (O M : List Nat) (v : Value) : VSt → Prop
  | .t n=>∃ g,v = .iface 100 (.pointer (some ⟨g,0,none⟩)) ∧ TallyAt w g n ∧ O = [g]
  | .b L G=>∃ g bl bg,v = .iface 102 (.pointer (some ⟨g,0,none⟩)) ∧ BagAt w g bl bg L G ∧ O = [g,bl,bg]
  | .l L=>∃ g b,v = .iface 104 (.pointer (some ⟨g,0,none⟩)) ∧ LastAt w g b L ∧ O = [g,b]
  | .m X Ov=>∃ g bl bo,v = .iface 105 (.pointer (some ⟨g,0,none⟩)) ∧ MultiAt w g bl bo X Ov ∧ O = [g,bl,bo]
  | .s N G=>∃ g bn bb bg,v = .iface 106 (.pointer (some ⟨g,0,none⟩)) ∧ SeqAt w M g bn bb bg N G ∧ O = [g,bn,bb,bg]
def VSt.kind : VSt → Int
  | .t _=>1
  | .b ..=>2
  | .l _=>3
  | .m ..=>4
  | .s ..=>5
def VSt.len : VSt → Nat
  | .t _=>0
  | .b L _=>L.length
  | .l L=>L.length
  | .m X _=>X.length
  | .s N _=>N.length
def doS (m : MarkV) (o : OpV) : VSt → VSt
  | .t n=>.t (wrap64 (n + o.n))
  | .b L G=>if o.k = 2 then .b (addB L G ⟨m.id,o.val⟩) G else .b (remL L o.val o.refs) (remG G o.val o.refs)
  | .l L=>.l (setL L o.key ⟨o.val,o.n,m.id⟩)
  | .m X Ov=>.m (setX X Ov ⟨m.id,o.key,o.val⟩ o.refs) (putO Ov o.refs)
  | .s N G=>if o.k = 6 then .s (addN N ⟨m.id,m.h,o.ref,o.val⟩) G else .s N (insC cmpId G o.ref)
theorem doS_b2 (m : MarkV) (o : OpV) (L G : List BRow) (h : o.k = 2) : doS m o (.b L G) = .b (addB L G ⟨m.id,o.val⟩) G:=if_pos h
theorem doS_b3 (m : MarkV) (o : OpV) (L G : List BRow) (h : ¬ o.k = 2) : doS m o (.b L G) = .b (remL L o.val o.refs) (remG G o.val o.refs):=if_neg h
theorem doS_s6 (m : MarkV) (o : OpV) (N : List NodeV) (G : List Id32) (h : o.k = 6) : doS m o (.s N G) = .s (addN N ⟨m.id,m.h,o.ref,o.val⟩) G:=if_pos h
theorem doS_s7 (m : MarkV) (o : OpV) (N : List NodeV) (G : List Id32) (h : ¬ o.k = 6) : doS m o (.s N G) = .s N (insC cmpId G o.ref):=if_neg h
theorem doS_kind (m : MarkV) (o : OpV) (s : VSt) : (doS m o s).kind = s.kind:=by
  cases s <;> simp only [doS] <;> (try split) <;> rfl
theorem remL_len (v : ByteArray) : ∀ (T : List Id32) (L : List BRow),(remL L v T).length ≤ L.length
  | [],L=>Nat.le_refl _
  | t :: T,L=>Nat.le_trans (remL_len v T _) (List.length_filter_le _ _)
theorem doS_len (m : MarkV) (o : OpV) (s : VSt) : (doS m o s).len ≤ s.len + 1:=by
  cases s with
  | t n=>exact Nat.zero_le _
  | b L G =>
    by_cases h : o.k = 2
    · rw [doS_b2 m o L G h];show (addB L G ⟨m.id,o.val⟩).length ≤ L.length + 1;unfold addB;have:=insC_length (c:=cmpRow) L ⟨m.id,o.val⟩
      repeat' split
      all_goals omega
    · rw [doS_b3 m o L G h];show (remL L o.val o.refs).length ≤ L.length + 1;have:=remL_len o.val o.refs L;omega
  | l L=>exact setL_length _ _ _
  | m X Ov =>
    show (setX X Ov ⟨m.id,o.key,o.val⟩ o.refs).length ≤ X.length + 1;unfold setX livR;exact Nat.le_trans (List.length_filter_le _ _) (insC_length (c:=cmpMR) X _)
  | s N G =>
    by_cases h : o.k = 6
    · rw [doS_s6 m o N G h];show (addN N ⟨m.id,m.h,o.ref,o.val⟩).length ≤ N.length + 1;unfold addN;repeat' split
      all_goals simp
    · rw [doS_s7 m o N G h];exact Nat.le_succ N.length
theorem StAt.kept {w w' : World} {O M S : List Nat} {v : Value} {s : VSt} (h : StAt w O M v s) (k : Keep S w w') (hO : ∀ x ∈ O,x ∉ S) (hS : ∀ x ∈ S,x ∈ M ∨ w.heap.size ≤ x) : StAt w' O M v s:=by
  cases s with
  | t n=>obtain ⟨g,e,h1,rfl⟩:=h;exact ⟨g,e,h1.kept k (hO g (by simp)),rfl⟩
  | b L G=>obtain ⟨g,bl,bg,e,h1,rfl⟩:=h;exact ⟨g,bl,bg,e,h1.kept k (hO g (by simp)) (hO bl (by simp)) (hO bg (by simp)),rfl⟩
  | l L=>obtain ⟨g,b,e,h1,rfl⟩:=h;exact ⟨g,b,e,h1.kept k (hO g (by simp)) (hO b (by simp)),rfl⟩
  | m X Ov=>obtain ⟨g,bl,bo,e,h1,rfl⟩:=h;exact ⟨g,bl,bo,e,h1.kept k (hO g (by simp)) (hO bl (by simp)) (hO bo (by simp)),rfl⟩
  | s N G=>obtain ⟨g,bn,bb,bg,e,h1,rfl⟩:=h;exact ⟨g,bn,bb,bg,e,h1.kept k hS (hO g (by simp)) (hO bn (by simp)) (hO bb (by simp)) (hO bg (by simp)),rfl⟩
theorem StAt.below {w w' : World} {O M : List Nat} {v : Value} {s : VSt} (h : StAt w O M v s) (k : Below w.heap.size w w') : StAt w' O M v s:=h.kept (Keep.of_below k) (by simp) (by simp)
structure OpFit (s : VSt) (o : OpV) : Prop where
  kind : belongs o.k = s.kind
  key : o.key.size ≤ 16
  val : o.val.size ≤ 16
  refs : o.refs.length ≤ 8
  lo : -2147483648 ≤ o.n
  hi : o.n < 2147483648
theorem vdoes (m : MarkV) (o : OpV) (A : Option Addr) (c : Nat) (w : World) (g : Nat) (t : ByteArray) (b : Nat) (I : List Id32) (v : Value) (O M : List Nat) (s : VSt) (h : ViewAt w g t b I v) (hs : StAt w O M v s) (hM : ∀ x ∈ M,x < w.heap.size) (ho : OpFit s o) (hA : TagsIn w A o.refs.length o.refs) (hl : s.len ≤ 1000) :
    Calls Tryz.prog 64 #[.pointer (some ⟨g,0,none⟩),.agg (markVC m),.agg (opC o A c)] w fun e w'=>e = .returned (.tuple #[]) ∧ StAt w' O M v (doS m o s) ∧ Keep O w w':=by
  cases s with
  | t n =>
    obtain ⟨gt,rfl,h1,rfl⟩:=hs;refine (vdoes_t m o A c w g gt t b I n h h1 ho.lo ho.hi).mono ?_;rintro e w' ⟨rfl,h2,hk⟩;exact ⟨rfl,⟨gt,rfl,h2,rfl⟩,hk⟩
  | b L G =>
    obtain ⟨gt,bl,bg,rfl,h1,rfl⟩:=hs;by_cases h2 : o.k = 2
    · refine (vdoes_b2 m o A c w g gt bl bg t b I L G h h1 h2 ho.val).mono ?_;rintro e w' ⟨rfl,h3,hk⟩;refine ⟨rfl,?_,hk.mono (by simp)⟩;rw [doS_b2 m o L G h2];exact ⟨gt,bl,bg,rfl,h3,rfl⟩
    · refine (vdoes_b3 m o A c w g gt bl bg t b I L G h h1 (by simpa using h2) ho.val hA ho.refs).mono ?_;rintro e w' ⟨rfl,h3,hk⟩;refine ⟨rfl,?_,hk.mono (by intro x hx;simp at hx ⊢;omega)⟩;rw [doS_b3 m o L G h2];exact ⟨gt,bl,bg,rfl,h3,rfl⟩
  | l L =>
    obtain ⟨gt,bl,rfl,h1,rfl⟩:=hs;refine (vdoes_l m o A c w g gt bl t b I L h h1 ho.key ho.val).mono ?_;rintro e w' ⟨rfl,h3,hk⟩;exact ⟨rfl,⟨gt,bl,rfl,h3,rfl⟩,hk.mono (by simp)⟩
  | m X Ov =>
    obtain ⟨gt,bl,bo,rfl,h1,rfl⟩:=hs;refine (vdoes_m m o A c w g gt bl bo t b I X Ov h h1 ho.key ho.val hA ho.refs (by have : X.length ≤ 1000:=hl;omega)).mono ?_;rintro e w' ⟨rfl,h3,hk⟩;exact ⟨rfl,⟨gt,bl,bo,rfl,h3,rfl⟩,hk.mono (by intro x hx;simp at hx ⊢;omega)⟩
  | s N G =>
    obtain ⟨gt,bn,bb,bg,rfl,h1,rfl⟩:=hs;by_cases h2 : o.k = 6
    · refine (vdoes_s6 m o A c w g gt bn bb bg t b I M N G h h1 hM h2 ho.val (by have : N.length ≤ 1000:=hl;omega)).mono ?_;rintro e w' ⟨rfl,h3,hk⟩;refine ⟨rfl,?_,hk.mono (by intro x hx;simp at hx ⊢;omega)⟩;rw [doS_s6 m o N G h2];exact ⟨gt,bn,bb,bg,rfl,h3,rfl⟩
    · refine (vdoes_s7 m o A c w g gt bn bb bg t b I M N G h h1 (by simpa using h2)).mono ?_;rintro e w' ⟨rfl,h3,hk⟩;refine ⟨rfl,?_,hk.mono (by intro x hx;simp at hx ⊢;omega)⟩;rw [doS_s7 m o N G h2];exact ⟨gt,bn,bb,bg,rfl,h3,rfl⟩
def VSt.num : VSt → Int
  | .t n=>n
  | _=>0
def VSt.pairs : VSt → List Pair
  | .t _=>[]
  | .b L _=>(listB L).map pairV
  | .l L=>L.map pairOf
  | .m X _=>listM X
  | .s N G=>listS N G
theorem vvalue (w : World) (g : Nat) (t : ByteArray) (b : Nat) (I : List Id32) (v : Value) (O M : List Nat) (s : VSt) (h : ViewAt w g t b I v) (hs : StAt w O M v s) (ht : t.size ≤ 9223372036854775807) (hk : kindB t = s.kind) (hl : s.len ≤ 1000) :
    Calls Tryz.prog 24 #[.pointer (some ⟨g,0,none⟩)] w fun e w'=>∃ A cap,e = .returned (.agg (valVC ⟨s.kind,s.num,.slice A s.pairs.length cap⟩)) ∧ Own w' w.heap.size 98 2 A s.pairs.length cap (s.pairs.map pairC) ∧ Below w.heap.size w w':=by
  cases s with
  | t n =>
    obtain ⟨gt,rfl,h1,rfl⟩:=hs;refine (vvalue_t w g gt t b I n h h1 ht hk).mono ?_;rintro e w' ⟨rfl,hb⟩;exact ⟨none,0,rfl,Own.nil _ _ _ _,hb⟩
  | b L G =>
    obtain ⟨gt,bl,bg,rfl,h1,rfl⟩:=hs;refine (vvalue_b w g gt t b I h ht hk (listB L).length ((listB L).map fun s=>pairC (pairV s)) (fun w' hb=>blist w' gt bl bg L G (h1.below hb) (by have : L.length ≤ 1000:=hl;omega))).mono ?_;rintro e w' ⟨A,cap,rfl,ho,hb⟩;have e1 : (VSt.b L G).pairs.length = (listB L).length:=by simp [VSt.pairs]
    refine ⟨A,cap,by rw [e1];rfl,?_,hb⟩;rw [e1];simpa [VSt.pairs,List.map_map,Function.comp_def] using ho
  | l L =>
    obtain ⟨gt,bl,rfl,h1,rfl⟩:=hs;refine (vvalue_l w g gt t b I h ht hk L.length (listC L) (fun w' hb=>llist w' gt bl L (h1.below hb) (by have : L.length ≤ 1000:=hl;omega))).mono ?_;rintro e w' ⟨A,cap,rfl,ho,hb⟩;have e1 : (VSt.l L).pairs.length = L.length:=by simp [VSt.pairs]
    refine ⟨A,cap,by rw [e1];rfl,?_,hb⟩;rw [e1];simpa [VSt.pairs,listC,List.map_map,Function.comp_def] using ho
  | m X Ov =>
    obtain ⟨gt,bl,bo,rfl,h1,rfl⟩:=hs;exact vvalue_m w g gt t b I h ht hk (listM X).length ((listM X).map pairC) (fun w' hb=>mlist w' gt bl bo X Ov (h1.below hb) (by have : X.length ≤ 1000:=hl;omega))
  | s N G =>
    obtain ⟨gt,bn,bb,bg,rfl,h1,rfl⟩:=hs;exact vvalue_s w g gt t b I h ht hk (listS N G).length ((listS N G).map pairC) (fun w' hb=>sqlist w' M gt bn bb bg N G (h1.below hb) (by have : N.length ≤ 1000:=hl;omega))
end
section
open Go.RowKit
abbrev MarksIn (w : World) (A : Option Addr) (n : Nat) (R : List MarkV) : Prop:=SlR w A n 34 (R.map markVC)
theorem MarksIn.get {w : World} {A : Option Addr} {n : Nat} {R : List MarkV} (h : MarksIn w A n R) {i : Nat} (hi : i < n) (hR : i < R.length) :
    ∃ g o,A = some ⟨g,o,none⟩ ∧ rowAt w g (o + i * 34) 34 = some (markVC R[i]) ∧ rowAt w g (o + i * 34) 32 = some (idC (R[i]).id) ∧ w.cell? ⟨g,o + i * 34 + 33,none⟩ = some (.string (R[i]).body):=by
  obtain ⟨g,o,e,hr⟩:=SlR.at_ h hi;rw [List.getElem_map] at hr;refine ⟨g,o,e,hr,?_,?_⟩
  · have:=rowAt_sub hr (j:=0) (m:=32) (by omega)
    rwa [markVC_e0] at this
  · have:=rowAt_cell hr (j:=33) (by omega)
    rwa [markVC_g33] at this
theorem MarksIn.len {w : World} {A : Option Addr} {n : Nat} {R : List MarkV} (h : MarksIn w A n R) : R.length = n:=by simpa using h.1
structure MarksOk (w : World) (A : Option Addr) (n : Nat) (R : List MarkV) : Prop where
  rows : MarksIn w A n R
  big : n ≤ 9223372036854775807
  each : ∀ a ∈ R,a.body.size ≤ 9223372036854775807
def FewMarks (R : List MarkV) : Prop:=R.length ≤ 30 ∧ ∀ a ∈ R,a.body.size ≤ 600
set_option maxHeartbeats 1000000 in
theorem vmuch (w : World) (A : Option Addr) (n cap : Nat) (R : List MarkV) (h : MarksOk w A n R) :
    Calls Tryz.prog 20 #[.slice A n cap] w fun e w'=>∃ b,e = .returned (.bool b) ∧ (b = false → FewMarks R) ∧ Below w.heap.size w w':=by
  have hlen:=h.rows.len;have hn:=h.big;have hrows:=h.rows;have hs:=h.each;have Hlen:=Lib.hid hlen;go_enter Tryz.func20,Tryz.ntmps20
  (go_wp2_with fail);go_loopw [3] (fun i wr=>∃ k : Nat,k ≤ n ∧ k ≤ 30 ∧ i = .int .i64 k ∧ Hid (∀ j (hj : j < R.length),j < k → (R[j]).body.size ≤ 600) ∧ Below w.heap.size w wr) (fun i _=>n - (intOf i).toNat)
  case atStart=>exact ⟨0,Nat.zero_le _,by omega,rfl,(show ∀ j (hj : j < R.length),j < 0 → _ from fun j _ h=>absurd h (by omega)),Below.refl _ _⟩
  case round =>
    obtain ⟨k,hk,hk40,rfl,hd,hb⟩:=hrel;by_cases hlt : k < n ∧ k < 30
    · obtain ⟨hlt,hlt40⟩:=hlt;obtain ⟨g,o,rfl,_,_,hval⟩:=MarksIn.get (SlR.below hrows hb) hlt (by omega);have hsk:=hs R[k] (List.getElem_mem (by omega));obtain ⟨x,hx⟩ : ∃ x,R[k]'(by omega) = x:=⟨_,rfl⟩
      have Hx:=Lib.hid hx;rw [hx] at hval hsk;clear hx;by_cases h1 : 600 < x.body.size
      · (go_wp2_with fail);go_ret;exact ⟨true,rfl,nofun,hb⟩
      · have hd2 : ∀ j (hj : j < R.length),j < k + 1 → (R[j]).body.size ≤ 600:=fun j hj hjk=>by
          rcases Nat.lt_or_ge j k with h3 | h3
          · exact hd.out j hj h3
          · obtain rfl : j = k:=by omega
            have:=Hx.out;rw [this];omega
        have Hd2:=Lib.hid hd2;clear hd2 hd;(go_wp2_with fail);go_roundw
        case rel=>exact ⟨k + 1,by omega,by omega,by go_num,Hd2,hb⟩
        case measure=>simp [intOf];omega
    · have hstop : n ≤ k ∨ 30 ≤ k:=by omega
      by_cases hm : 30 < n
      · (go_wp2_with fail);go_ret;exact ⟨true,ret_bool (decide_eq_true (by omega)),nofun,hb⟩
      · have hfew : FewMarks R:=⟨by omega,fun a ha=>by
          obtain ⟨j,hj,rfl⟩:=List.getElem_of_mem ha;exact hd.out j hj (by omega)⟩
        have Hf:=Lib.hid hfew;clear hfew hd;(go_wp2_with fail);go_ret;exact ⟨false,ret_bool (decide_eq_false (by omega)),fun _=>Hf.out,hb⟩
end
section
open Go.RowKit
structure VAt (w : World) (g : Nat) (t : ByteArray) (b : Nat) (O : List Nat) (I : List Id32) (v : Value) (s : VSt) : Prop where
  view : ViewAt w g t b I v
  st : StAt w O (b :: O) v s
  gM : g ∉ b :: O
  bO : b ∉ O
  lt : ∀ x ∈ b :: O,x < w.heap.size
  b0 : 0 ∉ b :: O
theorem VAt.below {w w' : World} {g : Nat} {t : ByteArray} {b : Nat} {O : List Nat} {I : List Id32} {v : Value} {s : VSt} (h : VAt w g t b O I v s) (k : Below w.heap.size w w') : VAt w' g t b O I v s :=
  ⟨h.view.below k,h.st.below k,h.gM,h.bO,fun x hx=>Nat.lt_of_lt_of_le (h.lt x hx) k.size,h.b0⟩
def VSt.new (k : Int) : VSt:=if k = 1 then .t 0 else if k = 2 then .b [] [] else if k = 3 then .l [] else if k = 4 then .m [] [] else .s [] []
theorem kindB_range (t : ByteArray) : kindB t = 0 ∨ kindB t = 1 ∨ kindB t = 2 ∨ kindB t = 3 ∨ kindB t = 4 ∨ kindB t = 5:=by
  unfold kindB kindC
  repeat' split
  all_goals simp
theorem vnew_vat {w2 w3 w' : World} {g b : Nat} {t : ByteArray} {O : List Nat} {v : Value} {s : VSt} (hv : ViewAt w' g t b [] v) (hs : StAt w3 O O v s) (hO : ∀ x ∈ O,w2.heap.size ≤ x ∧ x < w3.heap.size) (hb : Below w3.heap.size w3 w') (hg : g = w3.heap.size) (hb2 : b < w2.heap.size) (hbp : 0 < b) (hm : StAt w3 O O v s → StAt w3 O (b :: O) v s) : VAt w' g t b O [] v s:=by
  have h3:=(hm hs).below hb;refine ⟨hv,h3,?_,?_,?_,?_⟩
  · intro hx;rcases List.mem_cons.1 hx with h | h
    · exact hv.ne h
    · have:=(hO _ h).2;omega
  · intro h;have:=(hO _ h).1;omega
  · intro x hx;rcases List.mem_cons.1 hx with h | h
    · rw [h];exact hv.ids.lt
    · have:=(hO _ h).2;have:=hb.size;omega
  · intro hx;rcases List.mem_cons.1 hx with h | h
    · omega
    · have:=(hO _ h).1;omega
theorem vnew_any (t : ByteArray) (w : World) (ht : t.size ≤ 9223372036854775807) (hk0 : kindB t ≠ 0) (hw : 0 < w.heap.size) :
    Calls Tryz.prog 23 #[.string t] w fun e w'=>∃ g b O v,e = .returned (.tuple #[.pointer (some ⟨g,0,none⟩),.int .i64 0]) ∧ VAt w' g t b O [] v (VSt.new (kindB t)) ∧ (∀ x ∈ b :: O,w.heap.size ≤ x) ∧ w.heap.size ≤ g ∧ Below w.heap.size w w':=by
  rcases kindB_range t with h | h | h | h | h | h
  · exact absurd h hk0
  · have hf : ∀ w,Calls Tryz.prog 55 #[.int .i64 1] w fun e w'=>∃ gs,e = .returned (.iface 100 (.pointer (some ⟨gs,0,none⟩))) ∧ (TallyAt w' gs 0 ∧ w.heap.size ≤ gs) ∧ Below w.heap.size w w':=fun w=>(vfresh_t w).mono fun e w' ⟨h1,h2,h3⟩=>⟨_,h1,⟨h2,Nat.le_refl _⟩,h3⟩;refine (vnew t w ht 1 h (by omega) _ _ hf).mono ?_;rintro e w' ⟨g,b,gs,w2,w3,rfl,hv,⟨hz,hz2⟩,hb23,hb3,hg,hb1,hb2,hB⟩;refine ⟨g,b,[gs],.iface 100 (.pointer (some ⟨gs,0,none⟩)),rfl,?_,?_,?_,hB⟩
    · rw [h];refine vnew_vat (s:=.t 0) (w2:=w2) hv ⟨gs,rfl,hz,rfl⟩ (fun x hx=>?_) hb3 hg hb2 (by omega) (fun h=>?_)
      · obtain rfl : x = gs:=by simpa using hx
        exact ⟨hz2,hz.lt⟩
      · obtain ⟨g',e,h1,h2⟩:=h;exact ⟨g',e,h1,h2⟩
    · intro x hx;simp at hx;omega
    · have:=hb23.size;omega
  · refine (vnew t w ht 2 h (by omega) _ _ vfresh_b).mono ?_;rintro e w' ⟨g,b,gs,w2,w3,rfl,hv,⟨bl,bg,hz,z1,z2,z3⟩,hb23,hb3,hg,hb1,hb2,hB⟩;refine ⟨g,b,[gs,bl,bg],.iface 102 (.pointer (some ⟨gs,0,none⟩)),rfl,?_,?_,?_,hB⟩
    · rw [h];refine vnew_vat (s:=.b [] []) (w2:=w2) hv ⟨gs,bl,bg,rfl,hz,rfl⟩ (fun x hx=>?_) hb3 hg hb2 (by omega) (fun h=>?_)
      · have h1:=hz.lt.1;have h2:=hz.live.lt;have h3:=hz.gone.lt;simp at hx;rcases hx with rfl | rfl | rfl <;> omega
      · exact h
    · intro x hx;simp at hx;omega
    · have:=hb23.size;omega
  · refine (vnew t w ht 3 h (by omega) _ _ vfresh_l).mono ?_;rintro e w' ⟨g,b,gs,w2,w3,rfl,hv,⟨bl,hz,z1,z2⟩,hb23,hb3,hg,hb1,hb2,hB⟩;refine ⟨g,b,[gs,bl],.iface 104 (.pointer (some ⟨gs,0,none⟩)),rfl,?_,?_,?_,hB⟩
    · rw [h];refine vnew_vat (s:=.l []) (w2:=w2) hv ⟨gs,bl,rfl,hz,rfl⟩ (fun x hx=>?_) hb3 hg hb2 (by omega) (fun h=>?_)
      · have h1:=hz.lt;simp at hx;rcases hx with rfl | rfl <;> omega
      · exact h
    · intro x hx;simp at hx;omega
    · have:=hb23.size;omega
  · refine (vnew t w ht 4 h (by omega) _ _ vfresh_m).mono ?_;rintro e w' ⟨g,b,gs,w2,w3,rfl,hv,⟨bl,bg,hz,z1,z2,z3⟩,hb23,hb3,hg,hb1,hb2,hB⟩;refine ⟨g,b,[gs,bl,bg],.iface 105 (.pointer (some ⟨gs,0,none⟩)),rfl,?_,?_,?_,hB⟩
    · rw [h];refine vnew_vat (s:=.m [] []) (w2:=w2) hv ⟨gs,bl,bg,rfl,hz,rfl⟩ (fun x hx=>?_) hb3 hg hb2 (by omega) (fun h=>?_)
      · have h1:=hz.lt.1;have h2:=hz.live.lt;have h3:=hz.over.lt;simp at hx;rcases hx with rfl | rfl | rfl <;> omega
      · exact h
    · intro x hx;simp at hx;omega
    · have:=hb23.size;omega
  · refine (vnew t w ht 5 h (by omega) _ _ vfresh_s).mono ?_;rintro e w' ⟨g,b,gs,w2,w3,rfl,hv,⟨bn,bb,bg,hz,z1,z2,z3,z4⟩,hb23,hb3,hg,hb1,hb2,hB⟩;have hz0:=hz [bn,bb,bg] (by simp) (by simp) (by simp);have hm : SeqAt w3 (b :: [gs,bn,bb,bg]) gs bn bb bg [] []:=hz _ (by simp) (by simp) (by simp);refine ⟨g,b,[gs,bn,bb,bg],.iface 106 (.pointer (some ⟨gs,0,none⟩)),rfl,?_,?_,?_,hB⟩
    · rw [h];refine vnew_vat (s:=.s [] []) (w2:=w2) hv ⟨gs,bn,bb,bg,rfl,hz _ (by simp) (by simp) (by simp),rfl⟩ (fun x hx=>?_) hb3 hg hb2 (by omega) (fun _=>⟨gs,bn,bb,bg,rfl,hm,rfl⟩);have h1:=hz0.ltg;obtain ⟨_,_,hn⟩:=hz0.nodes;obtain ⟨_,_,_,hbb,_⟩:=hz0.behind;have h4:=hz0.gone.lt;have h2:=hn.lt;have h3:=hbb.lt;simp at hx;rcases hx with rfl | rfl | rfl | rfl <;> omega
    · intro x hx;simp at hx;omega
    · have:=hb23.size;omega
theorem opO_lo (l : List UInt8) (h : opE l = 0) : -2147483648 ≤ (opO l).n:=by
  have hn:=opO_ok l h;have hk : 1 ≤ numV 1 l 0 ∧ numV 1 l 0 ≤ 7:=by
    unfold opE at h;split at h
    · contradiction
    split at h
    · cases h
    · omega
  have h2:=num_take (numV 1 l 0) (rawL 1 l 0) 0 hk.1 hk.2;have e : (takeO (numV 1 l 0) (rawL 1 l 0) 0).o = opO l:=rfl;rw [e,decide_eq_true hn.2.2.2.2.2.2.2] at h2;unfold numO at h2;simp only [Bool.and_eq_true,decide_eq_true_eq] at h2;exact h2.2.2
def foldS (t : ByteArray) (m : MarkV) (s : VSt) : VSt:=if fits t m then doS m (opO m.body.data.toList) s else s
theorem foldS_kind (t : ByteArray) (m : MarkV) (s : VSt) : (foldS t m s).kind = s.kind:=by
  unfold foldS;split
  · exact doS_kind _ _ _
  · rfl
theorem foldS_len (t : ByteArray) (m : MarkV) (s : VSt) : (foldS t m s).len ≤ s.len + 1:=by
  unfold foldS;split
  · exact doS_len _ _ _
  · omega
theorem vfold_vat (m : MarkV) (w : World) (g : Nat) (t : ByteArray) (b : Nat) (O : List Nat) (I : List Id32) (v : Value) (s : VSt) (h : VAt w g t b O I v s) (hm : m.id ∉ I) (hp : PartsVar w) (hs : m.body.size ≤ 9223372036854775807) (ht : t.size ≤ 9223372036854775807) (hk : kindB t = s.kind) (hl : s.len ≤ 1000) :
    Calls Tryz.prog 26 #[.pointer (some ⟨g,0,none⟩),.agg (markVC m)] w fun e w'=>e = .returned (.bool true) ∧ VAt w' g t b O (m.id :: I) v (foldS t m s) ∧ Keep (b :: O) w w':=by
  have hgO : g ∉ O:=fun hx=>h.gM (List.mem_cons_of_mem _ hx);have hOb : ∀ x ∈ O,x ∉ [b]:=fun x hx hxb=>h.bO (by have : x = b:=by simpa using hxb
                                                                                                                rwa [← this])
  refine vfold_new m w g t b I v h.view hm hp (fun e=>h.b0 (by simp [e])) hs ht (fun w'=>VAt w' g t b O (m.id :: I) v (foldS t m s) ∧ Keep (b :: O) w w') ?_ ?_
  · intro hf w' hv hkp;have e : foldS t m s = s:=if_neg hf;rw [e];exact ⟨⟨hv,h.st.kept hkp hOb (fun x hx=>.inl (by have : x = b:=by simpa using hx
                                                                                                                   simp [this])),h.gM,h.bO,fun x hx=>Nat.lt_of_lt_of_le (h.lt x hx) hkp.size,h.b0⟩,hkp.mono (by simp)⟩
  · intro hf w1 A c hv hkp hp1 hown;have e : foldS t m s = doS m (opO m.body.data.toList) s:=if_pos hf;rw [e];have hok:=opO_ok _ hf.1;have hst : StAt w1 O (b :: O) v s:=h.st.kept hkp hOb (fun x hx=>.inl (by have : x = b:=by simpa using hx
                                                                                                                                                                                                               simp [this]))
    refine (vdoes m _ A c w1 g t b (m.id :: I) v O (b :: O) s hv hst (fun x hx=>Nat.lt_of_lt_of_le (h.lt x hx) hkp.size) ⟨hf.2.trans hk,hok.2.2.2.1,hok.2.2.2.2.1,hok.2.2.2.2.2.1,opO_lo _ hf.1,hok.2.2.2.2.2.2.2⟩ hown.slr hl).mono ?_;rintro e w' ⟨rfl,h1,hk2⟩;exact ⟨rfl,⟨hv.kept hk2 hgO h.bO,h1,h.gM,h.bO,fun x hx=>Nat.lt_of_lt_of_le (h.lt x hx) (Nat.le_trans hkp.size hk2.size),h.b0⟩,Keep.trans (hkp.mono (S':=b :: O) (by simp)) (hk2.mono (S':=b :: O) (fun x hx=>.inl (List.mem_cons_of_mem _ hx))) (fun x hx=>.inl hx)⟩
end
section
open Go.RowKit
theorem getL_cons (a : LRow) (l : List LRow) (k : ByteArray) : getL (a :: l) k = if a.1 = k then some a.2 else getL l k:=by
  unfold getL;rw [List.find?_cons];by_cases h : a.1 = k <;> simp [h]
theorem getL_ins_other : ∀ (l : List LRow) (k k' : ByteArray) (x : Setting),k ≠ k' → getL (insL l k x) k' = getL l k'
  | [],k,k',x,h=>by simp [insL,getL,h]
  | a :: l,k,k',x,h=>by
    unfold insL;split
    · rw [getL_cons,getL_cons,getL_ins_other l k k' x h]
    · split
      · rename_i he
        split
        · rw [getL_cons,getL_cons];simp only;rw [if_neg h,if_neg (fun e=>h (he.symm.trans e))]
        · rfl
      · rw [getL_cons];simp only;rw [if_neg h]
theorem getL_lt {l : List LRow} {k : ByteArray} (h : ∀ y ∈ l,cmpS k y.1 < 0) : getL l k = none:=by
  unfold getL;rw [Option.map_eq_none_iff,List.find?_eq_none];intro y hy e;have:=h y hy;have e' : y.1 = k:=by simpa using e
  rw [e'] at this;exact cmpS_irr this
theorem getL_ins_same : ∀ (l : List LRow) (k : ByteArray) (x : Setting),Rising l → getL (insL l k x) k = some (match getL l k with | none=>x | some was=>if 0 < cmpSet x was then x else was)
  | [],k,x,_=>by simp [insL,getL]
  | a :: l,k,x,hr=>by
    unfold insL;split
    · rename_i hlt
      have hne : a.1 ≠ k:=fun e=>(by rw [e] at hlt;exact cmpS_irr hlt);rw [getL_cons,getL_cons,if_neg hne,if_neg hne];exact getL_ins_same l k x hr.2
    · rename_i hnl
      split
      · rename_i he
        rw [getL_cons a l,if_pos he];split
        · rename_i h0;rw [getL_cons];simp [h0]
        · rename_i h0;rw [getL_cons,if_pos he];simp [h0]
      · rename_i he
        rw [getL_cons];simp only [if_true];rw [getL_cons,if_neg he,getL_lt];intro y hy;exact cmpS_trans _ _ _ (cmpS_ne hnl he) (hr.1 y hy)
theorem orL3_zero {a b c : Int} : orL [a,b,c] = 0 ↔ a = 0 ∧ b = 0 ∧ c = 0:=by
  simp only [orL]
  repeat' split
  all_goals simp_all
theorem cmpI_zero {a b : Int} : cmpI a b = 0 ↔ a = b:=by
  unfold cmpI
  repeat' split
  all_goals first | (simp;omega) | (constructor <;> intro h <;> omega)
theorem cmpI_anti (a b : Int) : cmpI b a = - cmpI a b:=by
  unfold cmpI
  repeat' split
  all_goals first | omega | simp
theorem cmpI_trans {a b c : Int} (h : cmpI a b < 0) (k : cmpI b c < 0) : cmpI a c < 0:=by
  have h1 : a < b:=by unfold cmpI at h;repeat' split at h
                      all_goals first | assumption | omega
  have h2 : b < c:=by unfold cmpI at k;repeat' split at k
                      all_goals first | assumption | omega
  unfold cmpI;rw [if_pos (by omega)];omega
theorem cmpSet_zero {x y : Setting} : cmpSet x y = 0 ↔ x = y:=by
  unfold cmpSet;rw [orL3_zero,cmpI_zero,cmpId_zero,cmpS_zero];constructor
  · rintro ⟨h1,h2,h3⟩;cases x;cases y;simp_all
  · rintro rfl;simp
theorem orL3_neg (a b c : Int) : orL [-a,-b,-c] = - orL [a,b,c]:=by
  simp only [orL]
  repeat' split
  all_goals first | omega | simp
theorem cmpSet_anti (x y : Setting) : cmpSet y x = - cmpSet x y:=by
  unfold cmpSet;rw [cmpI_anti,cmpId_anti,cmpS_anti,orL3_neg]
theorem orL3_lt {a b c : Int} : orL [a,b,c] < 0 ↔ a < 0 ∨ a = 0 ∧ (b < 0 ∨ b = 0 ∧ c < 0):=by
  simp only [orL]
  repeat' split
  all_goals (constructor <;> intro h <;> omega)
theorem cmpSet_trans {x y z : Setting} (h : cmpSet x y < 0) (k : cmpSet y z < 0) : cmpSet x z < 0:=by
  unfold cmpSet at *;rw [orL3_lt] at *;rcases h with h | ⟨h1,h | ⟨h2,h⟩⟩
  · rcases k with k | ⟨k1,_⟩
    · exact .inl (cmpI_trans h k)
    · rw [cmpI_zero] at k1;rw [← k1];exact .inl h
  · rw [cmpI_zero] at h1;rw [h1];rcases k with k | ⟨k1,k | ⟨k2,k⟩⟩
    · exact .inl k
    · exact .inr ⟨k1,.inl (cmpId_trans _ _ _ h k)⟩
    · rw [cmpId_zero] at k2;rw [← k2];exact .inr ⟨k1,.inl h⟩
  · rw [cmpI_zero] at h1;rw [cmpId_zero] at h2;rw [h1,h2];rcases k with k | ⟨k1,k | ⟨k2,k⟩⟩
    · exact .inl k
    · exact .inr ⟨k1,.inl k⟩
    · exact .inr ⟨k1,.inr ⟨k2,cmpS_trans _ _ _ h k⟩⟩
def maxS (o : Option Setting) (x : Setting) : Setting:=match o with | none=>x | some was=>if 0 < cmpSet x was then x else was
theorem maxS_none (x : Setting) : maxS none x = x:=rfl
theorem maxS_some (u x : Setting) : maxS (some u) x = if 0 < cmpSet x u then x else u:=rfl
theorem rising_ext : ∀ {L L' : List LRow},Rising L → Rising L' → (∀ k,getL L k = getL L' k) → L = L'
  | [],[],_,_,_=>rfl
  | [],b :: l',_,_,h=>by
    have:=h b.1;rw [getL_cons,if_pos rfl] at this;cases this
  | a :: l,[],_,_,h=>by
    have:=h a.1;rw [getL_cons,if_pos rfl] at this;cases this
  | a :: l,b :: l',h1,h2,h=>by
    have ha:=h a.1;have hb:=h b.1;rw [getL_cons,if_pos rfl] at ha;rw [getL_cons (a:=b),if_pos rfl] at hb;have hk : a.1 = b.1:=by
      by_cases hlt : cmpS a.1 b.1 < 0
      · have : getL (b :: l') a.1 = none:=getL_lt (fun y hy=>by
          rcases List.mem_cons.1 hy with e | hy
          · rw [e];exact hlt
          · exact cmpS_trans _ _ _ hlt (h2.1 y hy))
        rw [this] at ha;cases ha
      · by_cases he : a.1 = b.1
        · exact he
        · have hlt2:=cmpS_ne hlt he;have : getL (a :: l) b.1 = none:=getL_lt (fun y hy=>by
            rcases List.mem_cons.1 hy with e | hy
            · rw [e];exact hlt2
            · exact cmpS_trans _ _ _ hlt2 (h1.1 y hy))
          rw [this] at hb;cases hb
    rw [getL_cons,if_pos hk.symm] at ha;have hv : a.2 = b.2:=by injection ha
    have hab : a = b:=Prod.ext hk hv;subst hab;congr 1
    refine rising_ext h1.2 h2.2 fun k=>?_;by_cases e : a.1 = k
    · subst e;rw [getL_lt h1.1,getL_lt h2.1]
    · have:=h k
      rwa [getL_cons,getL_cons,if_neg e,if_neg e] at this
theorem getL_ins_max {l : List LRow} {k : ByteArray} {x : Setting} (h : Rising l) : getL (insL l k x) k = some (maxS (getL l k) x):=by
  rw [getL_ins_same l k x h];cases getL l k <;> rfl
end
section
open Go.RowKit
def oOf (m : MarkV) : OpV:=opO m.body.data.toList
def setOf (m : MarkV) : Setting:=⟨(oOf m).val,(oOf m).n,m.id⟩
def nodeOf (m : MarkV) : NodeV:=⟨m.id,m.h,(oOf m).ref,(oOf m).val⟩
def rowOfM (m : MarkV) : MRow:=⟨m.id,(oOf m).key,(oOf m).val⟩
def sumN (F : List MarkV) : Int:=(F.map fun m=>(oOf m).n).sum
theorem sumN_snoc (F : List MarkV) (m : MarkV) : sumN (F ++ [m]) = sumN F + (oOf m).n:=by simp [sumN]
theorem sumN_perm {F F' : List MarkV} (h : F.Perm F') : sumN F = sumN F':=by
  unfold sumN;induction h with
  | nil=>rfl
  | cons x _ ih=>simp only [List.map_cons,List.sum_cons,ih]
  | swap x y l=>simp only [List.map_cons,List.sum_cons];omega
  | trans _ _ h1 h2=>rw [h1,h2]
theorem wrap64_left (a b : Int) : wrap64 (wrap64 a + b) = wrap64 (a + b):=by unfold wrap64;omega
def Latest (F : List MarkV) (k : ByteArray) : Option Setting → Prop
  | none=>∀ m ∈ F,checkE (oOf m).key (setOf m) = 0 → (oOf m).key ≠ k
  | some s=>(∃ m ∈ F,checkE (oOf m).key (setOf m) = 0 ∧ (oOf m).key = k ∧ s = setOf m) ∧ ∀ m ∈ F,checkE (oOf m).key (setOf m) = 0 → (oOf m).key = k → ¬ 0 < cmpSet (setOf m) s
def Means (F : List MarkV) : VSt → Prop
  | .t n=>n = wrap64 (sumN F)
  | .b L G=>Ris cmpRow L ∧ Ris cmpRow G ∧ (∀ z,z ∈ G ↔ ∃ m ∈ F,(oOf m).k ≠ 2 ∧ z.val = (oOf m).val ∧ z.tag ∈ (oOf m).refs) ∧ ∀ z,z ∈ L ↔ (∃ m ∈ F,(oOf m).k = 2 ∧ z = ⟨m.id,(oOf m).val⟩) ∧ z ∉ G
  | .l L=>RowsOk L ∧ ∀ k,Latest F k (getL L k)
  | .m X O=>Ris cmpMR X ∧ Ris cmpId O ∧ (∀ z,z ∈ O ↔ ∃ m ∈ F,z ∈ (oOf m).refs) ∧ ∀ z,z ∈ X ↔ (∃ m ∈ F,z = rowOfM m) ∧ z.id ∉ O
  | .s N G=>(∀ z,z ∈ N ↔ ∃ m ∈ F,(oOf m).k = 6 ∧ z = nodeOf m ∧ nodeE z = 0) ∧ Ris cmpId G ∧ ∀ z,z ∈ G ↔ ∃ m ∈ F,(oOf m).k ≠ 6 ∧ z = (oOf m).ref
theorem ex_snoc {F : List MarkV} {m : MarkV} {P : MarkV → Prop} : (∃ a ∈ F ++ [m],P a) ↔ (∃ a ∈ F,P a) ∨ P m:=by
  constructor
  · rintro ⟨a,ha,hp⟩;rcases List.mem_append.1 ha with h | h
    · exact .inl ⟨a,h,hp⟩
    · have e : a = m:=by simpa using h
      subst e;exact .inr hp
  · rintro (⟨a,ha,hp⟩ | hp)
    · exact ⟨a,List.mem_append_left _ ha,hp⟩
    · exact ⟨m,by simp,hp⟩
theorem all_snoc {F : List MarkV} {m : MarkV} {P : MarkV → Prop} : (∀ a ∈ F ++ [m],P a) ↔ (∀ a ∈ F,P a) ∧ P m:=by
  constructor
  · intro h;exact ⟨fun a ha=>h a (List.mem_append_left _ ha),h m (by simp)⟩
  · rintro ⟨h1,h2⟩ a ha;rcases List.mem_append.1 ha with h | h
    · exact h1 a h
    · have e : a = m:=by simpa using h
      subst e;exact h2
theorem means_new (k : Int) : Means [] (VSt.new k):=by
  unfold VSt.new;split
  · show (0 : Int) = wrap64 (sumN []);decide +kernel
  split
  · exact ⟨Ris.nil,Ris.nil,by simp,by simp⟩
  split
  · exact ⟨⟨trivial,by simp⟩,fun k=>by show Latest [] k none;intro m hm;simp at hm⟩
  split
  · exact ⟨Ris.nil,Ris.nil,by simp,by simp⟩
  · exact ⟨by simp,Ris.nil,by simp⟩
theorem latest_snoc {F : List MarkV} {m : MarkV} {L : List LRow} (hr : Rising L) (h : ∀ k,Latest F k (getL L k)) (hc : checkE (oOf m).key (setOf m) = 0) (k : ByteArray) : Latest (F ++ [m]) k (getL (insL L (oOf m).key (setOf m)) k):=by
  by_cases hk : (oOf m).key = k
  · subst hk;rw [getL_ins_max hr];have h1:=h (oOf m).key;cases hg : getL L (oOf m).key with
    | none =>
      rw [hg] at h1;rw [maxS_none];refine ⟨ex_snoc.2 (.inr ⟨hc,rfl,rfl⟩),all_snoc.2 ⟨fun a ha hca e=>absurd e (h1 a ha hca),fun _ _=>?_⟩⟩;rw [(cmpSet_zero (x:=setOf m)).2 rfl];omega
    | some u =>
      rw [hg] at h1;rw [maxS_some];obtain ⟨h2,h3⟩:=h1;by_cases hu : 0 < cmpSet (setOf m) u
      · rw [if_pos hu];refine ⟨ex_snoc.2 (.inr ⟨hc,rfl,rfl⟩),all_snoc.2 ⟨fun a ha hca e hlt=>?_,fun _ _=>?_⟩⟩
        · have h4:=h3 a ha hca e;have h5:=cmpSet_anti (setOf a) (setOf m);have h6:=cmpSet_anti (setOf a) u;have h8:=cmpSet_anti (setOf m) u;by_cases h7 : cmpSet (setOf a) u = 0
          · rw [cmpSet_zero.1 h7] at hlt;omega
          · have:=cmpSet_trans (x:=u) (y:=setOf m) (z:=setOf a) (by omega) (by omega);omega
        · rw [(cmpSet_zero (x:=setOf m)).2 rfl];omega
      · rw [if_neg hu];exact ⟨ex_snoc.2 (.inl h2),all_snoc.2 ⟨h3,fun _ _=>hu⟩⟩
  · rw [getL_ins_other _ _ _ _ hk];have h1:=h k;cases hg : getL L k with
    | none=>rw [hg] at h1;exact all_snoc.2 ⟨h1,fun _=>hk⟩
    | some u =>
      rw [hg] at h1;exact ⟨ex_snoc.2 (.inl h1.1),all_snoc.2 ⟨h1.2,fun _ e=>absurd e hk⟩⟩
theorem latest_skip {F : List MarkV} {m : MarkV} {k : ByteArray} {o : Option Setting} (h : Latest F k o) (hc : checkE (oOf m).key (setOf m) ≠ 0) : Latest (F ++ [m]) k o:=by
  cases o with
  | none=>exact all_snoc.2 ⟨h,fun e=>absurd e hc⟩
  | some u=>exact ⟨ex_snoc.2 (.inl h.1),all_snoc.2 ⟨h.2,fun e=>absurd e hc⟩⟩
theorem mem_addB {L G : List BRow} {x z : BRow} (hv : x.val.size ≤ 16) (hr : Ris cmpRow L) (hl : ∀ y ∈ L,y ∉ G) : z ∈ addB L G x ↔ (z ∈ L ∨ z = x) ∧ z ∉ G:=by
  unfold addB;rw [if_neg (by omega)];split
  · rename_i h
    constructor
    · intro hz;exact ⟨.inl hz,hl z hz⟩
    · rintro ⟨h1 | h1,h2⟩
      · exact h1
      · subst h1;exact absurd h h2
  · rename_i h
    rw [mem_insC totRow];constructor
    · rintro (h1 | h1)
      · subst h1;exact ⟨.inr rfl,h⟩
      · exact ⟨.inl h1,hl z h1⟩
    · rintro ⟨h1 | h1,_⟩
      · exact .inr h1
      · exact .inl h1
theorem ris_addB {L G : List BRow} {x : BRow} (hr : Ris cmpRow L) : Ris cmpRow (addB L G x):=by
  unfold addB;split
  · exact hr
  · split
    · exact hr
    · exact ris_insC totRow hr
theorem means_fold {F : List MarkV} {m : MarkV} {s : VSt} (h : Means F s) (hv : (oOf m).val.size ≤ 16) (hid : ∀ a ∈ F,a.id ≠ m.id) : Means (F ++ [m]) (doS m (oOf m) s):=by
  cases s with
  | t n =>
    show wrap64 (n + (oOf m).n) = wrap64 (sumN (F ++ [m]));have e : n = wrap64 (sumN F):=h;rw [sumN_snoc,e,wrap64_left]
  | b L G =>
    obtain ⟨h1,h2,h3,h4⟩:=h;by_cases hk : (oOf m).k = 2
    · rw [doS_b2 m _ L G hk];refine ⟨ris_addB h1,h2,fun z=>?_,fun z=>?_⟩
      · rw [ex_snoc,← h3];exact ⟨.inl,fun h=>h.elim id fun h=>absurd hk h.1⟩
      · rw [mem_addB (x:=⟨m.id,(oOf m).val⟩) hv h1 (fun y hy=>((h4 y).1 hy).2),ex_snoc,h4];constructor
        · rintro ⟨⟨h5,_⟩ | h5,h6⟩
          · exact ⟨.inl h5,h6⟩
          · exact ⟨.inr ⟨hk,h5⟩,h6⟩
        · rintro ⟨h5 | ⟨_,h5⟩,h6⟩
          · exact ⟨.inl ⟨h5,h6⟩,h6⟩
          · exact ⟨.inr h5,h6⟩
    · rw [doS_b3 m _ L G hk];refine ⟨ris_remL h1,ris_remG h2,fun z=>?_,fun z=>?_⟩
      · rw [mem_remG,ex_snoc,h3];exact ⟨fun h=>h.elim .inl fun h=>.inr ⟨hk,h.1,h.2⟩,fun h=>h.elim .inl fun h=>.inr ⟨h.2.1,h.2.2⟩⟩
      · rw [mem_remL,mem_remG,ex_snoc,h4];constructor
        · rintro ⟨⟨h5,h6⟩,h7⟩;exact ⟨.inl h5,fun h=>h.elim h6 h7⟩
        · rintro ⟨h5 | h5,h6⟩
          · exact ⟨⟨h5,fun h=>h6 (.inl h)⟩,fun h=>h6 (.inr h)⟩
          · exact absurd h5.1 hk
  | l L =>
    obtain ⟨h1,h2⟩:=h;show RowsOk (setL L (oOf m).key (setOf m)) ∧ _;refine ⟨setL_ok h1 _ _,fun k=>?_⟩;show Latest _ k (getL (setL L (oOf m).key (setOf m)) k);unfold setL;by_cases hc : checkE (oOf m).key (setOf m) = 0
    · rw [if_pos hc];exact latest_snoc h1.1 h2 hc k
    · rw [if_neg hc];exact latest_skip (h2 k) hc
  | m X O =>
    obtain ⟨h1,h2,h3,h4⟩:=h;have hO : ∀ z,z ∈ putO O (oOf m).refs ↔ ∃ a ∈ F ++ [m],z ∈ (oOf a).refs:=fun z=>(by rw [mem_putO h2,ex_snoc,h3]);refine ⟨(ris_insC totMR h1).filter _,putO_ris h2,hO,fun z=>?_⟩;show z ∈ livR (insC cmpMR X (rowOfM m)) (putO O (oOf m).refs) ↔ _;unfold livR;rw [List.mem_filter,mem_insC totMR,ex_snoc,h4];simp only [decide_eq_true_eq];constructor
    · rintro ⟨h5 | ⟨h5,_⟩,h6⟩
      · exact ⟨.inr h5,h6⟩
      · exact ⟨.inl h5,h6⟩
    · rintro ⟨h5 | h5,h6⟩
      · exact ⟨.inr ⟨h5,fun h=>h6 ((mem_putO h2).2 (.inl h))⟩,h6⟩
      · exact ⟨.inl h5,h6⟩
  | s N G =>
    obtain ⟨h1,h2,h3⟩:=h;by_cases hk : (oOf m).k = 6
    · rw [doS_s6 m _ N G hk];refine ⟨fun z=>?_,h2,fun z=>?_⟩
      · show z ∈ addN N (nodeOf m) ↔ _;unfold addN;rw [ex_snoc,← h1];by_cases hE : nodeE (nodeOf m) = 0
        · rw [if_pos hE];have hn : (nodeOf m).id ∉ N.map NodeV.id:=fun hx=>by
            obtain ⟨a,ha,e⟩:=List.mem_map.1 hx;obtain ⟨b,hb,_,e2,_⟩:=(h1 a).1 ha;rw [e2] at e;exact hid b hb e
          rw [if_neg hn,List.mem_append,List.mem_singleton];exact ⟨fun h=>h.elim .inl fun h=>.inr ⟨hk,h,by rw [h];exact hE⟩,fun h=>h.elim .inl fun h=>.inr h.2.1⟩
        · rw [if_neg hE];exact ⟨.inl,fun h=>h.elim id fun h=>absurd (by rw [← h.2.1];exact h.2.2) hE⟩
      · rw [ex_snoc,← h3];exact ⟨.inl,fun h=>h.elim id fun h=>absurd hk h.1⟩
    · rw [doS_s7 m _ N G hk];refine ⟨fun z=>?_,ris_insC totId h2,fun z=>?_⟩
      · rw [ex_snoc,← h1];exact ⟨.inl,fun h=>h.elim id fun h=>absurd h.1 hk⟩
      · rw [mem_insC totId,ex_snoc,h3];exact ⟨fun h=>h.elim (fun h=>.inr ⟨hk,h⟩) .inl,fun h=>h.elim .inr fun h=>.inl h.2⟩
def SameS : VSt → VSt → Prop
  | .t a,.t b=>a = b
  | .b L G,.b L' G'=>L = L' ∧ G = G'
  | .l L,.l L'=>L = L'
  | .m X O,.m X' O'=>X = X' ∧ O = O'
  | .s N G,.s N' G'=>(∀ z,z ∈ N ↔ z ∈ N') ∧ G = G'
  | _,_=>False
theorem ex_mem {F F' : List MarkV} {P : MarkV → Prop} (h : ∀ m,m ∈ F ↔ m ∈ F') : (∃ a ∈ F,P a) ↔ ∃ a ∈ F',P a :=
  ⟨fun ⟨a,ha,hp⟩=>⟨a,(h a).1 ha,hp⟩,fun ⟨a,ha,hp⟩=>⟨a,(h a).2 ha,hp⟩⟩
theorem latest_uniq {F F' : List MarkV} {k : ByteArray} {o o' : Option Setting} (hm : ∀ m,m ∈ F ↔ m ∈ F') (h : Latest F k o) (h' : Latest F' k o') : o = o':=by
  cases o with
  | none =>
    cases o' with
    | none=>rfl
    | some u =>
      obtain ⟨⟨a,ha,hc,e,_⟩,_⟩:=h';exact absurd e (h a ((hm a).2 ha) hc)
  | some v =>
    obtain ⟨⟨b,hb,hcb,eb,evb⟩,hmax⟩:=h;cases o' with
    | none=>exact absurd eb (h' b ((hm b).1 hb) hcb)
    | some u =>
      obtain ⟨⟨a,ha,hc,e,ea⟩,hmax'⟩:=h';have h1:=hmax a ((hm a).2 ha) hc e;have h2:=hmax' b ((hm b).1 hb) hcb eb;have h3:=cmpSet_anti (setOf a) v;rw [← ea] at h1 h3;rw [← evb] at h2;have : cmpSet u v = 0:=by omega
      rw [cmpSet_zero.1 this]
theorem means_uniq {F F' : List MarkV} {s s' : VSt} (hp : F.Perm F') (h : Means F s) (h' : Means F' s') (hk : s.kind = s'.kind) : SameS s s':=by
  have hm : ∀ m,m ∈ F ↔ m ∈ F':=fun m=>hp.mem_iff;cases s <;> cases s' <;> simp [VSt.kind] at hk
  · show _ = _;have e1 : _ = wrap64 (sumN F):=h;have e2 : _ = wrap64 (sumN F'):=h';rw [e1,e2,sumN_perm hp]
  · obtain ⟨a1,a2,a3,a4⟩:=h;obtain ⟨b1,b2,b3,b4⟩:=h';have hG:=ris_ext totRow a2 b2 fun z=>(by rw [a3,b3];exact ex_mem hm);subst hG;exact ⟨ris_ext totRow a1 b1 fun z=>by rw [a4,b4,ex_mem hm],rfl⟩
  · obtain ⟨a1,a2⟩:=h;obtain ⟨b1,b2⟩:=h';exact rising_ext a1.1 b1.1 fun k=>latest_uniq hm (a2 k) (b2 k)
  · obtain ⟨a1,a2,a3,a4⟩:=h;obtain ⟨b1,b2,b3,b4⟩:=h';have hO:=ris_ext totId a2 b2 fun z=>(by rw [a3,b3];exact ex_mem hm);subst hO;exact ⟨ris_ext totMR a1 b1 fun z=>by rw [a4,b4,ex_mem hm],rfl⟩
  · obtain ⟨a1,a2,a3⟩:=h;obtain ⟨b1,b2,b3⟩:=h';exact ⟨fun z=>by rw [a1,b1];exact ex_mem hm,ris_ext totId a2 b2 fun z=>by rw [a3,b3];exact ex_mem hm⟩
end
section
open Go.RowKit
theorem idB_lt (d : Id32) {k : Nat} (h : k < 32) : idB d k = ((d.l[k]'(by rw [d.h];exact h)).toNat : Int):=by
  unfold idB;rw [List.getD_eq_getElem?_getD,List.getElem?_eq_getElem (by rw [d.h];exact h)];rfl
theorem drop_id (d : Id32) {k : Nat} (h : k < 32) : d.l.drop k = d.l[k]'(by rw [d.h];exact h) :: d.l.drop (k + 1):=List.drop_eq_getElem_cons (by rw [d.h];exact h)
theorem cmpB_cons (u v : UInt8) (l m : List UInt8) : cmpB (u :: l) (v :: m) = if u < v then -1 else if v < u then 1 else cmpB l m:=rfl
set_option maxHeartbeats 2000000 in
theorem rcompare (a b : Id32) (w : World) : Calls Tryz.prog 114 #[.agg (idC a),.agg (idC b)] w fun e w'=>e = .returned (.int .i64 (cmpId a b)) ∧ Below w.heap.size w w':=by
  go_enter Tryz.func114,Tryz.ntmps114
  (go_wp2_with fail);have hca : Hid (∀ k,k < 32 → ((w.alloc (.cells (idC a) 39)).alloc (.cells (idC b) 39)).cell? ⟨w.heap.size,k,none⟩ = some (.int .u8 (idB a k))):=fun k hk=>(by simp [go_sem,hk]);have hcb : Hid (∀ k,k < 32 → ((w.alloc (.cells (idC a) 39)).alloc (.cells (idC b) 39)).cell? ⟨w.heap.size + 1,k,none⟩ = some (.int .u8 (idB b k))):=fun k hk=>(by simp [go_sem,hk]);have hB : Below w.heap.size w ((w.alloc (.cells (idC a) 39)).alloc (.cells (idC b) 39)):=((Below.refl _ _).alloc (Nat.le_refl _) _).alloc (by simp) _;generalize (w.alloc (.cells (idC a) 39)).alloc (.cells (idC b) 39) = W at *;go_loopw [5] (fun i wr=>∃ k : Nat,k ≤ 32 ∧ i = .int .i64 k ∧ Hid (cmpB (a.l.drop k) (b.l.drop k) = cmpId a b) ∧ Below W.heap.size W wr) (fun i _=>32 - (intOf i).toNat)
  case atStart=>exact ⟨0,by omega,rfl,rfl,Below.refl _ _⟩
  case round =>
    obtain ⟨k,hk,rfl,hd,hb⟩:=hrel;by_cases hlt : k < 32
    · have ca:=(hb.cell (p:=⟨w.heap.size,k,none⟩) (World.block_lt_of_cell? W _ (hca.out k hlt))).trans (hca.out k hlt);have cb:=(hb.cell (p:=⟨w.heap.size + 1,k,none⟩) (World.block_lt_of_cell? W _ (hcb.out k hlt))).trans (hcb.out k hlt);have hdr : cmpId a b = if idB a k < idB b k then -1 else if idB b k < idB a k then 1 else cmpB (a.l.drop (k + 1)) (b.l.drop (k + 1)):=by
        rw [← hd.out,drop_id a hlt,drop_id b hlt,idB_lt a hlt,idB_lt b hlt,cmpB_cons];simp only [UInt8.lt_iff_toNat_lt,Int.ofNat_lt]
      obtain ⟨x,hx⟩ : ∃ x,idB a k = x:=⟨_,rfl⟩
      obtain ⟨y,hy⟩ : ∃ y,idB b k = y:=⟨_,rfl⟩
      rw [hx,hy] at hdr;rw [hx] at ca;rw [hy] at cb;have Hdr:=Lib.hid hdr;clear hdr hx hy;go_upto_region 4 with fail
      refine wp_region_lex (Bel wr) false (by kernel_rfl) (by kernel_rfl) (by kernel_rfl) (bel_drew wr) ?_;have hne:=bel_some wr;have hS:=bel_drew wr;have b1:=sub_cell ca;have b2:=sub_cell cb;repeat (refine wpLx_loose ?_ ?_;(focus (simp only [chainOp];done));intro K hK;go_simp;refine hK _ ?_;clear hK K)
      refine wpLx_nil ?_;intro hS;have hb1 : Below W.heap.size W wr.drew:=hb.drew;clear hne hS b1 b2;by_cases h1 : x < y
      · (go_wp2_with fail);go_ret;exact ⟨ret_int (by rw [Hdr.out,if_pos (by omega)]),hB.trans (hb1.mono hB.size)⟩
      · go_upto_region 6 with fail
        refine wp_region_lex (Bel wr.drew) false (by kernel_rfl) (by kernel_rfl) (by kernel_rfl) (bel_drew wr.drew) ?_;have hne:=bel_some wr.drew;have hS:=bel_drew wr.drew;have b1:=sub_cell (W:=wr.drew) ca;have b2:=sub_cell (W:=wr.drew) cb;repeat (refine wpLx_loose ?_ ?_;(focus (simp only [chainOp];done));intro K hK;go_simp;refine hK _ ?_;clear hK K)
        refine wpLx_nil ?_;intro hS;clear hne hS b1 b2;by_cases h2 : y < x
        · (go_wp2_with fail);go_ret;exact ⟨ret_int (by rw [Hdr.out,if_neg (by omega),if_pos (by omega)]),hB.trans (hb1.drew.mono hB.size)⟩
        · (go_wp2_with fail);go_roundw
          case rel=>exact ⟨k + 1,by omega,by go_num,(show cmpB _ _ = _ by rw [Hdr.out,if_neg (by omega),if_neg (by omega)]),hb1.drew⟩
          case measure=>simp [intOf];omega
    · have hk32 : k = 32:=by omega
      subst hk32;(go_wp2_with fail);go_ret;have h0:=hd.out;rw [List.drop_eq_nil_of_le (by rw [a.h];omega),List.drop_eq_nil_of_le (by rw [b.h];omega)] at h0;exact ⟨ret_int (by rw [← h0];rfl),hB.trans (hb.mono hB.size)⟩
end
section
open Go.RowKit
structure Row where
  key : ByteArray
  val : ByteArray
  n : Int
  id : Id32
def rowC (x : Row) : Array Value:=#[.string x.key] ++ #[.string x.val] ++ #[.int .i64 x.n] ++ idC x.id
@[simp] theorem rowC_size (x : Row) : (rowC x).size = 35:=by simp [rowC]
@[go_sem] theorem rowC_g0 (x : Row) : (rowC x)[0]? = some (.string x.key):=by first | (simp [rowC,Array.getElem?_append];done) | (rw [show rowC x = ((#[] : Array Value)) ++ #[.string x.key] ++ (#[.string x.val] ++ #[.int .i64 x.n] ++ idC x.id) from by apply Array.ext';simp [rowC]];exact arr_at _ _ _ _ (by simp))
@[go_sem] theorem rowC_g1 (x : Row) : (rowC x)[1]? = some (.string x.val):=by first | (simp [rowC,Array.getElem?_append];done) | (rw [show rowC x = (#[.string x.key]) ++ #[.string x.val] ++ (#[.int .i64 x.n] ++ idC x.id) from by apply Array.ext';simp [rowC]];exact arr_at _ _ _ _ (by simp))
@[go_sem] theorem rowC_gg1 (x : Row) (h : 1 < (rowC x).size) : (rowC x)[1]'h = .string x.val:=Option.some.inj ((Array.getElem?_eq_getElem h).symm.trans (rowC_g1 x))
@[go_sem] theorem rowC_g2 (x : Row) : (rowC x)[2]? = some (.int .i64 x.n):=by first | (simp [rowC,Array.getElem?_append];done) | (rw [show rowC x = (#[.string x.key] ++ #[.string x.val]) ++ #[.int .i64 x.n] ++ (idC x.id) from by apply Array.ext';simp [rowC]];exact arr_at _ _ _ _ (by simp))
@[go_sem] theorem rowC_gg2 (x : Row) (h : 2 < (rowC x).size) : (rowC x)[2]'h = .int .i64 x.n:=Option.some.inj ((Array.getElem?_eq_getElem h).symm.trans (rowC_g2 x))
theorem rowC_one (x : Row) : ∀ u ∈ (rowC x).toList,u.oneCell' = true:=by
  intro u hu;simp only [rowC,Array.toList_append,List.mem_append] at hu;rcases hu with ((hu | hu) | hu) | hu
  · simp at hu;subst hu;rfl
  · simp at hu;subst hu;rfl
  · simp at hu;subst hu;rfl
  · exact idC_one _ u hu
def row0 : Row:=⟨⟨#[]⟩,⟨#[]⟩,0,id0⟩
theorem Row_ext {x y : Row} (h : x.key = y.key ∧ x.val = y.val ∧ x.n = y.n ∧ x.id = y.id) : x = y:=by cases x;cases y;simp_all
instance : DecidableEq Row:=fun x y=>if h : x.key = y.key ∧ x.val = y.val ∧ x.n = y.n ∧ x.id = y.id then isTrue (Row_ext h) else isFalse (fun e=>h (by subst e;simp))
theorem infoRow : (Tryz.prog.info? 207).map (·.size) = some 35:=by kernel_rfl
@[go_sem ↓] theorem zeroRow_run (w : World) : (zeroValue 207).run Tryz.prog w = .ok (.agg (rowC row0)) w:=by
  have h : (Tryz.prog.info? 207).bind (·.zero) = some (.agg (rowC row0)):=by kernel_rfl
  cases hi : Tryz.prog.info? 207 with
  | none=>rw [hi] at h;cases h
  | some i =>
    rw [hi] at h;have hz : i.zero = some (.agg (rowC row0)):=h;simp [zeroValue,typeInfo,hi,hz]
@[go_sem ↓] theorem loadRow_rw (a : Addr) : loadVar 207 a = ldS 207 a:=rfl
@[go_sem ↓] theorem storeRow_rw (a : Addr) (v : Value) : storeVar 207 a v = stS 207 a v:=rfl
theorem fieldsRow : Tryz.prog.underlying 207 = some (.struct (Tryz.prog.fieldsOf 207)):=by kernel_rfl
theorem placesRow (w : World) : ((Tryz.prog.fieldsOf 207).mapM fun (f : Field)=>do pure (f.offset,← sizeOf f.type)).run Tryz.prog w = .ok #[(0,1),(1,1),(2,1),(3,32)] w:=by kernel_rfl
@[go_sem ↓] theorem buildRow_rw (parts : Array (Nat × Value)) : Instr.build 207 parts = bdS 207 parts:=rfl
def rowOk (x : Row) : Prop:=x.key.size ≤ maxLen ∧ x.val.size ≤ maxLen ∧ (Lit.int .i64 x.n).wf = true ∧ True
abbrev LRowsIn (w : World) (A : Option Addr) (n : Nat) (R : List Row) : Prop:=SlR w A n 35 (R.map rowC)
end
section
open Go.RowKit
theorem ret_strL {a b : List UInt8} (h : a = b) : (Ending.returned (.string ⟨a.toArray⟩) : Ending) = .returned (.string ⟨b.toArray⟩):=by rw [h]
theorem id_string {w : World} {q o c : Nat} {d : Id32} (h : rowAt w q o 32 = some (idC d)) : (convert 37 9 (.slice (some ⟨q,o,none⟩) 32 c)).run Tryz.prog w = .ok (.string ⟨d.l.toArray⟩) w:=by
  have:=run_convert_bytes_back (P:=Tryz.prog) w 37 9 5 ⟨q,o,none⟩ c d.l Tryz.underlying37 Tryz.underlying5 Tryz.underlying9 (fun j hj=>by
    have hadd : (⟨q,o,none⟩ : Addr).add j = ⟨q,o + j,none⟩:=by unfold Addr.add;split <;> simp_all
    have hd:=d.h;rw [hadd,rowAt_cell h (by omega)];simp [idC,byteC,hj])
  rwa [d.h] at this
end
section
open Go.RowKit
def rowLB (p : LRow) : List UInt8:=beL 1 p.1.size ++ (p.1.data.toList ++ (beL 1 p.2.val.size ++ (p.2.val.data.toList ++ (beL 4 p.2.n.toNat ++ p.2.id.l))))
def putLB (L : List LRow) : List UInt8:=beL 4 L.length ++ L.flatMap rowLB
theorem rowB_length {p : LRow} (h : checkE p.1 p.2 = 0) : (rowLB p).length ≤ 70:=by
  have:=checkE_bd h;have h1 : p.1.data.toList.length = p.1.size:=Array.length_toList;have h2 : p.2.val.data.toList.length = p.2.val.size:=Array.length_toList;have h3:=p.2.id.h;simp only [rowLB,List.length_append,beL_length,h1,h2,h3];omega
theorem rows_length : ∀ (L : List LRow),(∀ p ∈ L,checkE p.1 p.2 = 0) → (L.flatMap rowLB).length ≤ 70 * L.length
  | [],_=>by simp
  | p :: L,h=>by
    have h1:=rowB_length (h p (by simp));have h2:=rows_length L (fun q hq=>h q (by simp [hq]));simp only [List.flatMap_cons,List.length_append,List.length_cons];omega
theorem LastAt.len {w : World} {g b : Nat} {L : List LRow} (h : LastAt w g b L) (ty : TypeId) : (Builtin.len_ #[175] ty #[.map (some b)]).run Tryz.prog w = .ok (.int .i64 L.length) w:=by
  obtain ⟨M,es,clk,hm,hp⟩:=h.map;rw [← hp.length_eq];exact hm.len Tryz.underlying175 rfl
set_option maxRecDepth 100000 in
set_option maxHeartbeats 4000000 in
theorem lput (w : World) (g b : Nat) (L : List LRow) (h : LastAt w g b L) (hn : L.length ≤ 1000000) :
    Calls Tryz.prog 342 #[.pointer (some ⟨g,0,none⟩)] w fun e w'=>e = .returned (.string ⟨(putLB L).toArray⟩) ∧ Below w.heap.size w w':=by
  have hc:=h.cell;go_enter Tryz.func342,Tryz.ntmps342
  (go_wp2_with fail);refine (lnone_live _ _ _ hc).mono ?_;rintro e w' ⟨rfl,rfl⟩;go_upto_region 3 with fail
  have hlen : ∀ (x : Subtype (Bel w)) (ty : TypeId),(Builtin.len_ #[175] ty #[.map (some b)]).run Tryz.prog x.1 = .ok (.int .i64 L.length) x.1:=fun x ty=>(h.below x.2).len ty;refine wp_region_lex (Bel w) false (by kernel_rfl) (by kernel_rfl) (by kernel_rfl) (bel_drew w) ?_;have hne:=bel_some w;have hS:=bel_drew w;have b1:=sub_cell hc;refine wpLx_chain ?_ ?_ ?_;(focus (exact hS));(focus (simp only [chainOp];done));intro K hK;go_simp;refine (wnew _).mono ?_;rintro e w1 ⟨rfl,hw1,hb1⟩;replace hS:=bel_next hS hb1;have hg1 : w.drew.heap.size = w.heap.size:=rfl;rw [hg1] at hw1 ⊢;clear hb1;refine ⟨_,rfl,hS,hK _ _ ?_⟩;clear hK K;repeat (refine wpLx_loose ?_ ?_;(focus (simp only [chainOp];done));intro K hK;go_simp;refine hK _ ?_;clear hK K)
  refine wpLx_chain ?_ ?_ ?_;(focus (exact hS));(focus (simp only [chainOp];done));intro K hK;go_simp;refine (wnum _ _ _ _ _ _ hw1 L.length 4 (by omega) (by omega) (by simp)).mono ?_;rintro e w2 ⟨rfl,A2,cap2,hw2,hk2,hsub2⟩;have hS2 : Below w.heap.size w w2:=hS.trans (hk2.below hS.size (by simp [blk]));refine ⟨_,rfl,hS2,hK _ _ ?_⟩;clear hK K hS;repeat (refine wpLx_loose ?_ ?_;(focus (simp only [chainOp];done));intro K hK;go_simp;refine hK _ ?_;clear hK K)
  refine wpLx_nil ?_;intro hS;simp only [List.nil_append] at hw2;have hB : w.heap.size + 1 ≤ w2.heap.size:=hw2.base;have h2:=h.below hS2;have hc2:=h2.cell;clear hw1 hk2 hsub2 hne b1 hlen hc hS;(go_wp2_with fail);refine (lkeys _ _ _ _ h2 hn).mono ?_;rintro e w3 ⟨v,rfl,hrow,hb3⟩;obtain ⟨KA,kc,rfl,hkeys⟩:=row_keys hrow rfl;have h3:=h2.below hb3;have hw3:=hw2.below hb3;have hS3:=bel2 hS2 hb3;have Hk:=Lib.hid hkeys;have Hb3:=Lib.hid hb3;have hq3 : w.heap.size < w3.heap.size:=by have:=hb3.size;omega
  clear hkeys hrow hc2 h2 hb3 hS2;(go_wp2_with fail);go_loopw [24] (fun i wr=>∃ k : Nat,k ≤ L.length ∧ i = .int .i64 (k : Nat) ∧ WStep w3 (w.heap.size + 1) w.heap.size A2 (beL 4 L.length ++ (L.take k).flatMap rowLB) wr) (fun i _=>L.length - (intOf i).toNat)
  case atStart=>exact ⟨0,Nat.zero_le _,rfl,A2,cap2,by simpa using hw3,Keep.refl _ _,fun x hx=>.inl hx⟩
  case round =>
    obtain ⟨k,hk,rfl,A4,cap4,hw4,hk4,hsub4⟩:=hrel;have hgS : g ∉ w.heap.size :: blk A2:=by
      simp only [List.mem_cons,not_or];exact ⟨by have:=h.lt.1;omega,fun hx=>by have:=(hw2.own.at_base hx).1;have:=h.lt.1;omega⟩
    have hbS : b ∉ w.heap.size :: blk A2:=by
      simp only [List.mem_cons,not_or];exact ⟨by have:=h.lt.2;omega,fun hx=>by have:=(hw2.own.at_base hx).1;have:=h.lt.2;omega⟩
    have h4:=h3.kept hk4 hgS hbS;have hc4:=h4.cell;have hbl:=rows_length (L.take k) (fun p hp=>h.rows.2 p (List.mem_of_mem_take hp));have htl : (L.take k).length = k:=by simp;omega
    rw [htl] at hbl;by_cases hlt : k < L.length
    · obtain ⟨q,rfl,hq2,hqw,hkeys⟩ : ∃ q,KA = some ⟨q,0,none⟩ ∧ w2.heap.size ≤ q ∧ q < w3.heap.size ∧ Hid (∀ i (hi : i < L.length),w3.cell? ⟨q,i,none⟩ = some (.string (L[i]).1)):=by
        rcases Hk.out with ⟨_,h0⟩ | h
        · omega
        · exact h
      have hqS : q ∉ w.heap.size :: blk A2:=by
        simp only [List.mem_cons,not_or];exact ⟨by omega,fun hx=>by have:=(hw2.own.at_base hx).2;omega⟩
      have hcell:=(hk4.cell (p:=⟨q,k,none⟩) hqw hqS).trans (hkeys.out k hlt);have hl:=h4.look1 (List.getElem_mem hlt);have hcheck:=h.rows.2 _ (List.getElem_mem hlt);have htk : (L.take (k + 1)).flatMap rowLB = (L.take k).flatMap rowLB ++ rowLB L[k]:=by rw [List.take_add_one,List.getElem?_eq_getElem hlt,List.flatMap_append];simp only [Option.toList_some,List.flatMap_cons,List.flatMap_nil,List.append_nil]
      have Htk:=Lib.hid htk;clear htk hkeys Hk;obtain ⟨⟨pk,pv,pn,pid⟩,hp⟩ : ∃ p,L[k] = p:=⟨_,rfl⟩
      have Hp:=Lib.hid hp;rw [hp] at hcell hl Htk hcheck;obtain ⟨ck,cv,cn0,cn1⟩:=checkE_bd hcheck;simp only at ck cv cn0 cn1;obtain ⟨nn,rfl⟩ : ∃ nn : Nat,pn = nn:=⟨pn.toNat,by omega⟩
      clear hp hcheck;have hbl0 : (beL 4 L.length ++ List.flatMap rowLB (List.take k L)).length ≤ 70000004:=by rw [List.length_append,beL_length];omega
      obtain ⟨bs0,hbs0⟩ : ∃ bs0,beL 4 L.length ++ List.flatMap rowLB (List.take k L) = bs0:=⟨_,rfl⟩
      have Hbs0:=Lib.hid hbs0;rw [hbs0] at hw4 hbl0;have e1 : pk.data.toList.length = pk.size:=Array.length_toList;have e2 : pv.data.toList.length = pv.size:=Array.length_toList;have e3 : (⟨pid.l.toArray⟩ : ByteArray).size = 32:=by show pid.l.toArray.size = 32;simp [pid.h]
      have E1:=Lib.hid e1;have E2:=Lib.hid e2;have E3:=Lib.hid e3;clear hbs0 e1 e2 e3;go_upto_region 8 with fail
      have hw5:=hw4.below (w':=wr.alloc (.cells (settingC ⟨pv,nn,pid⟩) 180)) ((Below.refl _ _).alloc (Nat.le_refl _) _);have hbox : rowAt (wr.alloc (.cells (settingC ⟨pv,nn,pid⟩) 180)) wr.heap.size 0 34 = some (settingC ⟨pv,nn,pid⟩):=by simp [go_sem]
      have hk5 : Keep [] wr (wr.alloc (.cells (settingC ⟨pv,nn,pid⟩) 180)):=Keep.alloc _ _;have hbS : wr.heap.size ∉ w.heap.size :: blk A4:=by
        simp only [List.mem_cons,not_or];exact ⟨by have:=hk4.size;omega,fun hx=>by have:=(hw4.own.at_base hx).2;omega⟩
      generalize wr.alloc (.cells (settingC ⟨pv,nn,pid⟩) 180) = W at *;have hx0 : W.cell? ⟨wr.heap.size,0,none⟩ = some (.string pv):=by have:=rowAt_cell hbox (j:=0) (by omega);rwa [settingC_g0] at this
      have hx1 : W.cell? ⟨wr.heap.size,1,none⟩ = some (.int .i64 nn):=by have:=rowAt_cell hbox (j:=1) (by omega);rwa [settingC_g1] at this
      have hx2 : rowAt W wr.heap.size 2 32 = some (idC pid):=by have:=rowAt_sub hbox (j:=2) (m:=32) (by omega);rwa [settingC_e2] at this
      have hconv : ∀ (x : Subtype (Kp (w.heap.size :: blk A4) W)) c,(convert 37 9 (.slice (some ⟨wr.heap.size,2,none⟩) 32 c)).run Tryz.prog x.1 = .ok (.string ⟨pid.l.toArray⟩) x.1:=fun x c=>id_string (ksub_row hx2 hbS x);have hst : WStep W (w.heap.size + 1) w.heap.size A4 bs0 W.drew:=⟨A4,cap4,hw5.kept (Keep.drew W) (by simp) (by simp),(Keep.drew W).mono (by simp),fun x hx=>.inl hx⟩
      refine wp_region_lex (Kp (w.heap.size :: blk A4) W) false (by kernel_rfl) (by kernel_rfl) (by kernel_rfl) (kp_drew (w.heap.size :: blk A4) W) ?_;have hne:=kp_some (w.heap.size :: blk A4) W;have hS:=kp_drew (w.heap.size :: blk A4) W;have b1:=ksub_cell hx0 hbS;have b2:=ksub_cell hx1 hbS;clear hcell hl hc4 hx0 hx1 hx2 hbox;repeat (refine wpLx_loose ?_ ?_;(focus (simp only [chainOp];done));intro K hK;go_simp;refine hK _ ?_;clear hK K)
      refine wpLx_chain ?_ ?_ ?_;(focus (exact hS));(focus (simp only [chainOp];done));intro K hK;go_simp;obtain ⟨Ai,capi,hwi,hki,hsubi⟩:=hst;refine (wnum _ _ _ _ _ _ hwi pk.size 1 (by omega) (by omega) (by omega)).mono ?_;rintro e w' ⟨rfl,hst'⟩;replace hst:=wstep_trans hwi hki hsubi hst';have hS:=hst.choose_spec.choose_spec.2.1;refine ⟨_,rfl,hS,hK _ _ ?_⟩;clear hK K hwi hki hsubi hst';repeat (refine wpLx_loose ?_ ?_;(focus (simp only [chainOp];done));intro K hK;go_simp;refine hK _ ?_;clear hK K)
      refine wpLx_chain ?_ ?_ ?_;(focus (exact hS));(focus (simp only [chainOp];done));intro K hK;go_simp;obtain ⟨Ai,capi,hwi,hki,hsubi⟩:=hst;refine (wraw _ _ _ _ _ _ hwi pk (by simp only [List.length_append,beL_length];omega)).mono ?_;rintro e w' ⟨rfl,hst'⟩;replace hst:=wstep_trans hwi hki hsubi hst';have hS:=hst.choose_spec.choose_spec.2.1;refine ⟨_,rfl,hS,hK _ _ ?_⟩;clear hK K hwi hki hsubi hst';repeat (refine wpLx_loose ?_ ?_;(focus (simp only [chainOp];done));intro K hK;go_simp;refine hK _ ?_;clear hK K)
      refine wpLx_chain ?_ ?_ ?_;(focus (exact hS));(focus (simp only [chainOp];done));intro K hK;go_simp;obtain ⟨Ai,capi,hwi,hki,hsubi⟩:=hst;refine (wnum _ _ _ _ _ _ hwi pv.size 1 (by omega) (by omega) (by simp only [List.length_append,beL_length,E1.out];omega)).mono ?_;rintro e w' ⟨rfl,hst'⟩;replace hst:=wstep_trans hwi hki hsubi hst';have hS:=hst.choose_spec.choose_spec.2.1;refine ⟨_,rfl,hS,hK _ _ ?_⟩;clear hK K hwi hki hsubi hst';repeat (refine wpLx_loose ?_ ?_;(focus (simp only [chainOp];done));intro K hK;go_simp;refine hK _ ?_;clear hK K)
      refine wpLx_chain ?_ ?_ ?_;(focus (exact hS));(focus (simp only [chainOp];done));intro K hK;go_simp;obtain ⟨Ai,capi,hwi,hki,hsubi⟩:=hst;refine (wraw _ _ _ _ _ _ hwi pv (by simp only [List.length_append,beL_length,E1.out];omega)).mono ?_;rintro e w' ⟨rfl,hst'⟩;replace hst:=wstep_trans hwi hki hsubi hst';have hS:=hst.choose_spec.choose_spec.2.1;refine ⟨_,rfl,hS,hK _ _ ?_⟩;clear hK K hwi hki hsubi hst';repeat (refine wpLx_loose ?_ ?_;(focus (simp only [chainOp];done));intro K hK;go_simp;refine hK _ ?_;clear hK K)
      refine wpLx_chain ?_ ?_ ?_;(focus (exact hS));(focus (simp only [chainOp];done));intro K hK;go_simp;obtain ⟨Ai,capi,hwi,hki,hsubi⟩:=hst;refine (wnum _ _ _ _ _ _ hwi nn 4 (by omega) (by omega) (by simp only [List.length_append,beL_length,E1.out,E2.out];omega)).mono ?_;rintro e w' ⟨rfl,hst'⟩;replace hst:=wstep_trans hwi hki hsubi hst';have hS:=hst.choose_spec.choose_spec.2.1;refine ⟨_,rfl,hS,hK _ _ ?_⟩;clear hK K hwi hki hsubi hst';repeat (refine wpLx_loose ?_ ?_;(focus (simp only [chainOp];done));intro K hK;go_simp;refine hK _ ?_;clear hK K)
      refine wpLx_chain ?_ ?_ ?_;(focus (exact hS));(focus (simp only [chainOp];done));intro K hK;go_simp;obtain ⟨Ai,capi,hwi,hki,hsubi⟩:=hst;refine (wraw _ _ _ _ _ _ hwi ⟨pid.l.toArray⟩ (by simp only [List.length_append,beL_length,E1.out,E2.out,E3.out];omega)).mono ?_;rintro e w' ⟨rfl,hst'⟩;replace hst:=wstep_trans hwi hki hsubi hst';have hS:=hst.choose_spec.choose_spec.2.1;refine ⟨_,rfl,hS,hK _ _ ?_⟩;clear hK K hwi hki hsubi hst';repeat (refine wpLx_loose ?_ ?_;(focus (simp only [chainOp];done));intro K hK;go_simp;refine hK _ ?_;clear hK K)
      refine wpLx_nil ?_;intro hS;have heq : bs0 ++ beL 1 pk.size ++ pk.data.toList ++ beL 1 pv.size ++ pv.data.toList ++ beL 4 nn ++ (⟨pid.l.toArray⟩ : ByteArray).data.toList = beL 4 L.length ++ (L.take (k + 1)).flatMap rowLB:=by
        rw [Htk.out,← List.append_assoc,Hbs0.out];simp [rowLB,List.append_assoc]
      rw [heq] at hst;have hst2:=wstep_trans hw4 hk4 hsub4 (wstep_trans hw5 (hk5.mono (S':=w.heap.size :: blk A4) (by simp)) (fun x hx=>.inl hx) hst);have Hst:=Lib.hid hst2;clear hst hst2 heq hconv hne b1 b2;(go_wp2_with fail);go_roundw
      case rel=>exact ⟨k + 1,by omega,by go_num,Hst.out⟩
      case measure=>simp [intOf];omega
    · have hkL : k = L.length:=by omega
      subst hkL;rw [List.take_length] at hw4;(go_wp2_with fail);refine (wdone _ _ _ _ _ _ hw4).mono ?_;rintro e w' ⟨rfl,rfl⟩;(go_wp2_with fail);go_ret;refine ⟨rfl,hS3.trans (hk4.below (by omega) fun x hx=>?_)⟩;rcases List.mem_cons.1 hx with rfl | hx
      · omega
      · have:=(hw2.own.at_base hx).1;omega
end
section
open Go.RowKit
def rowS (x : Row) : Setting:=⟨x.val,x.n,x.id⟩
def gtS (a b : ByteArray) : Bool:=!bltS a b && !(a.toList == b.toList)
def laterB (a b : Row) : Bool:=decide (b.n < a.n) || ((a.n == b.n) && (decide (0 < cmpId a.id b.id) || ((cmpId a.id b.id == 0) && gtS a.val b.val)))
end
section
open Go.RowKit
def insR : List Row → Row → List Row
  | [],x=>[x]
  | y :: l,x=>if cmpS y.key x.key < 0 then y :: insR l x else if y.key = x.key then (if laterB x y then x :: l else y :: l) else x :: y :: l
def latestR (l : List Row) : List Row:=l.foldl insR []
def rowL (x : Row) : LRow:=(x.key,rowS x)
end
section
open Go.RowKit
set_option maxHeartbeats 1000000 in
theorem rhas6 (w : World) (A : Option Addr) (n cap : Nat) (R : List Id32) (d : Id32) (h : TagsIn w A n R) (hn : n ≤ 9223372036854775807) :
    Calls Tryz.prog 36 #[.slice A n cap,.agg (idC d)] w fun e w'=>e = .returned (.bool (decide (d ∈ R))) ∧ Below w.heap.size w w':=by
  have hlen:=h.len;have hB : Below w.heap.size w (w.alloc (.cells (idC d) 39)):=(Below.refl _ _).alloc (Nat.le_refl _) _;have hd0 : rowAt (w.alloc (.cells (idC d) 39)) w.heap.size 0 32 = some (idC d):=by simp [go_sem]
  have Hlen:=Lib.hid hlen;clear hlen;go_enter Tryz.func36,Tryz.ntmps36
  (go_wp2_with fail);generalize w.alloc (.cells (idC d) 39) = W at *;go_loopw [5] (fun i wr=>∃ k : Nat,k ≤ n ∧ i = .int .i64 k ∧ Hid (d ∉ R.take k) ∧ Below W.heap.size W wr) (fun i _=>n - (intOf i).toNat)
  case atStart=>exact ⟨0,Nat.zero_le _,rfl,(show d ∉ R.take 0 by simp),Below.refl _ _⟩
  case round =>
    obtain ⟨k,hk,rfl,hno,hb⟩:=hrel;by_cases hlt : k < n
    · obtain ⟨q,o,rfl,hr⟩:=TagsIn.get (SlR.below (SlR.below h hB) hb) hlt (by rw [Hlen.out];exact hlt);have hdr : rowAt wr w.heap.size 0 32 = some (idC d):=(rowAt_of_block (hb.block _ (rowAt_lt hd0)) _ _).trans hd0;have htk : R.take (k + 1) = R.take k ++ [R[k]'(by rw [Hlen.out];exact hlt)]:=by rw [List.take_add_one,List.getElem?_eq_getElem (by rw [Hlen.out];exact hlt)];rfl
      have hmem : R[k]'(by rw [Hlen.out];exact hlt) ∈ R:=List.getElem_mem _;obtain ⟨x,hx⟩ : ∃ x,R[k]'(by rw [Hlen.out];exact hlt) = x:=⟨_,rfl⟩
      rw [hx] at hr htk hmem;have Htk:=Lib.hid htk;have Hm:=Lib.hid hmem;clear hx htk hmem;go_upto_region 4 with fail
      refine wp_region_lex (Bel wr) false (by kernel_rfl) (by kernel_rfl) (by kernel_rfl) (bel_drew wr) ?_;have hne:=bel_some wr;have hS:=bel_drew wr;have b1:=sub_row hr;have b2:=sub_row hdr;repeat (refine wpLx_loose ?_ ?_;(focus (simp only [chainOp];done));intro K hK;go_simp;refine hK _ ?_;clear hK K)
      refine wpLx_nil ?_;intro hS;clear hne hS b1 b2 hr hdr;go_wp2_with fail
      · have he : (x == d) = true:=by assumption
        have e : x = d:=by simpa using he
        have Hin : Hid (decide (d ∈ R) = true):=decide_eq_true (by rw [← e];exact Hm.out);clear e;go_ret;exact ⟨ret_bool (by rw [Hin.out]),hB.trans (hb.drew.mono hB.size)⟩
      · have he : (x == d) = false:=by assumption
        have e : ¬ x = d:=by simpa using he
        have hno' : Hid (d ∉ R.take (k + 1)):=by
          show _;rw [Htk.out,List.mem_append,List.mem_singleton];rintro (h1 | h1)
          · exact hno.out h1
          · exact e h1.symm
        clear e;go_roundw
        case rel=>exact ⟨k + 1,by omega,by go_num,hno',hb.drew⟩
        case measure=>simp [intOf];omega
    · have hall : d ∉ R:=by
        have:=hno.out
        rwa [List.take_of_length_le (by rw [Hlen.out];omega)] at this
      have Hn : Hid (decide (d ∈ R) = false):=decide_eq_false hall;clear hall;(go_wp2_with fail);go_ret;exact ⟨ret_bool (by rw [Hn.out]),hB.trans (hb.mono hB.size)⟩
end
section
open Go.RowKit
theorem infoRRow : (Tryz.prog.info? 218).map (·.size) = some 33:=by kernel_rfl
@[go_sem ↓] theorem zeroRRow_run (w : World) : (zeroValue 218).run Tryz.prog w = .ok (.agg (bRowC bRow0)) w:=by
  have h : (Tryz.prog.info? 218).bind (·.zero) = some (.agg (bRowC bRow0)):=by kernel_rfl
  cases hi : Tryz.prog.info? 218 with
  | none=>rw [hi] at h;cases h
  | some i =>
    rw [hi] at h;have hz : i.zero = some (.agg (bRowC bRow0)):=h;simp [zeroValue,typeInfo,hi,hz]
@[go_sem ↓] theorem loadRRow_rw (a : Addr) : loadVar 218 a = ldS 218 a:=rfl
@[go_sem ↓] theorem storeRRow_rw (a : Addr) (v : Value) : storeVar 218 a v = stS 218 a v:=rfl
theorem fieldsRRow : Tryz.prog.underlying 218 = some (.struct (Tryz.prog.fieldsOf 218)):=by kernel_rfl
theorem placesRRow (w : World) : ((Tryz.prog.fieldsOf 218).mapM fun (f : Field)=>do pure (f.offset,← sizeOf f.type)).run Tryz.prog w = .ok #[(0,32),(32,1)] w:=by kernel_rfl
@[go_sem ↓] theorem buildRRow_rw (parts : Array (Nat × Value)) : Instr.build 218 parts = bdS 218 parts:=rfl
theorem einfoRRow : ElemInfo Tryz.prog 58 218 33 48 :=
  .of (z:=.agg (bRowC bRow0)) Tryz.underlying58 (by kernel_rfl) (by kernel_rfl) (by kernel_rfl) (bRowC_size _) (by omega)
@[go_sem ↓] theorem bsRRow_rw (n : Nat) (parts : Array (Nat × Value)) : Instr.buildSlice 58 n parts = bsS 58 n parts:=rfl
@[go_sem ↓] theorem slRRow_rw (x : Value) (lo hi mx : Option Value) : Instr.sliceAt 58 x lo hi mx = slS 58 x lo hi mx:=rfl
def rowEqB (x y : BRow) : Bool:=(x.tag == y.tag) && (x.val.toList == y.val.toList)
theorem eqRRow_in (x y : BRow) (w : World) : (Op.equalIn 10000 218 (.agg (bRowC x)) (.agg (bRowC y))).run Tryz.prog w = .ok (rowEqB x y) w:=by
  rw [show (10000 : Nat) = 9999 + 1 from rfl,run_equalIn_agg w 9999 218 _ _ fieldsRRow (by kernel_rfl)];unfold rowEqB;have e1:=eqId_in 9997 x.tag y.tag w;have e2:=run_equalIn_string (P:=Tryz.prog) w 9998 9 x.val y.val Tryz.underlying9;simp only [Program.fieldsOf,Tryz.underlying218];simp [Op.eqFields,part,asAgg,isAgg,go_sem,Tryz.underlying9,Tryz.underlying39,e1,e2];cases h1 : (x.tag == y.tag) <;> cases h2 : (x.val.toList == y.val.toList) <;> simp_all
abbrev RowsIn (w : World) (A : Option Addr) (n : Nat) (R : List BRow) : Prop:=SlR w A n 33 (R.map bRowC)
theorem RowsIn.len {w : World} {A : Option Addr} {n : Nat} {R : List BRow} (h : RowsIn w A n R) : R.length = n:=by simpa using h.1
theorem RowsIn.get {w : World} {A : Option Addr} {n : Nat} {R : List BRow} (h : RowsIn w A n R) {i : Nat} (hi : i < n) (hR : i < R.length) :
    ∃ g o,A = some ⟨g,o,none⟩ ∧ rowAt w g (o + i * 33) 33 = some (bRowC R[i]) ∧ rowAt w g (o + i * 33) 32 = some (idC (R[i]).tag) ∧ w.cell? ⟨g,o + i * 33 + 32,none⟩ = some (.string (R[i]).val):=by
  obtain ⟨g,o,e,hr⟩:=h.at_ hi;rw [List.getElem_map] at hr;refine ⟨g,o,e,hr,?_,?_⟩
  · have:=rowAt_sub hr (j:=0) (m:=32) (by omega)
    rwa [bRowC_e0] at this
  · have:=rowAt_cell hr (j:=32) (by omega)
    rwa [bRowC_g32] at this
end
section
open Go.RowKit
abbrev OwnR (w : World) (B : Nat) (A : Option Addr) (cap : Nat) (R : List BRow) : Prop:=Own w B 218 33 A R.length cap (R.map bRowC)
end
section
open Go.RowKit
def RefAt (w : World) (g : Nat) (X G : List BRow) : Prop :=
  ∃ A n cap A' n' cap',w.heap[g]? = some (.cells #[.slice A n cap,.slice A' n' cap'] 60 (0,0)) ∧ RowsIn w A n X ∧ RowsIn w A' n' G ∧ (A = none → cap = 0) ∧ (A' = none → cap' = 0) ∧ (∀ x ∈ blk A,g < x) ∧ (∀ x ∈ blk A',g < x)
section
variable {w w' : World} {g : Nat} {X G : List BRow}
end
def RefIn (w : World) (g : Nat) (X G : List BRow) : Prop :=
  ∃ A n cap A' n' cap',w.heap[g]? = some (.cells #[.slice A n cap,.slice A' n' cap'] 60 (0,0)) ∧ RowsIn w A n X ∧ RowsIn w A' n' G
end
section
open Go.RowKit
def liveR (X G : List BRow) : List BRow:=(sortC cmpRow X).filter fun x=>decide (x ∉ G)
def pairW (s : ByteArray) : Array Value:=pairC (pairV s)
end
section
open Go.RowKit
structure RV where
  tal : Int
  adds : List BRow
  gone : List BRow
  last : List Row
  mL : List MRow
  mO : List Id32
  sL : List NodeV
  sG : List Id32
def rv0 : RV:=⟨0,[],[],[],[],[],[],[]⟩
def rowOfR (m : MarkV) : Row:=⟨(oOf m).key,(oOf m).val,(oOf m).n,m.id⟩
def rdoS (m : MarkV) (x : RV) : RV :=
  if (oOf m).k = 1 then { x with tal:=wrap64 (x.tal + (oOf m).n) }
  else if (oOf m).k = 2 then { x with adds:=x.adds ++ [⟨m.id,(oOf m).val⟩] }
  else if (oOf m).k = 3 then { x with gone:=x.gone ++ (oOf m).refs.map fun t=>⟨t,(oOf m).val⟩ }
  else if (oOf m).k = 4 then { x with last:=x.last ++ [rowOfR m] }
  else if (oOf m).k = 5 then { x with mL:=x.mL ++ [rowOfM m],mO:=sortC cmpId (x.mO ++ (oOf m).refs) }
  else if (oOf m).k = 6 then { x with sL:=insN x.sL (nodeOf m) }
  else { x with sG:=insC cmpId x.sG (oOf m).ref }
def rfoldS (t : ByteArray) (m : MarkV) (x : RV) : RV:=if fits t m then rdoS m x else x
def RelS (x : RV) : VSt → Prop
  | .t n=>x.tal = n
  | .b L G=>Ris cmpRow L ∧ Ris cmpRow G ∧ (∀ z,z ∈ G ↔ z ∈ x.gone) ∧ ∀ z,z ∈ L ↔ z ∈ x.adds ∧ z ∉ x.gone
  | .l L=>L = (latestR x.last).map rowL ∧ RowsOk L ∧ ∀ r ∈ x.last,checkE r.key (rowS r) = 0
  | .m X O=>Ris cmpMR X ∧ Ris cmpId O ∧ O = x.mO ∧ ∀ z,z ∈ X ↔ z ∈ x.mL ∧ z.id ∉ O
  | .s N G=>Ris cmpId G ∧ G = x.sG ∧ NodesOk x.sL ∧ ∀ z,z ∈ N ↔ z ∈ x.sL
theorem rel_new (k : Int) : RelS rv0 (VSt.new k):=by
  unfold VSt.new;split
  · rfl
  split
  · exact ⟨Ris.nil,Ris.nil,by simp [rv0],by simp [rv0]⟩
  split
  · exact ⟨rfl,⟨trivial,by simp⟩,by simp [rv0]⟩
  split
  · exact ⟨Ris.nil,Ris.nil,rfl,by simp [rv0]⟩
  · exact ⟨Ris.nil,rfl,NodesOk.nil,by simp [rv0]⟩
end
section
open Go.RowKit
structure RNode where
  id : Id32
  h : Int
  ref : Id32
  val : ByteArray
def rNodeC (x : RNode) : Array Value:=idC x.id ++ #[.int .i64 x.h] ++ idC x.ref ++ #[.string x.val]
@[simp] theorem rNodeC_size (x : RNode) : (rNodeC x).size = 66:=by simp [rNodeC]
@[go_sem] theorem rNodeC_g32 (x : RNode) : (rNodeC x)[32]? = some (.int .i64 x.h):=by first | (simp [rNodeC,Array.getElem?_append];done) | (rw [show rNodeC x = (idC x.id) ++ #[.int .i64 x.h] ++ (idC x.ref ++ #[.string x.val]) from by apply Array.ext';simp [rNodeC]];exact arr_at _ _ _ _ (by simp))
@[go_sem] theorem rNodeC_g65 (x : RNode) : (rNodeC x)[65]? = some (.string x.val):=by first | (simp [rNodeC,Array.getElem?_append];done) | (rw [show rNodeC x = (idC x.id ++ #[.int .i64 x.h] ++ idC x.ref) ++ #[.string x.val] ++ ((#[] : Array Value)) from by apply Array.ext';simp [rNodeC]];exact arr_at _ _ _ _ (by simp))
theorem rNodeC_one (x : RNode) : ∀ u ∈ (rNodeC x).toList,u.oneCell' = true:=by
  intro u hu;simp only [rNodeC,Array.toList_append,List.mem_append] at hu;rcases hu with ((hu | hu) | hu) | hu
  · exact idC_one _ u hu
  · simp at hu;subst hu;rfl
  · exact idC_one _ u hu
  · simp at hu;subst hu;rfl
def rNode0 : RNode:=⟨id0,0,id0,⟨#[]⟩⟩
theorem RNode_ext {x y : RNode} (h : x.id = y.id ∧ x.h = y.h ∧ x.ref = y.ref ∧ x.val = y.val) : x = y:=by cases x;cases y;simp_all
instance : DecidableEq RNode:=fun x y=>if h : x.id = y.id ∧ x.h = y.h ∧ x.ref = y.ref ∧ x.val = y.val then isTrue (RNode_ext h) else isFalse (fun e=>h (by subst e;simp))
theorem infoRNode : (Tryz.prog.info? 213).map (·.size) = some 66:=by kernel_rfl
@[go_sem ↓] theorem zeroRNode_run (w : World) : (zeroValue 213).run Tryz.prog w = .ok (.agg (rNodeC rNode0)) w:=by
  have h : (Tryz.prog.info? 213).bind (·.zero) = some (.agg (rNodeC rNode0)):=by kernel_rfl
  cases hi : Tryz.prog.info? 213 with
  | none=>rw [hi] at h;cases h
  | some i =>
    rw [hi] at h;have hz : i.zero = some (.agg (rNodeC rNode0)):=h;simp [zeroValue,typeInfo,hi,hz]
@[go_sem ↓] theorem loadRNode_rw (a : Addr) : loadVar 213 a = ldS 213 a:=rfl
@[go_sem ↓] theorem storeRNode_rw (a : Addr) (v : Value) : storeVar 213 a v = stS 213 a v:=rfl
theorem fieldsRNode : Tryz.prog.underlying 213 = some (.struct (Tryz.prog.fieldsOf 213)):=by kernel_rfl
theorem placesRNode (w : World) : ((Tryz.prog.fieldsOf 213).mapM fun (f : Field)=>do pure (f.offset,← sizeOf f.type)).run Tryz.prog w = .ok #[(0,32),(32,1),(33,32),(65,1)] w:=by kernel_rfl
@[go_sem ↓] theorem buildRNode_rw (parts : Array (Nat × Value)) : Instr.build 213 parts = bdS 213 parts:=rfl
def nodeR (n : NodeV) : RNode:=⟨n.id,n.h,n.ref,n.val⟩
abbrev nodeC (n : NodeV) : Array Value:=rNodeC (nodeR n)
instance : Inhabited NodeV:=⟨⟨id0,0,id0,⟨#[]⟩⟩⟩
theorem einfoRN : ElemInfo Tryz.prog 65 213 66 88 :=
  .of (z:=.agg (rNodeC rNode0)) Tryz.underlying65 (by kernel_rfl) (by kernel_rfl) (by kernel_rfl) (rNodeC_size _) (by omega)
@[go_sem ↓] theorem bsRN_rw (n : Nat) (parts : Array (Nat × Value)) : Instr.buildSlice 65 n parts = bsS 65 n parts:=rfl
@[go_sem ↓] theorem slRN_rw (x : Value) (lo hi mx : Option Value) : Instr.sliceAt 65 x lo hi mx = slS 65 x lo hi mx:=rfl
abbrev NodesIn (w : World) (A : Option Addr) (n : Nat) (R : List NodeV) : Prop:=SlR w A n 66 (R.map nodeC)
end
section
open Go.RowKit
theorem flatMap_len {α β : Type} (f : α → List β) (k : Nat) : ∀ l : List α,(∀ a ∈ l,(f a).length ≤ k) → (l.flatMap f).length ≤ l.length * k
  | [],_=>by simp
  | a :: l,h=>by
    have h1:=h a (by simp);have h2:=flatMap_len f k l (fun b hb=>h b (by simp [hb]));simp only [List.flatMap_cons,List.length_append,List.length_cons,Nat.add_mul];omega
end
end Go.Proofs.YtgfpjjppeldhbaaGreatDoor
