/- Part 7 of the texts that lead to this claim: the walks of the functions and the plain law, in order. -/
import Derived.Test.YtgfpjjppeldhbaaGreatDoorMp6
import Derived.Laws.StructEq
namespace Go.Proofs.YtgfpjjppeldhbaaGreatDoor
section
open Go.RowKit Go.Sort Go.Shelf
instance : Inhabited j3:=⟨fY⟩
@[go_sem ↓] theorem eqPair_run (x y : j3) (w : World) : (Op.equalIn 10000 98 (.agg (zV x)) (.agg (zV y))).run Tryz.prog w = .ok (bI x y) w:=sF x y w
def xK (x y : j3) : Int:=orL [xS x.key y.key,xS x.val y.val]
theorem vT : j0 xK:=(l9.pair l9).of (fun x : j3=>(x.key,x.val)) (fun x y h=>by
  cases x;cases y
  simp only [Prod.mk.injEq] at h;obtain ⟨h1,h2⟩:=h;subst h1;subst h2;rfl) (fun x y=>orL2 _ _)
theorem Own.hi_at {P : Program} {T E : TypeId} {k bytes : Nat} (I : xF P T E k bytes) {w : World} {B g n cap : Nat} {L : List (Array Value)} (h : Own w B E k (some ⟨g,0,none⟩) n cap L) {m : Nat} (hm : m < n) (w0 : World) :
    (slS T (.slice (some ⟨g,0,none⟩) n cap) (some (.int .i64 m)) none none).run P w0 = .ok (.slice (some ⟨g,m * k,none⟩) (n - m) (cap - m)) w0:=by
  have hA:=h.cap_le;rw [dH I];unfold Instr.slice Instr.sliceBounds;simp only [Sem.run_bind,run_underlying I.und,Result.andThen_ok,Sem.run_pure,kL w0 m n (Nat.le_of_lt hm),I.sizeOf_run w0,Option.isSome_none,Bool.false_eq_true,if_false];rw [if_neg (by omega)];congr 2
  show some ((⟨g,0,none⟩ : Addr).add (m * k)) = _;unfold Addr.add;split <;> simp_all
theorem Own.get {α : Type} [Inhabited α] {enc : α → Array Value} {w : World} {B g n cap k : Nat} {E : TypeId} {d : Array α} (h : Own w B E k (some ⟨g,0,none⟩) n cap (d.toList.map enc)) {j : Nat} (hj : j < n) : zF w g (j * k) k = some (enc d[j]!):=by
  have hl : d.size = n:=by simpa using h.len
  obtain ⟨q,o,e,hr⟩:=h.slr.at_ hj;injection e with e;injection e with e1 e2
  subst e1;subst e2;rw [Nat.zero_add] at hr;rw [hr,List.getElem_map,getElem!_pos d j (by omega)]
  simp
set_option maxRecDepth 100000 in
set_option maxHeartbeats 4000000 in
theorem r8 (w : World) (B g n cap : Nat) (R : List j3) (hown : Own w B 98 2 (some ⟨g,0,none⟩) n cap (R.map zV)) (hn : n ≤ 1000000) (hs : R.Pairwise (fun x y=>¬ xK y x < 0)) :
    Calls Tryz.prog 131 #[.slice (some ⟨g,0,none⟩) n cap] w fun e w'=>e = .returned (.slice (some ⟨g,0,none⟩) (yA xK R).length cap) ∧ Own w' B 98 2 (some ⟨g,0,none⟩) (yA xK R).length cap ((yA xK R).map zV) ∧ zC [g] w w':=by
  have hlen : R.length = n:=by simpa using hown.len
  rw [← uD vT R hs];obtain ⟨d,hd⟩ : ∃ d,R.toArray = d:=⟨_,rfl⟩
  have hRd : R = d.toList:=by rw [← hd]
  have hdn : d.size = n:=by rw [← hd];simpa using hlen
  have hcd : Lib.compact R = Lib.compactUpTo d n:=by unfold Lib.compact;rw [hd,hlen]
  rw [hcd];rw [hRd] at hown;have hfin : (∀ j,j < n → Lib.keeps d j = true) → Lib.compactUpTo d n = d.toList:=fun h=>by
    rw [Lib.compactUpTo_all d n h,← hdn];exact Lib.range_map_get d
  have Hdn:=Lib.hid hdn;clear hd hRd hcd hs hlen hdn;have hgl : g < w.heap.size:=(hown.at_base (x:=g) (by simp [blk])).2;go_enter Tryz.func131,Tryz.ntmps131
  by_cases h2 : n < 2
  · have he:=hfin (fun j hj=>by
      have : j = 0:=by
        by_cases h1 : j = 0
        · exact h1
        · have hj1 : j = 1:=by omega
          omega
      subst this;simp [Lib.keeps])
    have He:=Lib.hid he;clear he hfin;(go_wp2_with fail);go_ret;rw [He.out];have hl : d.toList.length = n:=by rw [Array.length_toList];exact Hdn.out
    exact ⟨by rw [hl];rfl,by rw [hl];exact hown,zC.refl _ _⟩
  · (go_wp2_with fail);go_loopw [3] (fun i wr=>∃ k : Nat,1 ≤ k ∧ k ≤ n ∧ i = .int .i64 k ∧ Hid (∀ j,j < k → Lib.keeps d j = true) ∧ Below w.heap.size w wr) (fun i _=>n - (intOf i).toNat)
    case atStart=>exact ⟨1,Nat.le_refl _,by omega,rfl,(show ∀ j,j < 1 → _ from Lib.keeps_lt_one d),Below.refl _ _⟩
    case round =>
      obtain ⟨k,hk1,hk,rfl,hall,hb⟩:=hrel;have hownr:=hown.below hb;by_cases hlt : k < n
      · have hr1:=hownr.get hlt;have hr2:=hownr.get (j:=k - 1) (by omega);obtain ⟨x,hx⟩ : ∃ x,d[k]! = x:=⟨_,rfl⟩
        obtain ⟨y,hy⟩ : ∃ y,d[k - 1]! = y:=⟨_,rfl⟩
        rw [hx] at hr1;rw [hy] at hr2;obtain ⟨k1,hkk⟩ : ∃ k1,k - 1 = k1:=⟨_,rfl⟩
        have hk1' : ((k : Int) - 1) = (k1 : Int):=by omega
        have hk1n : k1 < n:=by omega
        have hwr : IntKind.i64.wrap (k1 : Int) = (k1 : Int):=IntWalk.i64_in _ (by omega);rw [hkk] at hr2;obtain ⟨eb,heb⟩ : ∃ eb,bI x y = eb:=⟨_,rfl⟩
        have Heb:=Lib.hid heb;have Hx:=Lib.hid hx;have Hy:=Lib.hid hy;have Hkk:=Lib.hid hkk;clear hx hy hkk;go_upto_region 6 with fail
        refine zE (Bel wr) false (by kernel_rfl) (by kernel_rfl) (by kernel_rfl) (zG wr) ?_;have hne:=zX wr;have hS:=zG wr;have b1:=yD hr1;have b2:=yD hr2;repeat (refine zB ?_ ?_;(focus (simp only [zA];done));intro K hK;go_simp;refine hK _ ?_;clear hK K)
        refine zN ?_;intro hS;have hb' : Below w.heap.size w wr.drew:=hb.drew;have hown' : Own wr.drew B 98 2 (some ⟨g,0,none⟩) n cap (d.toList.map zV):=hownr.kept (zC.drew wr) (by simp);clear hne hS b1 b2 hr1 hr2 heb hb hownr;obtain ⟨W,hW⟩ : ∃ W,wr.drew = W:=⟨_,rfl⟩
        rw [hW] at hb' hown' ⊢;clear hW;cases eb with
        | false =>
          have hne : d[k]! ≠ d[k - 1]!:=by
            rw [Hx.out,Hy.out];intro e;have:=(kG x y).2 e;rw [Heb.out] at this;cases this
          have hkp:=Lib.keeps_pos hne;have Hkp:=Lib.hid hkp;clear hne hkp;(go_wp2_with fail);go_roundw
          case rel=>exact ⟨k + 1,by omega,by omega,by go_num,(show ∀ j,j < k + 1 → Lib.keeps d j = true from fun j hj=>by
            by_cases e : j = k
            · rw [e];exact Hkp.out
            · exact hall.out j (by omega)),hb'⟩
          case measure=>simp [intOf];omega
        | true =>
          have heq : d[k]! = d[k - 1]!:=by rw [Hx.out,Hy.out];exact (kG x y).1 Heb.out
          have hinv:=Lib.CompInv.start hall.out (Lib.keeps_neg (by omega) heq);have Hinv:=Lib.hid hinv;have hsl:=fun w0=>hown'.hi_at (P:=Tryz.prog) yL hlt w0;clear heq hinv;(go_wp2_with fail);go_loopw [3,5] (fun kv iv ws=>∃ (k2 kk : Nat) (dk : Array j3),1 ≤ k2 ∧ k2 ≤ n - k ∧ iv = .int .i64 k2 ∧ kv = .int .i64 kk ∧ Hid (Lib.CompInv d (k + k2) kk dk) ∧ Own ws B 98 2 (some ⟨g,0,none⟩) n cap (dk.toList.map zV) ∧ zC [g] w ws ∧ kk < k + k2) (fun _ iv _=>(n - k) - (intOf iv).toNat)
          case atStart=>exact ⟨1,k,d,Nat.le_refl _,by omega,rfl,rfl,Hinv,hown',(zC.of_below hb').mono (by simp),by omega⟩
          case round =>
            obtain ⟨k2,kk,dk,hk21,hk2n,rfl,rfl,hinv,hownk,hkw,hkk2⟩:=hrel;by_cases hlt2 : k2 < n - k
            · have hdk : dk.size = n:=by simpa using hownk.len
              have hr1:=hownk.get (j:=k + k2) (by omega);have hr2:=hownk.get (j:=k + k2 - 1) (by omega);obtain ⟨x2,hx2⟩ : ∃ x2,dk[k + k2]! = x2:=⟨_,rfl⟩
              obtain ⟨y2,hy2⟩ : ∃ y2,dk[k + k2 - 1]! = y2:=⟨_,rfl⟩
              have hdx : d[k + k2]! = x2:=by rw [← hx2];exact (hinv.out.high _ (by omega)).symm
              have hdy : d[k + k2 - 1]! = y2:=by rw [← hy2];exact (hinv.out.high _ (by omega)).symm
              rw [hx2] at hr1;rw [hy2] at hr2;obtain ⟨j1,hj1⟩ : ∃ j1,k2 - 1 = j1:=⟨_,rfl⟩
              have hj1' : ((k2 : Int) - 1) = (j1 : Int):=by omega
              have hj1n : j1 < n - k:=by omega
              have hwr1 : IntKind.i64.wrap (j1 : Int) = (j1 : Int):=IntWalk.i64_in _ (by omega);rw [show k + k2 - 1 = k + j1 by omega,Nat.add_mul] at hr2;rw [Nat.add_mul] at hr1;obtain ⟨nb,hnb⟩ : ∃ nb,bI x2 y2 = nb:=⟨_,rfl⟩
              have Hnb:=Lib.hid hnb;have Hdx:=Lib.hid hdx;have Hdy:=Lib.hid hdy;have Hj1:=Lib.hid hj1;have Hdk:=Lib.hid hdk;clear hx2 hy2 hj1 hdx hdy hdk;go_upto_region 11 with fail
              refine zE (Bel wr) false (by kernel_rfl) (by kernel_rfl) (by kernel_rfl) (zG wr) ?_;have hne:=zX wr;have hS:=zG wr;have b1:=yD hr1;have b2:=yD hr2;repeat (refine zB ?_ ?_;(focus (simp only [zA];done));intro K hK;go_simp;refine hK _ ?_;clear hK K)
              refine zN ?_;intro hS;have hkw' : zC [g] w wr.drew:=zC.trans hkw (zC.drew wr) (by simp);have hownk' : Own wr.drew B 98 2 (some ⟨g,0,none⟩) n cap (dk.toList.map zV):=hownk.kept (zC.drew wr) (by simp);have hr1' : zF wr.drew g (k * 2 + k2 * 2) 2 = some (zV x2):=hr1;clear hne hS b1 b2 hr1 hr2 hnb hkw hownk;obtain ⟨W2,hW2⟩ : ∃ W2,wr.drew = W2:=⟨_,rfl⟩
              rw [hW2] at hkw' hownk' hr1' ⊢;clear hW2;cases nb with
              | true =>
                have heq : d[k + k2]! = d[k + k2 - 1]!:=by rw [Hdx.out,Hdy.out];exact (kG x2 y2).1 Hnb.out
                have hsk:=hinv.out.skip (Lib.keeps_neg (by omega) heq);have Hsk:=Lib.hid hsk;clear heq hsk;(go_wp2_with fail);go_roundw
                case rel=>exact ⟨k2 + 1,kk,dk,by omega,by omega,by go_num,rfl,(show Lib.CompInv d (k + (k2 + 1)) kk dk from Hsk.out),hownk',hkw',by omega⟩
                case measure=>simp [intOf];omega
              | false =>
                have hneq : d[k + k2]! ≠ d[k + k2 - 1]!:=by
                  rw [Hdx.out,Hdy.out];intro e;have:=(kG x2 y2).2 e;rw [Hnb.out] at this;cases this
                have hkp:=hinv.out.keep (by rw [Hdn.out];omega) (Lib.keeps_pos hneq);rw [Hdx.out] at hkp;have Hkp:=Lib.hid hkp;clear hneq hkp;obtain ⟨w7,hst,hown7,hk7⟩:=rN yL hownk' (i:=kk) (by omega) (cs:=zV x2) (by simp) (xU x2);have hl7 : (dk.toList.map zV).set kk (zV x2) = (dk.setIfInBounds kk x2).toList.map zV:=by
                  rw [Array.toList_setIfInBounds,List.map_set]
                rw [hl7] at hown7;have hkw7:=zC.trans hkw' hk7 (fun x hx=>.inl hx);have hkn : kk < n:=by omega
                clear hl7 hk7 hownk';(go_wp2_with fail);go_roundw
                case rel=>exact ⟨k2 + 1,kk + 1,_,by omega,by omega,by go_num,by go_num,(show Lib.CompInv d (k + (k2 + 1)) (kk + 1) _ from Hkp.out),hown7,hkw7,by omega⟩
                case measure=>simp [intOf];omega
            · have hm : k + k2 = n:=by omega
              have hinv':=hinv.out;rw [hm] at hinv';have hkn : kk < n:=by have:=hinv'.lt;omega
              have hdk : dk.size = n:=by simpa using hownk.len
              have hcu : dk.toList.take kk = Lib.compactUpTo d n:=by
                apply List.ext_getElem?;intro j;by_cases hj : j < kk
                · rw [hinv'.low j hj,List.getElem?_take,if_pos hj,Array.getElem?_toList,getElem!_pos dk j (by omega),Array.getElem?_eq_getElem (by omega)]
                · rw [List.getElem?_eq_none (by simp;omega),List.getElem?_eq_none (by rw [hinv'.len];omega)]
              obtain ⟨A2,c2,hsl2,w8,hclr,hown8,hk8⟩:=XZ yL (z:=.agg (zV fY)) (by kernel_rfl) (xU fY) hownk (m:=kk) (by omega) 0;rw [← List.map_take,hcu] at hown8;have hlk : (Lib.compactUpTo d n).length = kk:=hinv'.len;have hlo:=fun w0=>SlW.lo (P:=Tryz.prog) yL hownk.slw (m:=kk) (by omega) w0;have hkf:=zC.trans hkw hk8 (fun x hx=>.inl hx);have Hlk:=Lib.hid hlk;have Hown8:=Lib.hid hown8;clear hcu hinv' hlk hown8 hdk hm hk8 hownk;(go_wp2_with fail);go_ret;exact ⟨by rw [Hlk.out];rfl,by rw [Hlk.out];exact Hown8.out,hkf⟩
      · have he:=hfin (fun j hj=>hall.out j (by omega));have He:=Lib.hid he;clear he hfin;(go_wp2_with fail);go_ret;rw [He.out];have hl : d.toList.length = n:=by rw [Array.length_toList];exact Hdn.out
        exact ⟨by rw [hl];rfl,by rw [hl];exact hownr,(zC.of_below hb).mono (by simp)⟩
end
section
open Go.RowKit Go.Sort Go.Shelf
def wF (S : List j3) : List j3:=S.mergeSort fun x y=>!(ltOf xK y x)
theorem VR (S : List j3) : (wF S).Pairwise (fun x y=>¬ xK y x < 0):=by
  have htot : ∀ a b : j3,((!ltOf xK b a) || !ltOf xK a b) = true:=fun a b=>by
    unfold ltOf;by_cases h1 : xK b a < 0
    · have:=vT.asym h1;simp [this]
    · simp [h1]
  have htr : ∀ a b d : j3,(!ltOf xK b a) = true → (!ltOf xK d b) = true → (!ltOf xK d a) = true:=fun a b d h1 h2=>by
    unfold ltOf at *;simp only [Bool.not_eq_true',decide_eq_false_iff_not] at h1 h2 ⊢;intro h3;exact h2 (vT.le_trans (a:=d) (b:=a) (d:=b) (vT.asym h3) (by
      by_cases e : a = b
      · subst e;exact absurd h3 h2
      · exact vT.flip h1 (fun e'=>e e'.symm)))
  exact List.Pairwise.imp (fun {a b} h=>by simpa [ltOf] using h) (List.pairwise_mergeSort htr htot S)
theorem n9 (S : List j3) : (wF S).Perm S:=List.mergeSort_perm _ _
theorem QF (w : World) : (isAgg 98).run Tryz.prog w = .ok true w:=by simp [isAgg,run_underlying Tryz.underlying98]
theorem ZE (w : World) : (Go.sizeOf 98).run Tryz.prog w = .ok 2 w:=by
  have h:=nO;cases hi : Tryz.prog.info? 98 with
  | none=>rw [hi] at h;cases h
  | some i =>
    rw [hi] at h;have hk : i.size = 2:=by simpa using h
    simp [Go.sizeOf,typeInfo,hi,hk]
set_option maxHeartbeats 1000000 in
theorem mpcmp (x y : j3) (w : World) : Calls Tryz.prog 129 #[.agg (zV x),.agg (zV y)] w fun e w'=>e = .returned (.int .i64 (xK x y)) ∧ Gr w w':=by
  go_enter Tryz.func129,Tryz.ntmps129
  go_upto_region 1 with fail
  obtain ⟨W,hW⟩ : ∃ W,W = (w.alloc (.cells (zV x) 98)).alloc (.cells (zV y) 98):=⟨_,rfl⟩
  have hB : Gr w W:=by rw [hW];exact ((Gr.refl _).alloc _).alloc _
  have a3 : W.cell? ⟨w.heap.size,0,none⟩ = some (.string x.key):=by rw [hW];simp [go_sem]
  have a4 : W.cell? ⟨w.heap.size + 1,0,none⟩ = some (.string y.key):=by rw [hW];simp [go_sem]
  have a5 : W.cell? ⟨w.heap.size,1,none⟩ = some (.string x.val):=by rw [hW];simp [go_sem]
  have a6 : W.cell? ⟨w.heap.size + 1,1,none⟩ = some (.string y.val):=by rw [hW];simp [go_sem]
  rw [← hW];clear hW;refine zE (Gr W) false (by kernel_rfl) (by kernel_rfl) (by kernel_rfl) (Gr.drew W) ?_;have hne:=e6 W;have hS:=Gr.drew W;have b3:=vF a3;have b4:=vF a4;have b5:=vF a5;have b6:=vF a6;repeat (refine zB ?_ ?_;(focus (simp only [zA];done));intro K hK;go_simp;refine hK _ ?_;clear hK K)
  refine zH ?_ ?_ ?_;(focus (exact hS));(focus (simp only [zA];done));intro K hK;go_simp;refine (uS _ _ _).mono ?_;rintro e w' ⟨rfl,rfl⟩;refine ⟨_,rfl,hS,hK _ _ ?_⟩;clear hK K;repeat (refine zB ?_ ?_;(focus (simp only [zA];done));intro K hK;go_simp;refine hK _ ?_;clear hK K)
  refine zH ?_ ?_ ?_;(focus (exact hS));(focus (simp only [zA];done));intro K hK;go_simp;refine (uS _ _ _).mono ?_;rintro e w' ⟨rfl,rfl⟩;refine ⟨_,rfl,hS,hK _ _ ?_⟩;clear hK K;refine zH ?_ ?_ ?_;(focus (exact hS));(focus (simp only [zA];done));intro K hK;go_simp;refine zY (Gr.alloc hS _) (fun hS=>?_);refine hK _ _ ?_;clear hK K;refine zH ?_ ?_ ?_;(focus (exact hS));(focus (simp only [zA];done));intro K hK;go_simp;refine (cO W.heap.size 2 [xS x.key y.key,xS x.val y.val] (by simp) (W.alloc (.cells #[.int .i64 (xS x.key y.key),.int .i64 (xS x.val y.val)] 3)).drew (rP W _ _)).mono ?_;rintro e w' ⟨rfl,rfl⟩;refine ⟨_,rfl,hS,hK _ _ ?_⟩;clear hK K;repeat (refine zB ?_ ?_;(focus (simp only [zA];done));intro K hK;go_simp;refine hK _ ?_;clear hK K)
  refine zN ?_;intro hS;(go_wp2_with fail);go_ret;exact ⟨rfl,hB.trans hS⟩
theorem ZB (w : World) (B : Nat) (A : Option Addr) (n cap : Nat) (S : List j3) (hown : Own w B 98 2 A n cap (S.map zV)) (hn : S.length ≤ 1000000) :
    Calls Tryz.prog 128 #[.slice A n cap,.func (.func 129) #[] #[]] w fun e w'=>e = .returned (.tuple #[]) ∧ Own w' B 98 2 A n cap ((wF S).map zV) ∧ zC (blk A) w w':=by
  have hl : S.length = n:=by simpa using hown.len
  rcases hown.addr with rfl | ⟨g,rfl⟩
  · have hn0 : n = 0:=(hown.cap_le.2 rfl).1;subst hn0;have hS : S = []:=List.eq_nil_of_length_eq_zero hl;subst hS;refine (AnyF.slices_SortFunc_none Tryz.laySortPair none cap (.func (.func 129) #[] #[]) w).mono ?_;rintro e w' ⟨rfl,rfl⟩;exact ⟨rfl,by simpa [wF] using hown,zC.refl _ _⟩
  · subst hl;have hH:=own_holds (enc:=zV) (by omega) kH hown;have hcmp : CmpLays Tryz.prog 129 #[] (fun x : j3=>(zV x).toList) 2 xK g 0 S.toArray.size w:=fun m os dk _ x y=>mpcmp x y _;have hgl : g < w.heap.size:=(hown.at_base (x:=g) (by simp [blk])).2;have hcon:=AnyQ.slices_SortFunc_total Tryz.laySortPair 2 QF ZE (fun x : j3=>(zV x).toList) (by simp) (fun x v hv=>xU x v hv) xK (sZ vT) 129 #[] g 0 cap S.toArray w
      (enters_of Tryz.func129 (by kernel_rfl) rfl) hcmp hH hgl (by simp;omega) (fun x y h1 h2=>by
        simp only [ltOf,decide_eq_false_iff_not] at h1 h2;exact Classical.byContradiction fun e=>h2 (vT.flip h1 e))
    have e1 : S.toArray.size = S.length:=by simp
    rw [e1] at hcon;refine hcon.mono ?_;rintro e w' ⟨rfl,n,os,rfl⟩;have e2 : (S.toArray.toList.mergeSort fun x y=>!(ltOf xK y x)) = wF S:=rfl;rw [e2];obtain ⟨h1,h2⟩:=dN (enc:=zV) (by omega) kH hown n (wF S) (n9 S).length_eq os;exact ⟨rfl,h1,h2.mono (by simp [blk])⟩
theorem aN (w : World) (cap : Nat) : Calls Tryz.prog 131 #[.slice none 0 cap] w fun e w'=>e = .returned (.slice none 0 cap) ∧ w = w':=by
  go_enter Tryz.func131,Tryz.ntmps131
  (go_wp2_with fail);go_ret;exact ⟨rfl,rfl⟩
def m6 (x : xT) : j3:=⟨x.key,x.val⟩
def jY (X : List xT) : List j3:=yA xK (X.map m6)
theorem rT (X : List xT) : (jY X).length ≤ X.length:=by have:=yS (c:=xK) (X.map m6);simpa [jY] using this
set_option maxRecDepth 100000 in
set_option maxHeartbeats 1000000 in
theorem mlist (w : World) (g bl bo : Nat) (X : List xT) (O : List zK) (h : q4 w g bl bo X O) (hn : X.length ≤ 1000000) :
    Calls Tryz.prog 60 #[.pointer (some ⟨g,0,none⟩)] w fun e w'=>∃ A cap,e = .returned (.slice A (jY X).length cap) ∧ Own w' w.heap.size 98 2 A (jY X).length cap ((jY X).map zV) ∧ Below w.heap.size w w':=by
  have c1:=YY w g bl bo X O h hn;go_enter Tryz.func60,Tryz.ntmps60
  (go_wp2_with fail);refine c1.mono ?_;rintro e w1 ⟨RA,rc,rfl,hrow,hb⟩;have hsl:=hrow.slr;have haddr:=hrow.addr;clear hrow c1 h;(go_wp2_with fail);go_loopw [3,9] (fun out i wr=>∃ (k : Nat) (A : Option Addr) (cap : Nat),k ≤ X.length ∧ i = .int .i64 k ∧ out = .slice A k cap ∧ Own wr w1.heap.size 98 2 A k cap (((X.take k).map m6).map zV) ∧ Below w1.heap.size w1 wr) (fun _ i _=>X.length - (intOf i).toNat)
  case atStart=>exact ⟨0,none,0,Nat.zero_le _,rfl,rfl,Own.nil _ _ _ _,Below.refl _ _⟩
  case round =>
    obtain ⟨k,A,cap,hk,rfl,rfl,hown,hbr⟩:=hrel;by_cases hlt : k < X.length
    · obtain ⟨q,o,rfl,hr⟩:=(hsl.below hbr).at_ hlt;obtain rfl : o = 0:=by
        rcases haddr with e | ⟨g',e⟩
        · cases e
        · injection e with e;injection e
      rw [Nat.zero_add,List.getElem_map] at hr;have htk : ((X.take (k + 1)).map m6).map zV = ((X.take k).map m6).map zV ++ [zV (m6 (X[k]'hlt))]:=by rw [List.take_add_one,List.getElem?_eq_getElem hlt,Option.toList_some,List.map_append,List.map_append];rfl
      obtain ⟨x,hx⟩ : ∃ x,X[k]'hlt = x:=⟨_,rfl⟩
      rw [hx] at hr htk;have Htk:=Lib.hid htk;clear hx htk;have hszr:=hbr.size;have hby : Below wr.heap.size wr ((wr.alloc (.cells (zQ x) 184)).alloc (.cells (zV ⟨x.key,x.val⟩) 98)):=((Below.refl _ _).alloc (Nat.le_refl _) _).alloc (by simp) _;have hown2:=hown.below hby;have hrow2 : zF ((wr.alloc (.cells (zQ x) 184)).alloc (.cells (zV ⟨x.key,x.val⟩) 98)) (wr.heap.size + 1) 0 2 = some (zV ⟨x.key,x.val⟩):=by simp [go_sem]
      go_wp2_with (at_builtin;refine x8 yL rfl hown2 rfl hrow2 (xU _) (by omega) (by omega) (by simp;omega) ?_;intro A' cap' w2 hownA hkA hsubA)
      have hbA : Below w1.heap.size w1 w2:=hbr.trans ((hby.mono hszr).trans (hkA.below (B:=w1.heap.size) (by simp;omega) fun y hy=>(hown.at_base hy).1));(go_wp2_with fail);go_roundw
      case rel=>exact ⟨k + 1,A',cap',by omega,by go_num,rfl,by rw [Htk.out];exact hownA,hbA⟩
      case measure=>simp [intOf];omega
    · have e : X.take k = X:=List.take_of_length_le (by omega);have hkX : k = X.length:=by omega
      rw [e] at hown;obtain ⟨S,hS⟩ : ∃ S,X.map m6 = S:=⟨_,rfl⟩
      have hSl : S.length = k:=by rw [← hS];simp [hkX]
      have hlist : jY X = yA xK (wF S):=by unfold jY;rw [hS];exact gJ vT fun z=>(n9 S).mem_iff.symm
      rw [hS] at hown;have Hlist:=Lib.hid hlist;have cs:=ZB wr w1.heap.size A k cap S hown (by omega);have HkX:=Lib.hid hkX;have hkn : k ≤ 1000000:=by omega
      clear hS hlist e hkX;(go_wp2_with fail);refine cs.mono ?_;rintro e w2 ⟨rfl,hown2,hk2⟩;have hb2 : Below w1.heap.size w1 w2:=hbr.trans (hk2.below (B:=w1.heap.size) hbr.size fun x hx=>(hown.at_base hx).1);have hb02:=yN hb hb2;have hszb:=hb.size;clear cs hk2 hb2 hbr;rcases hown2.addr with rfl | ⟨q,rfl⟩
      · have hk0 : k = 0:=(hown2.cap_le.2 rfl).1;have hc0 : cap = 0:=(hown2.cap_le.2 rfl).2;have hS0 : S = []:=List.eq_nil_of_length_eq_zero (hSl.trans hk0);subst hS0;have hl0 : jY X = []:=by rw [Hlist.out];simp [wF,yA]
        have Hl0:=Lib.hid hl0;subst hk0;clear hl0 hSl hc0;have cn:=aN w2 cap;(go_wp2_with fail);refine cn.mono ?_;rintro e w3 ⟨rfl,rfl⟩;(go_wp2_with fail);go_ret;exact ⟨none,cap,by rw [Hl0.out];rfl,by rw [Hl0.out];have:=hown2.mono hszb;simpa [wF] using this,hb02⟩
      · have cc:=r8 w2 w1.heap.size q k cap (wF S) hown2 (by omega) (VR S);(go_wp2_with fail);refine cc.mono ?_;rintro e w3 ⟨rfl,hown3,hk3⟩;have hb3:=hb02.trans (hk3.below (B:=w.heap.size) hb02.size (by have:=(hown2.at_base (x:=q) (by simp [blk])).1;simp;omega));rw [← Hlist.out] at hown3 ⊢;have Hown3:=Lib.hid (hown3.mono (B':=w.heap.size) hszb);clear cc hk3 hown2 hown hown3 hb02;(go_wp2_with fail);go_ret;exact ⟨_,cap,rfl,Hown3.out,hb3⟩
end
section
open Go.RowKit
theorem pD (w : World) (g : Nat) (v : Value) (t : TypeId) (h : w.heap[g]? = some (.cells #[v] t (0,0))) : w.cell? ⟨g,0,none⟩ = some v:=by rw [cell_of_row w g 0 _ _ _ h];rfl
theorem QI (w : World) (g j : Nat) (cs : Array Value) (t : TypeId) (h : w.heap[g]? = some (.cells cs t (0,0))) : w.frozen? ⟨g,j,none⟩ = false:=by simp [World.frozen?,h]
structure uI (w0 : World) (gs go gd B : Nat) (g : Nat) (w : World) (P : List zW) (A : Option Addr) (cap : Nat) : Prop where
  bel : Below w0.heap.size w0 w
  hgs : w.heap[gs]? = some (.cells #[.pointer (some ⟨g,0,none⟩)] 106 (0,0))
  hgo : w.heap[go]? = some (.cells #[.slice A P.length cap] 50 (0,0))
  hgd : w.heap[gd]? = some (.cells #[.func (.func 204) #[] #[.pointer (some ⟨gs,0,none⟩),.pointer (some ⟨go,0,none⟩),.pointer (some ⟨gd,0,none⟩)]] 214 (0,0))
  own : Own w B 39 32 A P.length cap ((P.map zW.id).map idC)
  B : B ≤ w.heap.size
set_option maxRecDepth 100000 in
set_option maxHeartbeats 4000000 in
theorem sqdown (w0 : World) (M : List Nat) (g bn bb bg : Nat) (N : List zW) (G : List zK) (h : q5 w0 M g bn bb bg N G) (hN : N.length ≤ 100000) (gs go gd B : Nat) (h1 : w0.heap.size ≤ gs) (h2 : w0.heap.size ≤ go) (h3 : w0.heap.size ≤ gd) (n1 : gs ≠ go) (n2 : gd ≠ go) (b1 : gs < B) (b2 : go < B) (b3 : gd < B) :
    ∀ (k : Nat) (r : zK) (P : List zW) (A : Option Addr) (cap : Nat) (w : World),Deep (xV N) zW.id k r → uI w0 gs go gd B g w P A cap → P.length + (bW (xV N) zW.id k r).length ≤ 1000000 →
    Calls Tryz.prog 204 #[.agg (idC r),.pointer (some ⟨gs,0,none⟩),.pointer (some ⟨go,0,none⟩),.pointer (some ⟨gd,0,none⟩)] w fun e w'=>e = .returned (.tuple #[]) ∧ ∃ A' cap',uI w0 gs go gd B g w' (P ++ bW (xV N) zW.id k r) A' cap':=by
  intro k;induction k with
  | zero=>intro r P A cap w hd;exact hd.elim
  | succ k ih =>
    intro r P A cap w hd hD hlen;obtain ⟨BM,es',clk',hb,hsl,hno⟩:=h.behind;obtain ⟨⟨As,sn,sc⟩,hsw,hsM,hlook⟩:=blook hb hsl hno r;dsimp only at hsw hsM hlook;have hdk : ∀ c ∈ xV N r,Deep (xV N) zW.id k c.id:=hd;have hpre : bW (xV N) zW.id (k + 1) r = (xV N r).flatMap fun c=>c :: bW (xV N) zW.id k c.id:=rfl;have hkl:=gQ N r;obtain ⟨K,hK⟩ : ∃ K,xV N r = K:=⟨_,rfl⟩
    rw [hK] at hsw hdk hpre hkl;rw [hpre] at hlen ⊢;have hlK : K.length = sn:=by have:=hsw.len;simpa using this
    have hsnb : sn ≤ 100000:=by omega
    have HlK:=Lib.hid hlK;have Hdk:=Lib.hid hdk;clear hd hdk hpre hK hlK hkl;obtain ⟨f,hf⟩ : ∃ f : zW → List zW,(fun c=>c :: bW (xV N) zW.id k c.id) = f:=⟨_,rfl⟩
    have hfc : ∀ c,f c = c :: bW (xV N) zW.id k c.id:=fun c=>(by rw [← hf]);rw [hf] at hlen ⊢;have Hfc:=Lib.hid hfc;have Hlen:=Lib.hid hlen;clear hf hfc hlen;have hBw : Below w.heap.size w (w.alloc (.cells (idC r) 39)):=(Below.refl _ _).alloc (Nat.le_refl _) _;have hr0 : zF (w.alloc (.cells (idC r) 39)) w.heap.size 0 32 = some (idC r):=by simp [go_sem]
    have hD1 : uI w0 gs go gd B g (w.alloc (.cells (idC r) 39)) P A cap:=by
      have hB:=hD.B;have hs:=hBw.size;exact ⟨yN hD.bel hBw,(hBw.block gs (by omega)).trans hD.hgs,(hBw.block go (by omega)).trans hD.hgo,(hBw.block gd (by omega)).trans hD.hgd,hD.own.below hBw,by omega⟩
    go_enter Tryz.func204,Tryz.ntmps204
    go_upto_region 1 with fail
    obtain ⟨W,hW⟩ : ∃ W,W = w.alloc (.cells (idC r) 39):=⟨_,rfl⟩
    obtain ⟨ga,hga⟩ : ∃ ga,w.heap.size = ga:=⟨_,rfl⟩
    rw [hga] at hr0 ⊢;rw [← hW] at hD1 hr0 ⊢;clear hW hga hD hBw;have hcs : W.cell? ⟨gs,0,none⟩ = some (.pointer (some ⟨g,0,none⟩)):=by rw [cell_of_row W gs 0 _ _ _ hD1.hgs];rfl
    have hc1 : W.cell? ⟨g,1,none⟩ = some (.map (some bb)):=(hD1.bel.cell (p:=⟨g,1,none⟩) h.ltg).trans h.cell1;have hk : ∀ x : Subtype (Bel W),(Instr.lookup 189 (.map (some bb)) (.agg (idC r)) false).run Tryz.prog x.1 = .ok (.slice As sn sc) x.1:=fun x=>hlook x.1 ((hb.kept (zC.of_below hD1.bel) (by simp)).kept (zC.of_below x.2) (by simp));refine zE (Bel W) false (by kernel_rfl) (by kernel_rfl) (by kernel_rfl) (zG W) ?_;have hne:=zX W;have hS:=zG W;have b1:=zT hcs;have b2:=zT hc1;have b3:=yD hr0;repeat (refine zB ?_ ?_;(focus (simp only [zA];done));intro K hK;go_simp;refine hK _ ?_;clear hK K)
    refine zN ?_;intro hS;have hD2 : uI w0 gs go gd B g W.drew P A cap:=⟨hD1.bel.drew,hD1.hgs,hD1.hgo,hD1.hgd,hD1.own.kept (zC.drew W) (by simp),hD1.B⟩
    clear b1 b2 b3 hne hS hk hcs hc1 hr0 hD1 hlook hb hsl hno;obtain ⟨W1,hW1⟩ : ∃ W1,W.drew = W1:=⟨_,rfl⟩
    rw [hW1] at hD2 ⊢;clear hW1 hS;(go_wp2_with fail);go_loopw [14] (fun iv wr=>∃ (i : Nat) (A' : Option Addr) (cap' : Nat),i ≤ sn ∧ iv = .int .i64 i ∧ uI w0 gs go gd B g wr (P ++ (K.take i).flatMap f) A' cap') (fun iv _=>sn - (intOf iv).toNat)
    case atStart=>exact ⟨0,A,cap,Nat.zero_le _,rfl,by simpa using hD2⟩
    case round =>
      obtain ⟨i,A',cap',hi,rfl,hDr⟩:=hrel;by_cases hlt : i < sn
      · obtain ⟨q,o,rfl,hrO⟩:=(hsw.below hDr.bel).rd.at_ hlt;rw [List.getElem_map,List.getElem_map] at hrO;have hmem : K[i]'(by rw [HlK.out];exact hlt) ∈ K:=List.getElem_mem _;have hspl : K.flatMap f = (K.take i).flatMap f ++ f (K[i]'(by rw [HlK.out];exact hlt)) ++ (K.drop (i + 1)).flatMap f:=by
          rw [List.append_assoc,← List.flatMap_cons,← List.drop_eq_getElem_cons (show i < K.length by rw [HlK.out];exact hlt),← List.flatMap_append,List.take_append_drop]
        have htk : (K.take (i + 1)).flatMap f = (K.take i).flatMap f ++ f (K[i]'(by rw [HlK.out];exact hlt)):=by
          rw [List.take_add_one,List.getElem?_eq_getElem (by rw [HlK.out];exact hlt),Option.toList_some,List.flatMap_append];simp
        obtain ⟨c,hc⟩ : ∃ c,K[i]'(by rw [HlK.out];exact hlt) = c:=⟨_,rfl⟩
        rw [hc] at hrO hmem hspl htk;have hdc:=Hdk.out c hmem;have hl2 : (P ++ (K.take i).flatMap f).length + 1 + (bW (xV N) zW.id k c.id).length ≤ 1000000:=by
          have:=Hlen.out;rw [hspl,Hfc.out c] at this;simp only [List.length_append,List.length_cons] at this ⊢;omega
        obtain ⟨Q,hQ⟩ : ∃ Q,P ++ (K.take i).flatMap f = Q:=⟨_,rfl⟩
        have hQn : P ++ (K.take (i + 1)).flatMap f = Q ++ [c] ++ bW (xV N) zW.id k c.id:=by rw [htk,Hfc.out c,← hQ];simp
        rw [hQ] at hDr hl2;have HQn:=Lib.hid hQn;have Hl2:=Lib.hid hl2;have hlq : Q.length + 1 ≤ 1000000:=by omega
        clear hc hspl htk hQ hQn hmem hl2;have hBr:=hDr.B;have hby : Below wr.heap.size wr ((wr.alloc (.cells (idC c.id) 39)).alloc (.cells (idC c.id) 39)):=((Below.refl _ _).alloc (Nat.le_refl _) _).alloc (by simp) _;have hby1 : Below wr.heap.size wr (wr.alloc (.cells (idC c.id) 39)):=(Below.refl _ _).alloc (Nat.le_refl _) _;have hcg1 : (wr.alloc (.cells (idC c.id) 39)).cell? ⟨go,0,none⟩ = some (.slice A' Q.length cap'):=(hby1.cell (p:=⟨go,0,none⟩) (show go < wr.heap.size by omega)).trans (by rw [cell_of_row wr go 0 _ _ _ hDr.hgo];rfl);have hown2:=hDr.own.below hby;have hrow2 : zF ((wr.alloc (.cells (idC c.id) 39)).alloc (.cells (idC c.id) 39)) (wr.heap.size + 1) 0 32 = some (idC c.id):=by simp [go_sem]
        have hgo2:=(hby.block go (by omega)).trans hDr.hgo;have hgoB : go < ((wr.alloc (.cells (idC c.id) 39)).alloc (.cells (idC c.id) 39)).heap.size:=by have:=hby.size;omega
        have hBB : B ≤ ((wr.alloc (.cells (idC c.id) 39)).alloc (.cells (idC c.id) 39)).heap.size:=by have:=hby.size;omega
        have hgoA : go ∉ blk A':=fun hx=>(by have:=(hDr.own.at_base hx).1;omega);go_upto_region 5 with (at_builtin;refine x8 xX rfl hown2 rfl hrow2 (xW _) (by omega) (by omega) hBB ?_;intro A2 cap2 w2 hownA hkA hsubA;have hgo3:=(hkA.block go hgoB hgoA).trans hgo2;have hcg3:=pD w2 go _ _ hgo3;have hf3:=QI w2 go 0 _ _ hgo3)
        have hb0w : w0.heap.size ≤ wr.heap.size:=hDr.bel.size;have hbz2 : Below w0.heap.size w0 w2:=(yN hDr.bel hby).trans (hkA.below (B:=w0.heap.size) (by have:=hby.size;omega) (fun x hx=>by have:=(hDr.own.at_base hx).1;omega));have hks:=zC.setCell w2 ⟨go,0,none⟩ (.slice A2 (Q.length + 1) cap2);have hbz3 : Below w0.heap.size w0 (w2.setCell ⟨go,0,none⟩ (.slice A2 (Q.length + 1) cap2)):=hbz2.trans (hks.below (B:=w0.heap.size) hbz2.size (by simpa using h2));have hsz2 : wr.heap.size + 2 ≤ w2.heap.size:=by have:=hkA.size;simpa using this
        have hgs3:=(hks.block gs (by omega) (by simpa using n1)).trans ((hkA.block gs (by have:=hby.size;omega) (fun hx=>by have:=(hDr.own.at_base hx).1;omega)).trans ((hby.block gs (by omega)).trans hDr.hgs));have hgd3:=(hks.block gd (by omega) (by simpa using n2)).trans ((hkA.block gd (by have:=hby.size;omega) (fun hx=>by have:=(hDr.own.at_base hx).1;omega)).trans ((hby.block gd (by omega)).trans hDr.hgd));have hgo4 : (w2.setCell ⟨go,0,none⟩ (.slice A2 (Q.length + 1) cap2)).heap[go]? = some (.cells #[.slice A2 (Q.length + 1) cap2] 50 (0,0)):=by rw [zM hgo3];rfl
        have hown4:=hownA.kept hks (fun x hx hm=>by
          have e : x = go:=by simpa using hm
          have:=(hownA.at_base hx).1;omega)
        have hl1 : (Q ++ [c]).length = Q.length + 1:=by simp
        have hD4 : uI w0 gs go gd B g (w2.setCell ⟨go,0,none⟩ (.slice A2 (Q.length + 1) cap2)) (Q ++ [c]) A2 cap2 :=
          ⟨hbz3,hgs3,by rw [hl1];exact hgo4,hgd3,by rw [hl1];simpa using hown4,by have:=hks.size;omega⟩
        have hrb : zF (w2.setCell ⟨go,0,none⟩ (.slice A2 (Q.length + 1) cap2)) wr.heap.size 0 32 = some (idC c.id):=(hks.row (by omega) (by simp;omega) _ _).trans ((hkA.row (by simp;omega) (fun hx=>by have:=(hDr.own.at_base hx).2;omega) _ _).trans (by simp [go_sem]));have cih:=ih c.id (Q ++ [c]) A2 cap2 _ hdc hD4 (by rw [hl1];exact Hl2.out);have hcd:=pD _ gd _ _ hgd3;have HbA : Hid (B ≤ wr.heap.size):=hBr;clear hbz2 hbz3 hks hgs3 hgd3 hgo4 hown4 hl1 hD4 hgo3 hcg3 hf3 hownA hkA hsubA hown2 hrow2 hgo2 hgoA hgoB hBB hby hby1 hcg1 hrO hDr hBr;obtain ⟨w5,hw5⟩ : ∃ w5,w2.setCell ⟨go,0,none⟩ (.slice A2 (Q.length + 1) cap2) = w5:=⟨_,rfl⟩
        rw [hw5] at hrb cih hcd ⊢;clear hw5;(go_wp2_with fail);refine cih.mono ?_;rintro e w6 ⟨rfl,A6,cap6,hD6⟩;have hD7 : uI w0 gs go gd B g w6 (P ++ (K.take (i + 1)).flatMap f) A6 cap6:=by rw [HQn.out];exact hD6
        have HD7:=Lib.hid hD7;clear hD6 hD7 cih hrb hcd;(go_wp2_with fail);go_roundw
        case rel=>exact ⟨i + 1,A6,cap6,by omega,by go_num,HD7.out⟩
        case measure=>simp [intOf];omega
      · have e : i = sn:=by omega
        subst e;rw [List.take_of_length_le (by rw [HlK.out];exact Nat.le_refl _)] at hDr;(go_wp2_with fail);go_end0;exact ⟨rfl,A',cap',hDr⟩
set_option maxRecDepth 100000 in
set_option maxHeartbeats 2000000 in
theorem sqorder (w : World) (M : List Nat) (g bn bb bg : Nat) (N : List zW) (G : List zK) (h : q5 w M g bn bb bg N G) (hl : N.length ≤ 100000) :
    Calls Tryz.prog 132 #[.pointer (some ⟨g,0,none⟩)] w fun e w'=>∃ A cap,e = .returned (.slice A (qW N).length cap) ∧ Own w' w.heap.size 39 32 A (qW N).length cap (((qW N).map zW.id).map idC) ∧ Below w.heap.size w w':=by
  have hf : bF N:=⟨h.one,fun a ha=>(kV (h.ok a ha)).1⟩
  have hb0 : Below w.heap.size w (w.alloc (.cells #[.pointer (some ⟨g,0,none⟩)] 106)):=(Below.refl _ _).alloc (Nat.le_refl _) _;have h0:=h.below hb0;have hsf:=fun (a : Addr) (c : Array Value) (w : World)=>run_store Tryz.prog w a (.func (.func 204) #[] c) .plain rfl;have hB3 : Below w.heap.size w (((w.alloc (.cells #[.pointer (some ⟨g,0,none⟩)] 106)).alloc (.cells #[.slice none 0 0] 50)).alloc (.cells #[.func (.func 204) #[] #[.pointer (some ⟨w.heap.size,0,none⟩),.pointer (some ⟨w.heap.size + 1,0,none⟩),.pointer (some ⟨w.heap.size + 1 + 1,0,none⟩)]] 214)):=(((Below.refl _ _).alloc (Nat.le_refl _) _).alloc (by simp) _).alloc (by simp;omega) _;have hD : uI w w.heap.size (w.heap.size + 1) (w.heap.size + 1 + 1) (w.heap.size + 3) g (((w.alloc (.cells #[.pointer (some ⟨g,0,none⟩)] 106)).alloc (.cells #[.slice none 0 0] 50)).alloc (.cells #[.func (.func 204) #[] #[.pointer (some ⟨w.heap.size,0,none⟩),.pointer (some ⟨w.heap.size + 1,0,none⟩),.pointer (some ⟨w.heap.size + 1 + 1,0,none⟩)]] 214)) [] none 0:=by
    refine ⟨hB3,?_,?_,?_,Own.nil _ _ _ _,by simp⟩
    · exact ((zC.alloc _ _).block _ (by simp;omega) (by simp)).trans (((zC.alloc _ _).block _ (by simp) (by simp)).trans (heap_alloc_new w _))
    · have e:=heap_alloc_new (w.alloc (.cells #[.pointer (some ⟨g,0,none⟩)] 106 (0,0))) (.cells #[.slice none 0 0] 50 (0,0));have e1 : (w.alloc (.cells #[.pointer (some ⟨g,0,none⟩)] 106 (0,0))).heap.size = w.heap.size + 1:=by simp
      rw [e1] at e;exact ((zC.alloc _ _).block _ (by simp) (by simp)).trans e
    · have e:=heap_alloc_new ((w.alloc (.cells #[.pointer (some ⟨g,0,none⟩)] 106 (0,0))).alloc (.cells #[.slice none 0 0] 50 (0,0))) (.cells #[.func (.func 204) #[] #[.pointer (some ⟨w.heap.size,0,none⟩),.pointer (some ⟨w.heap.size + 1,0,none⟩),.pointer (some ⟨w.heap.size + 1 + 1,0,none⟩)]] 214 (0,0));have e1 : ((w.alloc (.cells #[.pointer (some ⟨g,0,none⟩)] 106 (0,0))).alloc (.cells #[.slice none 0 0] 50 (0,0))).heap.size = w.heap.size + 1 + 1:=by simp
      rw [e1] at e;exact e
  have hlo:=k6 hf;have cd:=sqdown w M g bn bb bg N G h hl w.heap.size (w.heap.size + 1) (w.heap.size + 1 + 1) (w.heap.size + 3) (Nat.le_refl _) (by omega) (by omega) (by omega) (by omega) (by omega) (by omega) (by omega) (N.length + 1) id0 [] none 0 _ hf.deep hD (by show 0 + (qW N).length ≤ _;omega);have e0 : bW (xV N) zW.id (N.length + 1) id0 = qW N:=rfl;rw [e0] at cd;simp only [List.nil_append] at cd;obtain ⟨P,hP⟩ : ∃ P,qW N = P:=⟨_,rfl⟩
  rw [hP] at cd ⊢;clear hP hlo hf hD hB3 e0;go_enter Tryz.func132,Tryz.ntmps132
  (go_wp2_with fail);refine (gI _ g bn h0.cell0).mono ?_;rintro e w1 ⟨rfl,rfl⟩;clear h0 hb0;(go_wp2_with fail);refine cd.mono ?_;rintro e w2 ⟨rfl,A2,cap2,hD2⟩;have hc2:=pD _ _ _ _ hD2.hgo;have hown:=hD2.own.mono (B':=w.heap.size) (by omega);have hbel:=hD2.bel;clear cd hD2 hsf;(go_wp2_with fail);go_ret;exact ⟨A2,cap2,rfl,hown,hbel⟩
def g5 (N : List zW) (G : List zK) : List j3:=(bV N G).map fun v=>⟨⟨#[]⟩,v⟩
theorem QB {N : List zW} {G : List zK} (hf : bF N) : (g5 N G).length ≤ N.length:=by
  unfold g5 bV;rw [List.length_map,List.length_map];exact Nat.le_trans (List.length_filter_le _ _) (k6 hf)
end
section
open Go.RowKit
@[go_sem] theorem buildPair_v (v : ByteArray) (w : World) : (bdS 98 #[(1,.string v)]).run Tryz.prog w = .ok (.agg (zV ⟨⟨#[]⟩,v⟩)) w:=by kernel_rfl
def pS (T : List zW) (G : List zK) : List j3:=((T.filter fun n=>decide (n.id ∉ G)).map zW.val).map fun v=>⟨⟨#[]⟩,v⟩
theorem YS (T : List zW) (G : List zK) (c : zW) : pS (T ++ [c]) G = if c.id ∈ G then pS T G else pS T G ++ [⟨⟨#[]⟩,c.val⟩]:=by
  unfold pS;rw [List.filter_append];by_cases e : c.id ∈ G <;> simp [e]
theorem VX (T : List zW) (G : List zK) : (pS T G).length ≤ T.length:=by
  unfold pS;rw [List.length_map,List.length_map];exact List.length_filter_le _ _
set_option maxRecDepth 100000 in
set_option maxHeartbeats 4000000 in
theorem sqlist (w : World) (M : List Nat) (g bn bb bg : Nat) (N : List zW) (G : List zK) (h : q5 w M g bn bb bg N G) (hl : N.length ≤ 100000) :
    Calls Tryz.prog 61 #[.pointer (some ⟨g,0,none⟩)] w fun e w'=>∃ A cap,e = .returned (.slice A (g5 N G).length cap) ∧ Own w' w.heap.size 98 2 A (g5 N G).length cap ((g5 N G).map zV) ∧ Below w.heap.size w w':=by
  have hf : bF N:=⟨h.one,fun a ha=>(kV (h.ok a ha)).1⟩
  have c1:=sqorder w M g bn bb bg N G h hl;have hN:=(dO hf).2;have hlo:=k6 hf;have hls : g5 N G = pS (qW N) G:=rfl;rw [hls];obtain ⟨L,hL⟩ : ∃ L,qW N = L:=⟨_,rfl⟩
  rw [hL] at c1 hN hlo ⊢;clear hL hls hf;go_enter Tryz.func61,Tryz.ntmps61
  (go_wp2_with fail);refine c1.mono ?_;rintro e w1 ⟨RA,rc,rfl,hrow,hb⟩;have hsl:=hrow.slr;have haddr:=hrow.addr;clear hrow c1;(go_wp2_with fail);go_loopw [3,9] (fun out i wr=>∃ (k : Nat) (A : Option Addr) (cap : Nat),k ≤ L.length ∧ i = .int .i64 k ∧ out = .slice A (pS (L.take k) G).length cap ∧ Own wr w1.heap.size 98 2 A (pS (L.take k) G).length cap ((pS (L.take k) G).map zV) ∧ Below w1.heap.size w1 wr) (fun _ i _=>L.length - (intOf i).toNat)
  case atStart=>exact ⟨0,none,0,Nat.zero_le _,rfl,rfl,Own.nil _ _ _ _,Below.refl _ _⟩
  case round =>
    obtain ⟨k,A,cap,hk,rfl,rfl,hown,hbr⟩:=hrel;by_cases hlt : k < L.length
    · obtain ⟨q,o,rfl,hr⟩:=(hsl.below hbr).at_ hlt;obtain rfl : o = 0:=by
        rcases haddr with e | ⟨g',e⟩
        · cases e
        · injection e with e;injection e
      rw [Nat.zero_add,List.getElem_map,List.getElem_map] at hr;have htk : pS (L.take (k + 1)) G = if (L[k]'hlt).id ∈ G then pS (L.take k) G else pS (L.take k) G ++ [⟨⟨#[]⟩,(L[k]'hlt).val⟩]:=by
        rw [List.take_add_one,List.getElem?_eq_getElem hlt,Option.toList_some,YS]
      have hcN:=hN _ (List.getElem_mem hlt);have hpl : (pS (L.take k) G).length + 1 ≤ 1000000:=by have:=VX (L.take k) G;simp at this;omega
      obtain ⟨c,hc⟩ : ∃ c,L[k]'hlt = c:=⟨_,rfl⟩
      rw [hc] at hr htk hcN;obtain ⟨T0,hT0⟩ : ∃ T0,pS (L.take k) G = T0:=⟨_,rfl⟩
      rw [hT0] at htk hpl hown ⊢;have Htk:=Lib.hid htk;clear hc hT0 htk;have hszr:=hbr.size;have hbx : Below wr.heap.size wr (wr.alloc (.cells (idC c.id) 39)):=(Below.refl _ _).alloc (Nat.le_refl _) _;have hbw : Below w.heap.size w (wr.alloc (.cells (idC c.id) 39)):=(yN hb hbr).trans (hbx.mono (by have:=hb.size;omega));have hown1:=hown.below hbx;have hb1r : Below w1.heap.size w1 (wr.alloc (.cells (idC c.id) 39)):=hbr.trans (hbx.mono hszr);have hrc : zF (wr.alloc (.cells (idC c.id) 39)) wr.heap.size 0 32 = some (idC c.id):=by simp [go_sem]
      have hs1:=h.below hbw;go_upto_region 5 with fail
      obtain ⟨W,hW⟩ : ∃ W,wr.alloc (.cells (idC c.id) 39) = W:=⟨_,rfl⟩
      obtain ⟨gx,hgx⟩ : ∃ gx,wr.heap.size = gx:=⟨_,rfl⟩
      have hgxA : gx ∉ blk A:=fun hx=>(by have:=(hown.at_base hx).2;omega);rw [hgx] at hrc ⊢;rw [hW] at hown1 hb1r hrc hs1 ⊢;have hc2:=hs1.cell2;have hkk : ∀ y : Subtype (Bel W),(Instr.lookup 75 (.map (some bg)) (.agg (idC c.id)) false).run Tryz.prog y.1 = .ok (.bool (decide (c.id ∈ G))) y.1:=fun y=>KI (hs1.gone.below y.2);obtain ⟨rr,hrr⟩ : ∃ rr,decide (c.id ∈ G) = rr:=⟨_,rfl⟩
      rw [hrr] at hkk;have Hrr:=Lib.hid hrr;clear hW hgx hrr hr hown hbr hbx hbw;refine zE (Bel W) false (by kernel_rfl) (by kernel_rfl) (by kernel_rfl) (zG W) ?_;have hne:=zX W;have hS:=zG W;have b1:=zT hc2;have b2:=yD hrc;repeat (refine zB ?_ ?_;(focus (simp only [zA];done));intro K hK;go_simp;refine hK _ ?_;clear hK K)
      refine zN ?_;intro hS;have hs2:=hs1.below (zG W);have hown2:=hown1.kept (zC.drew W) (by simp);have hb2r : Below w1.heap.size w1 W.drew:=hb1r.drew;have hrc2 : zF W.drew gx 0 32 = some (idC c.id):=hrc;clear b1 b2 hne hS hkk hc2 hrc hs1 hown1 hb1r;obtain ⟨V,hV⟩ : ∃ V,W.drew = V:=⟨_,rfl⟩
      rw [hV] at hs2 hown2 hb2r hrc2 ⊢;clear hV;cases rr with
      | true =>
        have e5:=Htk.out;rw [if_pos (of_decide_eq_true Hrr.out)] at e5;have E5:=Lib.hid e5;clear e5;(go_wp2_with fail);go_roundw
        case rel=>exact ⟨k + 1,A,cap,by omega,by go_num,by rw [E5.out],by rw [E5.out];exact hown2,hb2r⟩
        case measure=>simp [intOf];omega
      | false =>
        have e5:=Htk.out;rw [if_neg (of_decide_eq_false Hrr.out)] at e5;have E5:=Lib.hid e5;clear e5;have hc0:=hs2.cell0;obtain ⟨es,clk,hn⟩:=hs2.nodes;have hgA : g ∉ blk A:=fun hx=>(by have:=(hown2.at_base hx).1;have:=h.ltg;have:=hb.size;omega);have hbnA : bn ∉ blk A:=fun hx=>(by have:=(hown2.at_base hx).1;have:=h.lt.1;have:=hb.size;omega);have hkn : ∀ y : Subtype (Kp (blk A) V),(Instr.lookup 188 (.map (some bn)) (.agg (idC c.id)) false).run Tryz.prog y.1 = .ok (.agg (y8 ⟨c.h,c.ref,c.val⟩)) y.1:=fun y=>YX (hn.kept y.2 hbnA) hcN false;go_upto_region 6 with fail
        refine zE (Kp (blk A) V) false (by kernel_rfl) (by kernel_rfl) (by kernel_rfl) (yB (blk A) V) ?_;have hne:=xD (blk A) V;have hS:=yB (blk A) V;have b1:=zZ hc0 hgA;have b2:=yP hrc2 (S:=blk A) hgxA;repeat (refine zB ?_ ?_;(focus (simp only [zA];done));intro K hK;go_simp;refine hK _ ?_;clear hK K)
        refine zH ?_ ?_ ?_;(focus (exact hS));(focus (simp only [zA];done));intro K hK;go_simp;refine zY (zC.trans (zC.trans (zC.refl (blk A) V) (zC.drew _) (by simp)) (zC.alloc _ _) (by simp)) (fun hS2=>?_);refine hK _ _ ?_;clear hK K;have hk0 : zC [] V (V.drew.alloc (.cells (zV ⟨⟨#[]⟩,c.val⟩) 98)):=zC.trans (zC.drew V) (zC.alloc _ _) (by simp);have hownr:=hown2.kept hk0 (by simp);have hrow2 : zF (V.drew.alloc (.cells (zV ⟨⟨#[]⟩,c.val⟩) 98)) V.heap.size 0 2 = some (zV ⟨⟨#[]⟩,c.val⟩):=by simp [go_sem]
        have hszV:=hb2r.size;refine fN yL rfl hownr rfl hrow2 (xU _) (by omega) (by omega) (by simp;omega) ?_;intro A3 cap3 w3 hown3 hk3 hsub3;refine zY (zC.trans (hk0.mono (S':=blk A) (by simp)) hk3 (fun x hx=>.inl hx)) (fun hS3=>?_);repeat (refine zB ?_ ?_;(focus (simp only [zA];done));intro K hK;go_simp;refine hK _ ?_;clear hK K)
        refine zN ?_;intro hS;have hb3 : Below w1.heap.size w1 w3:=hb2r.trans ((zC.trans (hk0.mono (S':=blk A) (by simp)) hk3 (fun x hx=>.inl hx)).below hszV (fun x hx=>(hown2.at_base hx).1));clear hne hS hS2 hS3 b1 b2 hkn;(go_wp2_with fail);go_roundw
        case rel=>exact ⟨k + 1,A3,cap3,by omega,by go_num,by rw [E5.out];simp,by rw [E5.out];simpa using hown3,hb3⟩
        case measure=>simp [intOf];omega
    · have e : L.take k = L:=List.take_of_length_le (by omega);rw [e] at hown ⊢;have Hown:=Lib.hid (hown.mono (B':=w.heap.size) hb.size);have Hb:=Lib.hid (yN hb hbr);clear hown e;(go_wp2_with fail);go_ret;exact ⟨A,cap,rfl,Hown.out,Hb.out⟩
end
section
open Go.RowKit
inductive VSt where
  | t (n : Int)
  | b (L G : List yT)
  | l (L : List jK)
  | m (X : List xT) (O : List zK)
  | s (N : List zW) (G : List zK)
def gF (w : World) (O M : List Nat) (v : Value) : VSt → Prop
  | .t n=>∃ g,v = .iface 100 (.pointer (some ⟨g,0,none⟩)) ∧ xR w g n ∧ O = [g]
  | .b L G=>∃ g bl bg,v = .iface 102 (.pointer (some ⟨g,0,none⟩)) ∧ jG w g bl bg L G ∧ O = [g,bl,bg]
  | .l L=>∃ g b,v = .iface 104 (.pointer (some ⟨g,0,none⟩)) ∧ xO w g b L ∧ O = [g,b]
  | .m X Ov=>∃ g bl bo,v = .iface 105 (.pointer (some ⟨g,0,none⟩)) ∧ q4 w g bl bo X Ov ∧ O = [g,bl,bo]
  | .s N G=>∃ g bn bb bg,v = .iface 106 (.pointer (some ⟨g,0,none⟩)) ∧ q5 w M g bn bb bg N G ∧ O = [g,bn,bb,bg]
def VSt.kind : VSt → Int
  | .t _=>1
  | .b ..=>2
  | .l _=>3
  | .m ..=>4
  | .s ..=>5
def VSt.len : VSt → Nat
  | .t _=>0
  | .b L _=>L.length
  | .l L=>L.length
  | .m X _=>X.length
  | .s N _=>N.length
def doS (m : yR) (o : OpV) : VSt → VSt
  | .t n=>.t (wrap64 (n + o.n))
  | .b L G=>if o.k = 2 then .b (uH L G ⟨m.id,o.val⟩) G else .b (dJ L o.val o.refs) (dK G o.val o.refs)
  | .l L=>.l (mJ L o.key ⟨o.val,o.n,m.id⟩)
  | .m X Ov=>.m (pW X Ov ⟨m.id,o.key,o.val⟩ o.refs) (dM Ov o.refs)
  | .s N G=>if o.k = 6 then .s (tZ N ⟨m.id,m.h,o.ref,o.val⟩) G else .s N (xJ zO G o.ref)
theorem nZ (m : yR) (o : OpV) (L G : List yT) (h : o.k = 2) : doS m o (.b L G) = .b (uH L G ⟨m.id,o.val⟩) G:=if_pos h
theorem nY (m : yR) (o : OpV) (L G : List yT) (h : ¬ o.k = 2) : doS m o (.b L G) = .b (dJ L o.val o.refs) (dK G o.val o.refs):=if_neg h
theorem nW (m : yR) (o : OpV) (N : List zW) (G : List zK) (h : o.k = 6) : doS m o (.s N G) = .s (tZ N ⟨m.id,m.h,o.ref,o.val⟩) G:=if_pos h
theorem nV (m : yR) (o : OpV) (N : List zW) (G : List zK) (h : ¬ o.k = 6) : doS m o (.s N G) = .s N (xJ zO G o.ref):=if_neg h
theorem KX (m : yR) (o : OpV) (s : VSt) : (doS m o s).kind = s.kind:=by
  cases s <;> simp only [doS] <;> (try split) <;> rfl
theorem n0 (v : ByteArray) : ∀ (T : List zK) (L : List yT),(dJ L v T).length ≤ L.length
  | [],L=>Nat.le_refl _
  | t :: T,L=>Nat.le_trans (n0 v T _) (List.length_filter_le _ _)
theorem doS_len (m : yR) (o : OpV) (s : VSt) : (doS m o s).len ≤ s.len + 1:=by
  cases s with
  | t n=>exact Nat.zero_le _
  | b L G =>
    by_cases h : o.k = 2
    · rw [nZ m o L G h];show (uH L G ⟨m.id,o.val⟩).length ≤ L.length + 1;unfold uH;have:=jC (c:=yI) L ⟨m.id,o.val⟩
      repeat' split
      all_goals omega
    · rw [nY m o L G h];show (dJ L o.val o.refs).length ≤ L.length + 1;have:=n0 o.val o.refs L;omega
  | l L=>exact m4 _ _ _
  | m X Ov =>
    show (pW X Ov ⟨m.id,o.key,o.val⟩ o.refs).length ≤ X.length + 1;unfold pW g4;exact Nat.le_trans (List.length_filter_le _ _) (jC (c:=qN) X _)
  | s N G =>
    by_cases h : o.k = 6
    · rw [nW m o N G h];show (tZ N ⟨m.id,m.h,o.ref,o.val⟩).length ≤ N.length + 1;unfold tZ;repeat' split
      all_goals simp
    · rw [nV m o N G h];exact Nat.le_succ N.length
theorem gF.kept {w w' : World} {O M S : List Nat} {v : Value} {s : VSt} (h : gF w O M v s) (k : zC S w w') (hO : ∀ x ∈ O,x ∉ S) (hS : ∀ x ∈ S,x ∈ M ∨ w.heap.size ≤ x) : gF w' O M v s:=by
  cases s with
  | t n=>obtain ⟨g,e,h1,rfl⟩:=h;exact ⟨g,e,h1.kept k (hO g (by simp)),rfl⟩
  | b L G=>obtain ⟨g,bl,bg,e,h1,rfl⟩:=h;exact ⟨g,bl,bg,e,h1.kept k (hO g (by simp)) (hO bl (by simp)) (hO bg (by simp)),rfl⟩
  | l L=>obtain ⟨g,b,e,h1,rfl⟩:=h;exact ⟨g,b,e,h1.kept k (hO g (by simp)) (hO b (by simp)),rfl⟩
  | m X Ov=>obtain ⟨g,bl,bo,e,h1,rfl⟩:=h;exact ⟨g,bl,bo,e,h1.kept k (hO g (by simp)) (hO bl (by simp)) (hO bo (by simp)),rfl⟩
  | s N G=>obtain ⟨g,bn,bb,bg,e,h1,rfl⟩:=h;exact ⟨g,bn,bb,bg,e,h1.kept k hS (hO g (by simp)) (hO bn (by simp)) (hO bb (by simp)) (hO bg (by simp)),rfl⟩
theorem gF.below {w w' : World} {O M : List Nat} {v : Value} {s : VSt} (h : gF w O M v s) (k : Below w.heap.size w w') : gF w' O M v s:=h.kept (zC.of_below k) (by simp) (by simp)
structure OpFit (s : VSt) (o : OpV) : Prop where
  kind : vK o.k = s.kind
  key : o.key.size ≤ 16
  val : o.val.size ≤ 16
  refs : o.refs.length ≤ 8
  lo : -2147483648 ≤ o.n
  hi : o.n < 2147483648
theorem vdoes (m : yR) (o : OpV) (A : Option Addr) (c : Nat) (w : World) (g : Nat) (t : ByteArray) (b : Nat) (I : List zK) (v : Value) (O M : List Nat) (s : VSt) (h : x7 w g t b I v) (hs : gF w O M v s) (hM : ∀ x ∈ M,x < w.heap.size) (ho : OpFit s o) (hA : y4 w A o.refs.length o.refs) (hl : s.len ≤ 1000) :
    Calls Tryz.prog 64 #[.pointer (some ⟨g,0,none⟩),.agg (zP m),.agg (opC o A c)] w fun e w'=>e = .returned (.tuple #[]) ∧ gF w' O M v (doS m o s) ∧ zC O w w':=by
  cases s with
  | t n =>
    obtain ⟨gt,rfl,h1,rfl⟩:=hs;refine (YG m o A c w g gt t b I n h h1 ho.lo ho.hi).mono ?_;rintro e w' ⟨rfl,h2,hk⟩;exact ⟨rfl,⟨gt,rfl,h2,rfl⟩,hk⟩
  | b L G =>
    obtain ⟨gt,bl,bg,rfl,h1,rfl⟩:=hs;by_cases h2 : o.k = 2
    · refine (JN m o A c w g gt bl bg t b I L G h h1 h2 ho.val).mono ?_;rintro e w' ⟨rfl,h3,hk⟩;refine ⟨rfl,?_,hk.mono (by simp)⟩;rw [nZ m o L G h2];exact ⟨gt,bl,bg,rfl,h3,rfl⟩
    · refine (JM m o A c w g gt bl bg t b I L G h h1 (by simpa using h2) ho.val hA ho.refs).mono ?_;rintro e w' ⟨rfl,h3,hk⟩;refine ⟨rfl,?_,hk.mono (by intro x hx;simp at hx ⊢;omega)⟩;rw [nY m o L G h2];exact ⟨gt,bl,bg,rfl,h3,rfl⟩
  | l L =>
    obtain ⟨gt,bl,rfl,h1,rfl⟩:=hs;refine (vdoes_l m o A c w g gt bl t b I L h h1 ho.key ho.val).mono ?_;rintro e w' ⟨rfl,h3,hk⟩;exact ⟨rfl,⟨gt,bl,rfl,h3,rfl⟩,hk.mono (by simp)⟩
  | m X Ov =>
    obtain ⟨gt,bl,bo,rfl,h1,rfl⟩:=hs;refine (vdoes_m m o A c w g gt bl bo t b I X Ov h h1 ho.key ho.val hA ho.refs (by have : X.length ≤ 1000:=hl;omega)).mono ?_;rintro e w' ⟨rfl,h3,hk⟩;exact ⟨rfl,⟨gt,bl,bo,rfl,h3,rfl⟩,hk.mono (by intro x hx;simp at hx ⊢;omega)⟩
  | s N G =>
    obtain ⟨gt,bn,bb,bg,rfl,h1,rfl⟩:=hs;by_cases h2 : o.k = 6
    · refine (JL m o A c w g gt bn bb bg t b I M N G h h1 hM h2 ho.val (by have : N.length ≤ 1000:=hl;omega)).mono ?_;rintro e w' ⟨rfl,h3,hk⟩;refine ⟨rfl,?_,hk.mono (by intro x hx;simp at hx ⊢;omega)⟩;rw [nW m o N G h2];exact ⟨gt,bn,bb,bg,rfl,h3,rfl⟩
    · refine (JK m o A c w g gt bn bb bg t b I M N G h h1 (by simpa using h2)).mono ?_;rintro e w' ⟨rfl,h3,hk⟩;refine ⟨rfl,?_,hk.mono (by intro x hx;simp at hx ⊢;omega)⟩;rw [nV m o N G h2];exact ⟨gt,bn,bb,bg,rfl,h3,rfl⟩
def VSt.num : VSt → Int
  | .t n=>n
  | _=>0
def VSt.pairs : VSt → List j3
  | .t _=>[]
  | .b L _=>(jU L).map wG
  | .l L=>L.map nC
  | .m X _=>jY X
  | .s N G=>g5 N G
theorem vvalue (w : World) (g : Nat) (t : ByteArray) (b : Nat) (I : List zK) (v : Value) (O M : List Nat) (s : VSt) (h : x7 w g t b I v) (hs : gF w O M v s) (ht : t.size ≤ 9223372036854775807) (hk : yU t = s.kind) (hl : s.len ≤ 1000) :
    Calls Tryz.prog 24 #[.pointer (some ⟨g,0,none⟩)] w fun e w'=>∃ A cap,e = .returned (.agg (zS ⟨s.kind,s.num,.slice A s.pairs.length cap⟩)) ∧ Own w' w.heap.size 98 2 A s.pairs.length cap (s.pairs.map zV) ∧ Below w.heap.size w w':=by
  cases s with
  | t n =>
    obtain ⟨gt,rfl,h1,rfl⟩:=hs;refine (eN w g gt t b I n h h1 ht hk).mono ?_;rintro e w' ⟨rfl,hb⟩;exact ⟨none,0,rfl,Own.nil _ _ _ _,hb⟩
  | b L G =>
    obtain ⟨gt,bl,bg,rfl,h1,rfl⟩:=hs;refine (JC w g gt t b I h ht hk (jU L).length ((jU L).map fun s=>zV (wG s)) (fun w' hb=>blist w' gt bl bg L G (h1.below hb) (by have : L.length ≤ 1000:=hl;omega))).mono ?_;rintro e w' ⟨A,cap,rfl,ho,hb⟩;have e1 : (VSt.b L G).pairs.length = (jU L).length:=by simp [VSt.pairs]
    refine ⟨A,cap,by rw [e1];rfl,?_,hb⟩;rw [e1];simpa [VSt.pairs,List.map_map,Function.comp_def] using ho
  | l L =>
    obtain ⟨gt,bl,rfl,h1,rfl⟩:=hs;refine (JB w g gt t b I h ht hk L.length (rU L) (fun w' hb=>llist w' gt bl L (h1.below hb) (by have : L.length ≤ 1000:=hl;omega))).mono ?_;rintro e w' ⟨A,cap,rfl,ho,hb⟩;have e1 : (VSt.l L).pairs.length = L.length:=by simp [VSt.pairs]
    refine ⟨A,cap,by rw [e1];rfl,?_,hb⟩;rw [e1];simpa [VSt.pairs,rU,List.map_map,Function.comp_def] using ho
  | m X Ov =>
    obtain ⟨gt,bl,bo,rfl,h1,rfl⟩:=hs;exact JA w g gt t b I h ht hk (jY X).length ((jY X).map zV) (fun w' hb=>mlist w' gt bl bo X Ov (h1.below hb) (by have : X.length ≤ 1000:=hl;omega))
  | s N G =>
    obtain ⟨gt,bn,bb,bg,rfl,h1,rfl⟩:=hs;exact J9 w g gt t b I h ht hk (g5 N G).length ((g5 N G).map zV) (fun w' hb=>sqlist w' M gt bn bb bg N G (h1.below hb) (by have : N.length ≤ 1000:=hl;omega))
end
section
open Go.RowKit
abbrev kE (w : World) (A : Option Addr) (n : Nat) (R : List yR) : Prop:=SlR w A n 34 (R.map zP)
theorem kE.get {w : World} {A : Option Addr} {n : Nat} {R : List yR} (h : kE w A n R) {i : Nat} (hi : i < n) (hR : i < R.length) :
    ∃ g o,A = some ⟨g,o,none⟩ ∧ zF w g (o + i * 34) 34 = some (zP R[i]) ∧ zF w g (o + i * 34) 32 = some (idC (R[i]).id) ∧ w.cell? ⟨g,o + i * 34 + 33,none⟩ = some (.string (R[i]).body):=by
  obtain ⟨g,o,e,hr⟩:=SlR.at_ h hi;rw [List.getElem_map] at hr;refine ⟨g,o,e,hr,?_,?_⟩
  · have:=y7 hr (j:=0) (m:=32) (by omega)
    rwa [qM] at this
  · have:=zD hr (j:=33) (by omega)
    rwa [wU] at this
theorem kE.len {w : World} {A : Option Addr} {n : Nat} {R : List yR} (h : kE w A n R) : R.length = n:=by simpa using h.1
structure X7 (w : World) (A : Option Addr) (n : Nat) (R : List yR) : Prop where
  rows : kE w A n R
  big : n ≤ 9223372036854775807
  each : ∀ a ∈ R,a.body.size ≤ 9223372036854775807
def Z2 (R : List yR) : Prop:=R.length ≤ 30 ∧ ∀ a ∈ R,a.body.size ≤ 600
set_option maxHeartbeats 1000000 in
theorem vmuch (w : World) (A : Option Addr) (n cap : Nat) (R : List yR) (h : X7 w A n R) :
    Calls Tryz.prog 20 #[.slice A n cap] w fun e w'=>∃ b,e = .returned (.bool b) ∧ (b = false → Z2 R) ∧ Below w.heap.size w w':=by
  have hlen:=h.rows.len;have hn:=h.big;have hrows:=h.rows;have hs:=h.each;have Hlen:=Lib.hid hlen;go_enter Tryz.func20,Tryz.ntmps20
  (go_wp2_with fail);go_loopw [3] (fun i wr=>∃ k : Nat,k ≤ n ∧ k ≤ 30 ∧ i = .int .i64 k ∧ Hid (∀ j (hj : j < R.length),j < k → (R[j]).body.size ≤ 600) ∧ Below w.heap.size w wr) (fun i _=>n - (intOf i).toNat)
  case atStart=>exact ⟨0,Nat.zero_le _,by omega,rfl,(show ∀ j (hj : j < R.length),j < 0 → _ from fun j _ h=>absurd h (by omega)),Below.refl _ _⟩
  case round =>
    obtain ⟨k,hk,hk40,rfl,hd,hb⟩:=hrel;by_cases hlt : k < n ∧ k < 30
    · obtain ⟨hlt,hlt40⟩:=hlt;obtain ⟨g,o,rfl,_,_,hval⟩:=kE.get (SlR.below hrows hb) hlt (by omega);have hsk:=hs R[k] (List.getElem_mem (by omega));obtain ⟨x,hx⟩ : ∃ x,R[k]'(by omega) = x:=⟨_,rfl⟩
      have Hx:=Lib.hid hx;rw [hx] at hval hsk;clear hx;by_cases h1 : 600 < x.body.size
      · (go_wp2_with fail);go_ret;exact ⟨true,rfl,nofun,hb⟩
      · have hd2 : ∀ j (hj : j < R.length),j < k + 1 → (R[j]).body.size ≤ 600:=fun j hj hjk=>by
          rcases Nat.lt_or_ge j k with h3 | h3
          · exact hd.out j hj h3
          · obtain rfl : j = k:=by omega
            have:=Hx.out;rw [this];omega
        have Hd2:=Lib.hid hd2;clear hd2 hd;(go_wp2_with fail);go_roundw
        case rel=>exact ⟨k + 1,by omega,by omega,by go_num,Hd2,hb⟩
        case measure=>simp [intOf];omega
    · have hstop : n ≤ k ∨ 30 ≤ k:=by omega
      by_cases hm : 30 < n
      · (go_wp2_with fail);go_ret;exact ⟨true,yG (decide_eq_true (by omega)),nofun,hb⟩
      · have hfew : Z2 R:=⟨by omega,fun a ha=>by
          obtain ⟨j,hj,rfl⟩:=List.getElem_of_mem ha;exact hd.out j hj (by omega)⟩
        have Hf:=Lib.hid hfew;clear hfew hd;(go_wp2_with fail);go_ret;exact ⟨false,yG (decide_eq_false (by omega)),fun _=>Hf.out,hb⟩
end
section
open Go.RowKit
structure VAt (w : World) (g : Nat) (t : ByteArray) (b : Nat) (O : List Nat) (I : List zK) (v : Value) (s : VSt) : Prop where
  view : x7 w g t b I v
  st : gF w O (b :: O) v s
  gM : g ∉ b :: O
  bO : b ∉ O
  lt : ∀ x ∈ b :: O,x < w.heap.size
  b0 : 0 ∉ b :: O
theorem VAt.below {w w' : World} {g : Nat} {t : ByteArray} {b : Nat} {O : List Nat} {I : List zK} {v : Value} {s : VSt} (h : VAt w g t b O I v s) (k : Below w.heap.size w w') : VAt w' g t b O I v s :=
  ⟨h.view.below k,h.st.below k,h.gM,h.bO,fun x hx=>Nat.lt_of_lt_of_le (h.lt x hx) k.size,h.b0⟩
def VSt.new (k : Int) : VSt:=if k = 1 then .t 0 else if k = 2 then .b [] [] else if k = 3 then .l [] else if k = 4 then .m [] [] else .s [] []
theorem gP (t : ByteArray) : yU t = 0 ∨ yU t = 1 ∨ yU t = 2 ∨ yU t = 3 ∨ yU t = 4 ∨ yU t = 5:=by
  unfold yU m8
  repeat' split
  all_goals simp
theorem u2 {w2 w3 w' : World} {g b : Nat} {t : ByteArray} {O : List Nat} {v : Value} {s : VSt} (hv : x7 w' g t b [] v) (hs : gF w3 O O v s) (hO : ∀ x ∈ O,w2.heap.size ≤ x ∧ x < w3.heap.size) (hb : Below w3.heap.size w3 w') (hg : g = w3.heap.size) (hb2 : b < w2.heap.size) (hbp : 0 < b) (hm : gF w3 O O v s → gF w3 O (b :: O) v s) : VAt w' g t b O [] v s:=by
  have h3:=(hm hs).below hb;refine ⟨hv,h3,?_,?_,?_,?_⟩
  · intro hx;rcases List.mem_cons.1 hx with h | h
    · exact hv.ne h
    · have:=(hO _ h).2;omega
  · intro h;have:=(hO _ h).1;omega
  · intro x hx;rcases List.mem_cons.1 hx with h | h
    · rw [h];exact hv.ids.lt
    · have:=(hO _ h).2;have:=hb.size;omega
  · intro hx;rcases List.mem_cons.1 hx with h | h
    · omega
    · have:=(hO _ h).1;omega
theorem JF (t : ByteArray) (w : World) (ht : t.size ≤ 9223372036854775807) (hk0 : yU t ≠ 0) (hw : 0 < w.heap.size) :
    Calls Tryz.prog 23 #[.string t] w fun e w'=>∃ g b O v,e = .returned (.tuple #[.pointer (some ⟨g,0,none⟩),.int .i64 0]) ∧ VAt w' g t b O [] v (VSt.new (yU t)) ∧ (∀ x ∈ b :: O,w.heap.size ≤ x) ∧ w.heap.size ≤ g ∧ Below w.heap.size w w':=by
  rcases gP t with h | h | h | h | h | h
  · exact absurd h hk0
  · have hf : ∀ w,Calls Tryz.prog 55 #[.int .i64 1] w fun e w'=>∃ gs,e = .returned (.iface 100 (.pointer (some ⟨gs,0,none⟩))) ∧ (xR w' gs 0 ∧ w.heap.size ≤ gs) ∧ Below w.heap.size w w':=fun w=>(eO w).mono fun e w' ⟨h1,h2,h3⟩=>⟨_,h1,⟨h2,Nat.le_refl _⟩,h3⟩;refine (XB t w ht 1 h (by omega) _ _ hf).mono ?_;rintro e w' ⟨g,b,gs,w2,w3,rfl,hv,⟨hz,hz2⟩,hb23,hb3,hg,hb1,hb2,hB⟩;refine ⟨g,b,[gs],.iface 100 (.pointer (some ⟨gs,0,none⟩)),rfl,?_,?_,?_,hB⟩
    · rw [h];refine u2 (s:=.t 0) (w2:=w2) hv ⟨gs,rfl,hz,rfl⟩ (fun x hx=>?_) hb3 hg hb2 (by omega) (fun h=>?_)
      · obtain rfl : x = gs:=by simpa using hx
        exact ⟨hz2,hz.lt⟩
      · obtain ⟨g',e,h1,h2⟩:=h;exact ⟨g',e,h1,h2⟩
    · intro x hx;simp at hx;omega
    · have:=hb23.size;omega
  · refine (XB t w ht 2 h (by omega) _ _ JJ).mono ?_;rintro e w' ⟨g,b,gs,w2,w3,rfl,hv,⟨bl,bg,hz,z1,z2,z3⟩,hb23,hb3,hg,hb1,hb2,hB⟩;refine ⟨g,b,[gs,bl,bg],.iface 102 (.pointer (some ⟨gs,0,none⟩)),rfl,?_,?_,?_,hB⟩
    · rw [h];refine u2 (s:=.b [] []) (w2:=w2) hv ⟨gs,bl,bg,rfl,hz,rfl⟩ (fun x hx=>?_) hb3 hg hb2 (by omega) (fun h=>?_)
      · have h1:=hz.lt.1;have h2:=hz.live.lt;have h3:=hz.gone.lt;simp at hx;rcases hx with rfl | rfl | rfl <;> omega
      · exact h
    · intro x hx;simp at hx;omega
    · have:=hb23.size;omega
  · refine (XB t w ht 3 h (by omega) _ _ JI).mono ?_;rintro e w' ⟨g,b,gs,w2,w3,rfl,hv,⟨bl,hz,z1,z2⟩,hb23,hb3,hg,hb1,hb2,hB⟩;refine ⟨g,b,[gs,bl],.iface 104 (.pointer (some ⟨gs,0,none⟩)),rfl,?_,?_,?_,hB⟩
    · rw [h];refine u2 (s:=.l []) (w2:=w2) hv ⟨gs,bl,rfl,hz,rfl⟩ (fun x hx=>?_) hb3 hg hb2 (by omega) (fun h=>?_)
      · have h1:=hz.lt;simp at hx;rcases hx with rfl | rfl <;> omega
      · exact h
    · intro x hx;simp at hx;omega
    · have:=hb23.size;omega
  · refine (XB t w ht 4 h (by omega) _ _ JH).mono ?_;rintro e w' ⟨g,b,gs,w2,w3,rfl,hv,⟨bl,bg,hz,z1,z2,z3⟩,hb23,hb3,hg,hb1,hb2,hB⟩;refine ⟨g,b,[gs,bl,bg],.iface 105 (.pointer (some ⟨gs,0,none⟩)),rfl,?_,?_,?_,hB⟩
    · rw [h];refine u2 (s:=.m [] []) (w2:=w2) hv ⟨gs,bl,bg,rfl,hz,rfl⟩ (fun x hx=>?_) hb3 hg hb2 (by omega) (fun h=>?_)
      · have h1:=hz.lt.1;have h2:=hz.live.lt;have h3:=hz.over.lt;simp at hx;rcases hx with rfl | rfl | rfl <;> omega
      · exact h
    · intro x hx;simp at hx;omega
    · have:=hb23.size;omega
  · refine (XB t w ht 5 h (by omega) _ _ JG).mono ?_;rintro e w' ⟨g,b,gs,w2,w3,rfl,hv,⟨bn,bb,bg,hz,z1,z2,z3,z4⟩,hb23,hb3,hg,hb1,hb2,hB⟩;have hz0:=hz [bn,bb,bg] (by simp) (by simp) (by simp);have hm : q5 w3 (b :: [gs,bn,bb,bg]) gs bn bb bg [] []:=hz _ (by simp) (by simp) (by simp);refine ⟨g,b,[gs,bn,bb,bg],.iface 106 (.pointer (some ⟨gs,0,none⟩)),rfl,?_,?_,?_,hB⟩
    · rw [h];refine u2 (s:=.s [] []) (w2:=w2) hv ⟨gs,bn,bb,bg,rfl,hz _ (by simp) (by simp) (by simp),rfl⟩ (fun x hx=>?_) hb3 hg hb2 (by omega) (fun _=>⟨gs,bn,bb,bg,rfl,hm,rfl⟩);have h1:=hz0.ltg;obtain ⟨_,_,hn⟩:=hz0.nodes;obtain ⟨_,_,_,hbb,_⟩:=hz0.behind;have h4:=hz0.gone.lt;have h2:=hn.lt;have h3:=hbb.lt;simp at hx;rcases hx with rfl | rfl | rfl | rfl <;> omega
    · intro x hx;simp at hx;omega
    · have:=hb23.size;omega
theorem K2 (l : List UInt8) (h : opE l = 0) : -2147483648 ≤ (opO l).n:=by
  have hn:=dP l h;have hk : 1 ≤ xQ 1 l 0 ∧ xQ 1 l 0 ≤ 7:=by
    unfold opE at h;split at h
    · contradiction
    split at h
    · cases h
    · omega
  have h2:=iK (xQ 1 l 0) (yW 1 l 0) 0 hk.1 hk.2;have e : (yX (xQ 1 l 0) (yW 1 l 0) 0).o = opO l:=rfl;rw [e,decide_eq_true hn.2.2.2.2.2.2.2] at h2;unfold nF at h2;simp only [Bool.and_eq_true,decide_eq_true_eq] at h2;exact h2.2.2
def g8 (t : ByteArray) (m : yR) (s : VSt) : VSt:=if gD t m then doS m (opO m.body.data.toList) s else s
theorem Y4 (t : ByteArray) (m : yR) (s : VSt) : (g8 t m s).kind = s.kind:=by
  unfold g8;split
  · exact KX _ _ _
  · rfl
theorem QK (t : ByteArray) (m : yR) (s : VSt) : (g8 t m s).len ≤ s.len + 1:=by
  unfold g8;split
  · exact doS_len _ _ _
  · omega
theorem XD (m : yR) (w : World) (g : Nat) (t : ByteArray) (b : Nat) (O : List Nat) (I : List zK) (v : Value) (s : VSt) (h : VAt w g t b O I v s) (hm : m.id ∉ I) (hp : xE w) (hs : m.body.size ≤ 9223372036854775807) (ht : t.size ≤ 9223372036854775807) (hk : yU t = s.kind) (hl : s.len ≤ 1000) :
    Calls Tryz.prog 26 #[.pointer (some ⟨g,0,none⟩),.agg (zP m)] w fun e w'=>e = .returned (.bool true) ∧ VAt w' g t b O (m.id :: I) v (g8 t m s) ∧ zC (b :: O) w w':=by
  have hgO : g ∉ O:=fun hx=>h.gM (List.mem_cons_of_mem _ hx);have hOb : ∀ x ∈ O,x ∉ [b]:=fun x hx hxb=>h.bO (by have : x = b:=by simpa using hxb
                                                                                                                rwa [← this])
  refine rD m w g t b I v h.view hm hp (fun e=>h.b0 (by simp [e])) hs ht (fun w'=>VAt w' g t b O (m.id :: I) v (g8 t m s) ∧ zC (b :: O) w w') ?_ ?_
  · intro hf w' hv hkp;have e : g8 t m s = s:=if_neg hf;rw [e];exact ⟨⟨hv,h.st.kept hkp hOb (fun x hx=>.inl (by have : x = b:=by simpa using hx
                                                                                                                simp [this])),h.gM,h.bO,fun x hx=>Nat.lt_of_lt_of_le (h.lt x hx) hkp.size,h.b0⟩,hkp.mono (by simp)⟩
  · intro hf w1 A c hv hkp hp1 hown;have e : g8 t m s = doS m (opO m.body.data.toList) s:=if_pos hf;rw [e];have hok:=dP _ hf.1;have hst : gF w1 O (b :: O) v s:=h.st.kept hkp hOb (fun x hx=>.inl (by have : x = b:=by simpa using hx
                                                                                                                                                                                                      simp [this]))
    refine (vdoes m _ A c w1 g t b (m.id :: I) v O (b :: O) s hv hst (fun x hx=>Nat.lt_of_lt_of_le (h.lt x hx) hkp.size) ⟨hf.2.trans hk,hok.2.2.2.1,hok.2.2.2.2.1,hok.2.2.2.2.2.1,K2 _ hf.1,hok.2.2.2.2.2.2.2⟩ hown.slr hl).mono ?_;rintro e w' ⟨rfl,h1,hk2⟩;exact ⟨rfl,⟨hv.kept hk2 hgO h.bO,h1,h.gM,h.bO,fun x hx=>Nat.lt_of_lt_of_le (h.lt x hx) (Nat.le_trans hkp.size hk2.size),h.b0⟩,zC.trans (hkp.mono (S':=b :: O) (by simp)) (hk2.mono (S':=b :: O) (fun x hx=>.inl (List.mem_cons_of_mem _ hx))) (fun x hx=>.inl hx)⟩
end
section
open Go.RowKit
def maxS (o : Option x9) (x : x9) : x9:=match o with | none=>x | some was=>if 0 < bY x was then x else was
end
section
open Go.RowKit
def oOf (m : yR) : OpV:=opO m.body.data.toList
def lZ (m : yR) : x9:=⟨(oOf m).val,(oOf m).n,m.id⟩
def u7 (m : yR) : zW:=⟨m.id,m.h,(oOf m).ref,(oOf m).val⟩
def mY (m : yR) : xT:=⟨m.id,(oOf m).key,(oOf m).val⟩
def sumN (F : List yR) : Int:=(F.map fun m=>(oOf m).n).sum
def Latest (F : List yR) (k : ByteArray) : Option x9 → Prop
  | none=>∀ m ∈ F,qT (oOf m).key (lZ m) = 0 → (oOf m).key ≠ k
  | some s=>(∃ m ∈ F,qT (oOf m).key (lZ m) = 0 ∧ (oOf m).key = k ∧ s = lZ m) ∧ ∀ m ∈ F,qT (oOf m).key (lZ m) = 0 → (oOf m).key = k → ¬ 0 < bY (lZ m) s
def Means (F : List yR) : VSt → Prop
  | .t n=>n = wrap64 (sumN F)
  | .b L G=>Ris yI L ∧ Ris yI G ∧ (∀ z,z ∈ G ↔ ∃ m ∈ F,(oOf m).k ≠ 2 ∧ z.val = (oOf m).val ∧ z.tag ∈ (oOf m).refs) ∧ ∀ z,z ∈ L ↔ (∃ m ∈ F,(oOf m).k = 2 ∧ z = ⟨m.id,(oOf m).val⟩) ∧ z ∉ G
  | .l L=>pF L ∧ ∀ k,Latest F k (wX L k)
  | .m X O=>Ris qN X ∧ Ris zO O ∧ (∀ z,z ∈ O ↔ ∃ m ∈ F,z ∈ (oOf m).refs) ∧ ∀ z,z ∈ X ↔ (∃ m ∈ F,z = mY m) ∧ z.id ∉ O
  | .s N G=>(∀ z,z ∈ N ↔ ∃ m ∈ F,(oOf m).k = 6 ∧ z = u7 m ∧ kW z = 0) ∧ Ris zO G ∧ ∀ z,z ∈ G ↔ ∃ m ∈ F,(oOf m).k ≠ 6 ∧ z = (oOf m).ref
theorem K6 {L G : List yT} {x z : yT} (hv : x.val.size ≤ 16) (hr : Ris yI L) (hl : ∀ y ∈ L,y ∉ G) : z ∈ uH L G x ↔ (z ∈ L ∨ z = x) ∧ z ∉ G:=by
  unfold uH;rw [if_neg (by omega)];split
  · rename_i h
    constructor
    · intro hz;exact ⟨.inl hz,hl z hz⟩
    · rintro ⟨h1 | h1,h2⟩
      · exact h1
      · subst h1;exact absurd h h2
  · rename_i h
    rw [qA qV];constructor
    · rintro (h1 | h1)
      · subst h1;exact ⟨.inr rfl,h⟩
      · exact ⟨.inl h1,hl z h1⟩
    · rintro ⟨h1 | h1,_⟩
      · exact .inr h1
      · exact .inl h1
theorem VI {L G : List yT} {x : yT} (hr : Ris yI L) : Ris yI (uH L G x):=by
  unfold uH;split
  · exact hr
  · split
    · exact hr
    · exact jP qV hr
def SameS : VSt → VSt → Prop
  | .t a,.t b=>a = b
  | .b L G,.b L' G'=>L = L' ∧ G = G'
  | .l L,.l L'=>L = L'
  | .m X O,.m X' O'=>X = X' ∧ O = O'
  | .s N G,.s N' G'=>(∀ z,z ∈ N ↔ z ∈ N') ∧ G = G'
  | _,_=>False
end
section
open Go.RowKit
theorem KM (d : zK) {k : Nat} (h : k < 32) : idB d k = ((d.l[k]'(by rw [d.h];exact h)).toNat : Int):=by
  unfold idB;rw [List.getD_eq_getElem?_getD,List.getElem?_eq_getElem (by rw [d.h];exact h)];rfl
theorem YZ (d : zK) {k : Nat} (h : k < 32) : d.l.drop k = d.l[k]'(by rw [d.h];exact h) :: d.l.drop (k + 1):=List.drop_eq_getElem_cons (by rw [d.h];exact h)
theorem QU (u v : UInt8) (l m : List UInt8) : jZ (u :: l) (v :: m) = if u < v then -1 else if v < u then 1 else jZ l m:=rfl
set_option maxHeartbeats 2000000 in
theorem d5 (a b : zK) (w : World) : Calls Tryz.prog 114 #[.agg (idC a),.agg (idC b)] w fun e w'=>e = .returned (.int .i64 (zO a b)) ∧ Below w.heap.size w w':=by
  go_enter Tryz.func114,Tryz.ntmps114
  (go_wp2_with fail);have hca : Hid (∀ k,k < 32 → ((w.alloc (.cells (idC a) 39)).alloc (.cells (idC b) 39)).cell? ⟨w.heap.size,k,none⟩ = some (.int .u8 (idB a k))):=fun k hk=>(by simp [go_sem,hk]);have hcb : Hid (∀ k,k < 32 → ((w.alloc (.cells (idC a) 39)).alloc (.cells (idC b) 39)).cell? ⟨w.heap.size + 1,k,none⟩ = some (.int .u8 (idB b k))):=fun k hk=>(by simp [go_sem,hk]);have hB : Below w.heap.size w ((w.alloc (.cells (idC a) 39)).alloc (.cells (idC b) 39)):=((Below.refl _ _).alloc (Nat.le_refl _) _).alloc (by simp) _;generalize (w.alloc (.cells (idC a) 39)).alloc (.cells (idC b) 39) = W at *;go_loopw [5] (fun i wr=>∃ k : Nat,k ≤ 32 ∧ i = .int .i64 k ∧ Hid (jZ (a.l.drop k) (b.l.drop k) = zO a b) ∧ Below W.heap.size W wr) (fun i _=>32 - (intOf i).toNat)
  case atStart=>exact ⟨0,by omega,rfl,rfl,Below.refl _ _⟩
  case round =>
    obtain ⟨k,hk,rfl,hd,hb⟩:=hrel;by_cases hlt : k < 32
    · have ca:=(hb.cell (p:=⟨w.heap.size,k,none⟩) (World.block_lt_of_cell? W _ (hca.out k hlt))).trans (hca.out k hlt);have cb:=(hb.cell (p:=⟨w.heap.size + 1,k,none⟩) (World.block_lt_of_cell? W _ (hcb.out k hlt))).trans (hcb.out k hlt);have hdr : zO a b = if idB a k < idB b k then -1 else if idB b k < idB a k then 1 else jZ (a.l.drop (k + 1)) (b.l.drop (k + 1)):=by
        rw [← hd.out,YZ a hlt,YZ b hlt,KM a hlt,KM b hlt,QU];simp only [UInt8.lt_iff_toNat_lt,Int.ofNat_lt]
      obtain ⟨x,hx⟩ : ∃ x,idB a k = x:=⟨_,rfl⟩
      obtain ⟨y,hy⟩ : ∃ y,idB b k = y:=⟨_,rfl⟩
      rw [hx,hy] at hdr;rw [hx] at ca;rw [hy] at cb;have Hdr:=Lib.hid hdr;clear hdr hx hy;go_upto_region 4 with fail
      refine zE (Bel wr) false (by kernel_rfl) (by kernel_rfl) (by kernel_rfl) (zG wr) ?_;have hne:=zX wr;have hS:=zG wr;have b1:=zT ca;have b2:=zT cb;repeat (refine zB ?_ ?_;(focus (simp only [zA];done));intro K hK;go_simp;refine hK _ ?_;clear hK K)
      refine zN ?_;intro hS;have hb1 : Below W.heap.size W wr.drew:=hb.drew;clear hne hS b1 b2;by_cases h1 : x < y
      · (go_wp2_with fail);go_ret;exact ⟨yE (by rw [Hdr.out,if_pos (by omega)]),hB.trans (hb1.mono hB.size)⟩
      · go_upto_region 6 with fail
        refine zE (Bel wr.drew) false (by kernel_rfl) (by kernel_rfl) (by kernel_rfl) (zG wr.drew) ?_;have hne:=zX wr.drew;have hS:=zG wr.drew;have b1:=zT (W:=wr.drew) ca;have b2:=zT (W:=wr.drew) cb;repeat (refine zB ?_ ?_;(focus (simp only [zA];done));intro K hK;go_simp;refine hK _ ?_;clear hK K)
        refine zN ?_;intro hS;clear hne hS b1 b2;by_cases h2 : y < x
        · (go_wp2_with fail);go_ret;exact ⟨yE (by rw [Hdr.out,if_neg (by omega),if_pos (by omega)]),hB.trans (hb1.drew.mono hB.size)⟩
        · (go_wp2_with fail);go_roundw
          case rel=>exact ⟨k + 1,by omega,by go_num,(show jZ _ _ = _ by rw [Hdr.out,if_neg (by omega),if_neg (by omega)]),hb1.drew⟩
          case measure=>simp [intOf];omega
    · have hk32 : k = 32:=by omega
      subst hk32;(go_wp2_with fail);go_ret;have h0:=hd.out;rw [List.drop_eq_nil_of_le (by rw [a.h];omega),List.drop_eq_nil_of_le (by rw [b.h];omega)] at h0;exact ⟨yE (by rw [← h0];rfl),hB.trans (hb.mono hB.size)⟩
end
section
open Go.RowKit
structure Row where
  key : ByteArray
  val : ByteArray
  n : Int
  id : zK
def yH (x : Row) : Array Value:=#[.string x.key] ++ #[.string x.val] ++ #[.int .i64 x.n] ++ idC x.id
@[simp] theorem uN (x : Row) : (yH x).size = 35:=by simp [yH]
@[go_sem] theorem rowC_g0 (x : Row) : (yH x)[0]? = some (.string x.key):=by first | (simp [yH,Array.getElem?_append];done) | (rw [show yH x = ((#[] : Array Value)) ++ #[.string x.key] ++ (#[.string x.val] ++ #[.int .i64 x.n] ++ idC x.id) from by apply Array.ext';simp [yH]];exact qH _ _ _ _ (by simp))
@[go_sem] theorem cE (x : Row) : (yH x)[1]? = some (.string x.val):=by first | (simp [yH,Array.getElem?_append];done) | (rw [show yH x = (#[.string x.key]) ++ #[.string x.val] ++ (#[.int .i64 x.n] ++ idC x.id) from by apply Array.ext';simp [yH]];exact qH _ _ _ _ (by simp))
@[go_sem] theorem cD (x : Row) : (yH x)[2]? = some (.int .i64 x.n):=by first | (simp [yH,Array.getElem?_append];done) | (rw [show yH x = (#[.string x.key] ++ #[.string x.val]) ++ #[.int .i64 x.n] ++ (idC x.id) from by apply Array.ext';simp [yH]];exact qH _ _ _ _ (by simp))
@[go_sem] theorem cF (x : Row) : (yH x).extract 3 35 = idC x.id:=by
  have h : yH x = (#[.string x.key] ++ #[.string x.val] ++ #[.int .i64 x.n]) ++ idC x.id ++ ((#[] : Array Value)):=by first | (simp [yH,Array.append_assoc];done) | (apply Array.ext';simp [yH];done)
  rw [h];exact fD _ _ _ _ _ (by simp) (by simp)
@[go_sem] theorem rowC_all (x : Row) : (yH x).extract 0 35 = yH x:=by have:=Array.extract_size (xs:=yH x);rwa [uN] at this
theorem j9 (x : Row) : ∀ u ∈ (yH x).toList,u.oneCell' = true:=by
  intro u hu;simp only [yH,Array.toList_append,List.mem_append] at hu;rcases hu with ((hu | hu) | hu) | hu
  · simp at hu;subst hu;rfl
  · simp at hu;subst hu;rfl
  · simp at hu;subst hu;rfl
  · exact xW _ u hu
def ZJ : Row:=⟨⟨#[]⟩,⟨#[]⟩,0,id0⟩
theorem Row_ext {x y : Row} (h : x.key = y.key ∧ x.val = y.val ∧ x.n = y.n ∧ x.id = y.id) : x = y:=by cases x;cases y;simp_all
instance : DecidableEq Row:=fun x y=>if h : x.key = y.key ∧ x.val = y.val ∧ x.n = y.n ∧ x.id = y.id then isTrue (Row_ext h) else isFalse (fun e=>h (by subst e;simp))
theorem infoRow : (Tryz.prog.info? 207).map (·.size) = some 35:=by kernel_rfl
@[go_sem ↓] theorem eK (w : World) : (zeroValue 207).run Tryz.prog w = .ok (.agg (yH ZJ)) w:=by
  have h : (Tryz.prog.info? 207).bind (·.zero) = some (.agg (yH ZJ)):=by kernel_rfl
  cases hi : Tryz.prog.info? 207 with
  | none=>rw [hi] at h;cases h
  | some i =>
    rw [hi] at h;have hz : i.zero = some (.agg (yH ZJ)):=h;simp [zeroValue,typeInfo,hi,hz]
@[go_sem ↓] theorem loadRow_rw (a : Addr) : loadVar 207 a = ldS 207 a:=rfl
@[go_sem ↓] theorem storeRow_rw (a : Addr) (v : Value) : storeVar 207 a v = stS 207 a v:=rfl
@[go_sem] theorem loadRow_run (w : World) (g o : Nat) : (ldS 207 ⟨g,o,none⟩).run Tryz.prog w = match zF w g o 35 with | some cs=>.ok (.agg cs) w | none=>(loadVar 207 ⟨g,o,none⟩).run Tryz.prog w :=
  vU Tryz.underlying207 rfl infoRow w g o
theorem QM : Tryz.prog.underlying 207 = some (.struct (Tryz.prog.fieldsOf 207)):=by kernel_rfl
theorem XY (w : World) : ((Tryz.prog.fieldsOf 207).mapM fun (f : Field)=>do pure (f.offset,← sizeOf f.type)).run Tryz.prog w = .ok #[(0,1),(1,1),(2,1),(3,32)] w:=by kernel_rfl
@[go_sem ↓] theorem buildRow_rw (parts : Array (Nat × Value)) : Instr.build 207 parts = bdS 207 parts:=rfl
def rowOk (x : Row) : Prop:=x.key.size ≤ maxLen ∧ x.val.size ≤ maxLen ∧ (Lit.int .i64 x.n).wf = true ∧ True
@[go_sem] theorem B2 (a0 : ByteArray) (a1 : ByteArray) (a2 : Int) (a3 : zK) (w : World) : (bdS 207 #[(0,.string a0),(1,.string a1),(2,.int .i64 a2),(3,.agg (idC a3))]).run Tryz.prog w = .ok (.agg (yH ⟨a0,a1,a2,a3⟩)) w:=by
  refine jE w QM _ (eK w) _ (XY w) [(0,.string a0),(1,.string a1),(2,.int .i64 a2),(3,.agg (idC a3))] _ ?_;rw [show yH ZJ = (#[] : Array Value) ++ #[.string ⟨#[]⟩] ++ (#[.string ⟨#[]⟩] ++ (#[.int .i64 0] ++ (idC id0))) from by first | (simp [yH,ZJ,Array.append_assoc];done) | (apply Array.ext';simp [yH,ZJ])];rw [yQ (off:=0) (size:=1) rfl (by simp) (by simp) (by simp [Value.cells])];rw [show (#[] : Array Value) ++ (Value.string a0).cells ++ (#[.string ⟨#[]⟩] ++ (#[.int .i64 0] ++ (idC id0))) = (#[.string a0]) ++ #[.string ⟨#[]⟩] ++ (#[.int .i64 0] ++ (idC id0)) from by first | (simp [Value.cells,Array.append_assoc];done) | (apply Array.ext';simp [Value.cells];done) | (apply Array.ext';simp only [Array.toList_append];simp [Value.cells])];rw [yQ (off:=1) (size:=1) rfl (by simp) (by simp) (by simp [Value.cells])];rw [show (#[.string a0]) ++ (Value.string a1).cells ++ (#[.int .i64 0] ++ (idC id0)) = (#[.string a0] ++ (#[.string a1])) ++ #[.int .i64 0] ++ (idC id0) from by first | (simp [Value.cells,Array.append_assoc];done) | (apply Array.ext';simp [Value.cells];done) | (apply Array.ext';simp only [Array.toList_append];simp [Value.cells])];rw [yQ (off:=2) (size:=1) rfl (by simp) (by simp) (by simp [Value.cells])];rw [show (#[.string a0] ++ (#[.string a1])) ++ (Value.int .i64 a2).cells ++ (idC id0) = (#[.string a0] ++ (#[.string a1] ++ (#[.int .i64 a2]))) ++ idC id0 ++ (#[] : Array Value) from by first | (simp [Value.cells,Array.append_assoc];done) | (apply Array.ext';simp [Value.cells];done) | (apply Array.ext';simp only [Array.toList_append];simp [Value.cells])];rw [yQ (off:=3) (size:=32) rfl (by simp) (by simp) (by simp [Value.cells])];first | (simp [Instr.fill,yH,Array.append_assoc,Value.cells];done) | (simp only [Instr.fill,yH];congr 1;apply Array.ext';simp [Value.cells];done) | (simp only [Instr.fill,yH];congr 1;done) | (simp only [Instr.fill,yH];done)
abbrev jT (w : World) (A : Option Addr) (n : Nat) (R : List Row) : Prop:=SlR w A n 35 (R.map yH)
theorem jT.get {w : World} {A : Option Addr} {n : Nat} {R : List Row} (h : jT w A n R) {i : Nat} (hi : i < n) (hR : i < R.length) :
    ∃ g o,A = some ⟨g,o,none⟩ ∧ zF w g (o + i * 35) 35 = some (yH R[i]) ∧ w.cell? ⟨g,o + i * 35,none⟩ = some (.string (R[i]).key) ∧ w.cell? ⟨g,o + i * 35 + 1,none⟩ = some (.string (R[i]).val) ∧
      w.cell? ⟨g,o + i * 35 + 2,none⟩ = some (.int .i64 (R[i]).n) ∧ zF w g (o + i * 35 + 3) 32 = some (idC (R[i]).id):=by
  obtain ⟨g,o,e,hr⟩:=h.at_ hi;rw [List.getElem_map] at hr;refine ⟨g,o,e,hr,?_,?_,?_,?_⟩
  · have:=zD hr (j:=0) (by omega)
    rwa [rowC_g0] at this
  · have:=zD hr (j:=1) (by omega)
    rwa [cE] at this
  · have:=zD hr (j:=2) (by omega)
    rwa [cD] at this
  · have:=y7 hr (j:=3) (m:=32) (by omega)
    rwa [cF] at this
theorem jT.len {w : World} {A : Option Addr} {n : Nat} {R : List Row} (h : jT w A n R) : R.length = n:=by simpa using h.1
end
section
open Go.RowKit
theorem kT {a b : List UInt8} (h : a = b) : (Ending.returned (.string ⟨a.toArray⟩) : Ending) = .returned (.string ⟨b.toArray⟩):=by rw [h]
theorem jV {w : World} {q o c : Nat} {d : zK} (h : zF w q o 32 = some (idC d)) : (convert 37 9 (.slice (some ⟨q,o,none⟩) 32 c)).run Tryz.prog w = .ok (.string ⟨d.l.toArray⟩) w:=by
  have:=run_convert_bytes_back (P:=Tryz.prog) w 37 9 5 ⟨q,o,none⟩ c d.l Tryz.underlying37 Tryz.underlying5 Tryz.underlying9 (fun j hj=>by
    have hadd : (⟨q,o,none⟩ : Addr).add j = ⟨q,o + j,none⟩:=by unfold Addr.add;split <;> simp_all
    have hd:=d.h;rw [hadd,zD h (by omega)];simp [idC,v9,hj])
  rwa [d.h] at this
end
section
open Go.RowKit
def bK (p : jK) : List UInt8:=beL 1 p.1.size ++ (p.1.data.toList ++ (beL 1 p.2.val.size ++ (p.2.val.data.toList ++ (beL 4 p.2.n.toNat ++ p.2.id.l))))
def dW (L : List jK) : List UInt8:=beL 4 L.length ++ L.flatMap bK
theorem eZ {p : jK} (h : qT p.1 p.2 = 0) : (bK p).length ≤ 70:=by
  have:=kO h;have h1 : p.1.data.toList.length = p.1.size:=Array.length_toList;have h2 : p.2.val.data.toList.length = p.2.val.size:=Array.length_toList;have h3:=p.2.id.h;simp only [bK,List.length_append,yC,h1,h2,h3];omega
theorem gK : ∀ (L : List jK),(∀ p ∈ L,qT p.1 p.2 = 0) → (L.flatMap bK).length ≤ 70 * L.length
  | [],_=>by simp
  | p :: L,h=>by
    have h1:=eZ (h p (by simp));have h2:=gK L (fun q hq=>h q (by simp [hq]));simp only [List.flatMap_cons,List.length_append,List.length_cons];omega
theorem xO.len {w : World} {g b : Nat} {L : List jK} (h : xO w g b L) (ty : TypeId) : (Builtin.len_ #[175] ty #[.map (some b)]).run Tryz.prog w = .ok (.int .i64 L.length) w:=by
  obtain ⟨M,es,clk,hm,hp⟩:=h.map;rw [← hp.length_eq];exact hm.len Tryz.underlying175 rfl
set_option maxRecDepth 100000 in
set_option maxHeartbeats 4000000 in
theorem lput (w : World) (g b : Nat) (L : List jK) (h : xO w g b L) (hn : L.length ≤ 1000000) :
    Calls Tryz.prog 342 #[.pointer (some ⟨g,0,none⟩)] w fun e w'=>e = .returned (.string ⟨(dW L).toArray⟩) ∧ Below w.heap.size w w':=by
  have hc:=h.cell;go_enter Tryz.func342,Tryz.ntmps342
  (go_wp2_with fail);refine (bD _ _ _ hc).mono ?_;rintro e w' ⟨rfl,rfl⟩;go_upto_region 3 with fail
  have hlen : ∀ (x : Subtype (Bel w)) (ty : TypeId),(Builtin.len_ #[175] ty #[.map (some b)]).run Tryz.prog x.1 = .ok (.int .i64 L.length) x.1:=fun x ty=>(h.below x.2).len ty;refine zE (Bel w) false (by kernel_rfl) (by kernel_rfl) (by kernel_rfl) (zG w) ?_;have hne:=zX w;have hS:=zG w;have b1:=zT hc;refine zH ?_ ?_ ?_;(focus (exact hS));(focus (simp only [zA];done));intro K hK;go_simp;refine (pQ _).mono ?_;rintro e w1 ⟨rfl,hw1,hb1⟩;replace hS:=yJ hS hb1;have hg1 : w.drew.heap.size = w.heap.size:=rfl;rw [hg1] at hw1 ⊢;clear hb1;refine ⟨_,rfl,hS,hK _ _ ?_⟩;clear hK K;repeat (refine zB ?_ ?_;(focus (simp only [zA];done));intro K hK;go_simp;refine hK _ ?_;clear hK K)
  refine zH ?_ ?_ ?_;(focus (exact hS));(focus (simp only [zA];done));intro K hK;go_simp;refine (gR _ _ _ _ _ _ hw1 L.length 4 (by omega) (by omega) (by simp)).mono ?_;rintro e w2 ⟨rfl,A2,cap2,hw2,hk2,hsub2⟩;have hS2 : Below w.heap.size w w2:=hS.trans (hk2.below hS.size (by simp [blk]));refine ⟨_,rfl,hS2,hK _ _ ?_⟩;clear hK K hS;repeat (refine zB ?_ ?_;(focus (simp only [zA];done));intro K hK;go_simp;refine hK _ ?_;clear hK K)
  refine zN ?_;intro hS;simp only [List.nil_append] at hw2;have hB : w.heap.size + 1 ≤ w2.heap.size:=hw2.base;have h2:=h.below hS2;have hc2:=h2.cell;clear hw1 hk2 hsub2 hne b1 hlen hc hS;(go_wp2_with fail);refine (lkeys _ _ _ _ h2 hn).mono ?_;rintro e w3 ⟨v,rfl,hrow,hb3⟩;obtain ⟨KA,kc,rfl,hkeys⟩:=eY hrow rfl;have h3:=h2.below hb3;have hw3:=hw2.below hb3;have hS3:=yN hS2 hb3;have Hk:=Lib.hid hkeys;have Hb3:=Lib.hid hb3;have hq3 : w.heap.size < w3.heap.size:=by have:=hb3.size;omega
  clear hkeys hrow hc2 h2 hb3 hS2;(go_wp2_with fail);go_loopw [24] (fun i wr=>∃ k : Nat,k ≤ L.length ∧ i = .int .i64 (k : Nat) ∧ vL w3 (w.heap.size + 1) w.heap.size A2 (beL 4 L.length ++ (L.take k).flatMap bK) wr) (fun i _=>L.length - (intOf i).toNat)
  case atStart=>exact ⟨0,Nat.zero_le _,rfl,A2,cap2,by simpa using hw3,zC.refl _ _,fun x hx=>.inl hx⟩
  case round =>
    obtain ⟨k,hk,rfl,A4,cap4,hw4,hk4,hsub4⟩:=hrel;have hgS : g ∉ w.heap.size :: blk A2:=by
      simp only [List.mem_cons,not_or];exact ⟨by have:=h.lt.1;omega,fun hx=>by have:=(hw2.own.at_base hx).1;have:=h.lt.1;omega⟩
    have hbS : b ∉ w.heap.size :: blk A2:=by
      simp only [List.mem_cons,not_or];exact ⟨by have:=h.lt.2;omega,fun hx=>by have:=(hw2.own.at_base hx).1;have:=h.lt.2;omega⟩
    have h4:=h3.kept hk4 hgS hbS;have hc4:=h4.cell;have hbl:=gK (L.take k) (fun p hp=>h.rows.2 p (List.mem_of_mem_take hp));have htl : (L.take k).length = k:=by simp;omega
    rw [htl] at hbl;by_cases hlt : k < L.length
    · obtain ⟨q,rfl,hq2,hqw,hkeys⟩ : ∃ q,KA = some ⟨q,0,none⟩ ∧ w2.heap.size ≤ q ∧ q < w3.heap.size ∧ Hid (∀ i (hi : i < L.length),w3.cell? ⟨q,i,none⟩ = some (.string (L[i]).1)):=by
        rcases Hk.out with ⟨_,h0⟩ | h
        · omega
        · exact h
      have hqS : q ∉ w.heap.size :: blk A2:=by
        simp only [List.mem_cons,not_or];exact ⟨by omega,fun hx=>by have:=(hw2.own.at_base hx).2;omega⟩
      have hcell:=(hk4.cell (p:=⟨q,k,none⟩) hqw hqS).trans (hkeys.out k hlt);have hl:=h4.look1 (List.getElem_mem hlt);have hcheck:=h.rows.2 _ (List.getElem_mem hlt);have htk : (L.take (k + 1)).flatMap bK = (L.take k).flatMap bK ++ bK L[k]:=by rw [List.take_add_one,List.getElem?_eq_getElem hlt,List.flatMap_append];simp only [Option.toList_some,List.flatMap_cons,List.flatMap_nil,List.append_nil]
      have Htk:=Lib.hid htk;clear htk hkeys Hk;obtain ⟨⟨pk,pv,pn,pid⟩,hp⟩ : ∃ p,L[k] = p:=⟨_,rfl⟩
      have Hp:=Lib.hid hp;rw [hp] at hcell hl Htk hcheck;obtain ⟨ck,cv,cn0,cn1⟩:=kO hcheck;simp only at ck cv cn0 cn1;obtain ⟨nn,rfl⟩ : ∃ nn : Nat,pn = nn:=⟨pn.toNat,by omega⟩
      clear hp hcheck;have hbl0 : (beL 4 L.length ++ List.flatMap bK (List.take k L)).length ≤ 70000004:=by rw [List.length_append,yC];omega
      obtain ⟨bs0,hbs0⟩ : ∃ bs0,beL 4 L.length ++ List.flatMap bK (List.take k L) = bs0:=⟨_,rfl⟩
      have Hbs0:=Lib.hid hbs0;rw [hbs0] at hw4 hbl0;have e1 : pk.data.toList.length = pk.size:=Array.length_toList;have e2 : pv.data.toList.length = pv.size:=Array.length_toList;have e3 : (⟨pid.l.toArray⟩ : ByteArray).size = 32:=by show pid.l.toArray.size = 32;simp [pid.h]
      have E1:=Lib.hid e1;have E2:=Lib.hid e2;have E3:=Lib.hid e3;clear hbs0 e1 e2 e3;go_upto_region 8 with fail
      have hw5:=hw4.below (w':=wr.alloc (.cells (y6 ⟨pv,nn,pid⟩) 180)) ((Below.refl _ _).alloc (Nat.le_refl _) _);have hbox : zF (wr.alloc (.cells (y6 ⟨pv,nn,pid⟩) 180)) wr.heap.size 0 34 = some (y6 ⟨pv,nn,pid⟩):=by simp [go_sem]
      have hk5 : zC [] wr (wr.alloc (.cells (y6 ⟨pv,nn,pid⟩) 180)):=zC.alloc _ _;have hbS : wr.heap.size ∉ w.heap.size :: blk A4:=by
        simp only [List.mem_cons,not_or];exact ⟨by have:=hk4.size;omega,fun hx=>by have:=(hw4.own.at_base hx).2;omega⟩
      generalize wr.alloc (.cells (y6 ⟨pv,nn,pid⟩) 180) = W at *;have hx0 : W.cell? ⟨wr.heap.size,0,none⟩ = some (.string pv):=by have:=zD hbox (j:=0) (by omega);rwa [lY] at this
      have hx1 : W.cell? ⟨wr.heap.size,1,none⟩ = some (.int .i64 nn):=by have:=zD hbox (j:=1) (by omega);rwa [lX] at this
      have hx2 : zF W wr.heap.size 2 32 = some (idC pid):=by have:=y7 hbox (j:=2) (m:=32) (by omega);rwa [eV] at this
      have hconv : ∀ (x : Subtype (Kp (w.heap.size :: blk A4) W)) c,(convert 37 9 (.slice (some ⟨wr.heap.size,2,none⟩) 32 c)).run Tryz.prog x.1 = .ok (.string ⟨pid.l.toArray⟩) x.1:=fun x c=>jV (yP hx2 hbS x);have hst : vL W (w.heap.size + 1) w.heap.size A4 bs0 W.drew:=⟨A4,cap4,hw5.kept (zC.drew W) (by simp) (by simp),(zC.drew W).mono (by simp),fun x hx=>.inl hx⟩
      refine zE (Kp (w.heap.size :: blk A4) W) false (by kernel_rfl) (by kernel_rfl) (by kernel_rfl) (yB (w.heap.size :: blk A4) W) ?_;have hne:=xD (w.heap.size :: blk A4) W;have hS:=yB (w.heap.size :: blk A4) W;have b1:=zZ hx0 hbS;have b2:=zZ hx1 hbS;clear hcell hl hc4 hx0 hx1 hx2 hbox;repeat (refine zB ?_ ?_;(focus (simp only [zA];done));intro K hK;go_simp;refine hK _ ?_;clear hK K)
      refine zH ?_ ?_ ?_;(focus (exact hS));(focus (simp only [zA];done));intro K hK;go_simp;obtain ⟨Ai,capi,hwi,hki,hsubi⟩:=hst;refine (gR _ _ _ _ _ _ hwi pk.size 1 (by omega) (by omega) (by omega)).mono ?_;rintro e w' ⟨rfl,hst'⟩;replace hst:=y9 hwi hki hsubi hst';have hS:=hst.choose_spec.choose_spec.2.1;refine ⟨_,rfl,hS,hK _ _ ?_⟩;clear hK K hwi hki hsubi hst';repeat (refine zB ?_ ?_;(focus (simp only [zA];done));intro K hK;go_simp;refine hK _ ?_;clear hK K)
      refine zH ?_ ?_ ?_;(focus (exact hS));(focus (simp only [zA];done));intro K hK;go_simp;obtain ⟨Ai,capi,hwi,hki,hsubi⟩:=hst;refine (fO _ _ _ _ _ _ hwi pk (by simp only [List.length_append,yC];omega)).mono ?_;rintro e w' ⟨rfl,hst'⟩;replace hst:=y9 hwi hki hsubi hst';have hS:=hst.choose_spec.choose_spec.2.1;refine ⟨_,rfl,hS,hK _ _ ?_⟩;clear hK K hwi hki hsubi hst';repeat (refine zB ?_ ?_;(focus (simp only [zA];done));intro K hK;go_simp;refine hK _ ?_;clear hK K)
      refine zH ?_ ?_ ?_;(focus (exact hS));(focus (simp only [zA];done));intro K hK;go_simp;obtain ⟨Ai,capi,hwi,hki,hsubi⟩:=hst;refine (gR _ _ _ _ _ _ hwi pv.size 1 (by omega) (by omega) (by simp only [List.length_append,yC,E1.out];omega)).mono ?_;rintro e w' ⟨rfl,hst'⟩;replace hst:=y9 hwi hki hsubi hst';have hS:=hst.choose_spec.choose_spec.2.1;refine ⟨_,rfl,hS,hK _ _ ?_⟩;clear hK K hwi hki hsubi hst';repeat (refine zB ?_ ?_;(focus (simp only [zA];done));intro K hK;go_simp;refine hK _ ?_;clear hK K)
      refine zH ?_ ?_ ?_;(focus (exact hS));(focus (simp only [zA];done));intro K hK;go_simp;obtain ⟨Ai,capi,hwi,hki,hsubi⟩:=hst;refine (fO _ _ _ _ _ _ hwi pv (by simp only [List.length_append,yC,E1.out];omega)).mono ?_;rintro e w' ⟨rfl,hst'⟩;replace hst:=y9 hwi hki hsubi hst';have hS:=hst.choose_spec.choose_spec.2.1;refine ⟨_,rfl,hS,hK _ _ ?_⟩;clear hK K hwi hki hsubi hst';repeat (refine zB ?_ ?_;(focus (simp only [zA];done));intro K hK;go_simp;refine hK _ ?_;clear hK K)
      refine zH ?_ ?_ ?_;(focus (exact hS));(focus (simp only [zA];done));intro K hK;go_simp;obtain ⟨Ai,capi,hwi,hki,hsubi⟩:=hst;refine (gR _ _ _ _ _ _ hwi nn 4 (by omega) (by omega) (by simp only [List.length_append,yC,E1.out,E2.out];omega)).mono ?_;rintro e w' ⟨rfl,hst'⟩;replace hst:=y9 hwi hki hsubi hst';have hS:=hst.choose_spec.choose_spec.2.1;refine ⟨_,rfl,hS,hK _ _ ?_⟩;clear hK K hwi hki hsubi hst';repeat (refine zB ?_ ?_;(focus (simp only [zA];done));intro K hK;go_simp;refine hK _ ?_;clear hK K)
      refine zH ?_ ?_ ?_;(focus (exact hS));(focus (simp only [zA];done));intro K hK;go_simp;obtain ⟨Ai,capi,hwi,hki,hsubi⟩:=hst;refine (fO _ _ _ _ _ _ hwi ⟨pid.l.toArray⟩ (by simp only [List.length_append,yC,E1.out,E2.out,E3.out];omega)).mono ?_;rintro e w' ⟨rfl,hst'⟩;replace hst:=y9 hwi hki hsubi hst';have hS:=hst.choose_spec.choose_spec.2.1;refine ⟨_,rfl,hS,hK _ _ ?_⟩;clear hK K hwi hki hsubi hst';repeat (refine zB ?_ ?_;(focus (simp only [zA];done));intro K hK;go_simp;refine hK _ ?_;clear hK K)
      refine zN ?_;intro hS;have heq : bs0 ++ beL 1 pk.size ++ pk.data.toList ++ beL 1 pv.size ++ pv.data.toList ++ beL 4 nn ++ (⟨pid.l.toArray⟩ : ByteArray).data.toList = beL 4 L.length ++ (L.take (k + 1)).flatMap bK:=by
        rw [Htk.out,← List.append_assoc,Hbs0.out];simp [bK,List.append_assoc]
      rw [heq] at hst;have hst2:=y9 hw4 hk4 hsub4 (y9 hw5 (hk5.mono (S':=w.heap.size :: blk A4) (by simp)) (fun x hx=>.inl hx) hst);have Hst:=Lib.hid hst2;clear hst hst2 heq hconv hne b1 b2;(go_wp2_with fail);go_roundw
      case rel=>exact ⟨k + 1,by omega,by go_num,Hst.out⟩
      case measure=>simp [intOf];omega
    · have hkL : k = L.length:=by omega
      subst hkL;rw [List.take_length] at hw4;(go_wp2_with fail);refine (uX _ _ _ _ _ _ hw4).mono ?_;rintro e w' ⟨rfl,rfl⟩;(go_wp2_with fail);go_ret;refine ⟨rfl,hS3.trans (hk4.below (by omega) fun x hx=>?_)⟩;rcases List.mem_cons.1 hx with rfl | hx
      · omega
      · have:=(hw2.own.at_base hx).1;omega
end
section
open Go.RowKit
def wL (x : Row) : x9:=⟨x.val,x.n,x.id⟩
def gtS (a b : ByteArray) : Bool:=!B5 a b && !(a.toList == b.toList)
theorem gtS_cmp (a b : ByteArray) : gtS a b = decide (0 < xS a b):=by
  have h1:=kB a b;have h2 : (a.toList == b.toList) = decide (xS a b = 0):=by
    rw [Bool.eq_iff_iff,beq_iff_eq,decide_eq_true_eq,fL,toList_inj]
  unfold gtS;rw [h1,h2,Bool.eq_iff_iff];simp only [Bool.and_eq_true,Bool.not_eq_true',decide_eq_false_iff_not,decide_eq_true_eq];omega
def wV (a b : Row) : Bool:=decide (b.n < a.n) || ((a.n == b.n) && (decide (0 < zO a.id b.id) || ((zO a.id b.id == 0) && gtS a.val b.val)))
theorem orL3B (i c s : Int) : decide (0 < orL [i,c,s]) = (decide (0 < i) || ((i == 0) && (decide (0 < c) || ((c == 0) && decide (0 < s))))):=by
  simp only [orL];by_cases h1 : i = 0
  · subst h1;by_cases h2 : c = 0
    · subst h2;by_cases h3 : s = 0 <;> simp [h3]
    · simp [h2]
  · simp [h1]
theorem QC (a b : Row) : wV a b = decide (0 < bY (wL a) (wL b)):=by
  have h : bY (wL a) (wL b) = orL [dS a.n b.n,zO a.id b.id,xS a.val b.val]:=rfl;have h1 : decide (0 < dS a.n b.n) = decide (b.n < a.n):=by
    rw [Bool.eq_iff_iff];simp only [decide_eq_true_eq];unfold dS;repeat' split
    all_goals omega
  have h2 : (dS a.n b.n == 0) = (a.n == b.n):=by
    rw [Bool.eq_iff_iff];simp only [beq_iff_eq];unfold dS;repeat' split
    all_goals omega
  rw [h,orL3B,h1,h2];unfold wV;rw [gtS_cmp]
set_option maxRecDepth 100000 in
set_option maxHeartbeats 2000000 in
theorem rlater (a b : Row) (w : World) : Calls Tryz.prog 219 #[.agg (yH a),.agg (yH b)] w fun e w'=>e = .returned (.bool (wV a b)) ∧ Below w.heap.size w w':=by
  have c1:=d5 a.id b.id ((w.alloc (.cells (yH a) 207)).alloc (.cells (yH b) 207));have hB : Below w.heap.size w ((w.alloc (.cells (yH a) 207)).alloc (.cells (yH b) 207)):=((Below.refl _ _).alloc (Nat.le_refl _) _).alloc (by simp) _;have ra : zF ((w.alloc (.cells (yH a) 207)).alloc (.cells (yH b) 207)) w.heap.size 0 35 = some (yH a):=by simp [go_sem]
  have rb : zF ((w.alloc (.cells (yH a) 207)).alloc (.cells (yH b) 207)) (w.heap.size + 1) 0 35 = some (yH b):=by simp [go_sem]
  go_enter Tryz.func219,Tryz.ntmps219
  go_upto_region 1 with fail
  generalize (w.alloc (.cells (yH a) 207)).alloc (.cells (yH b) 207) = W at *;have a1 : W.cell? ⟨w.heap.size,1,none⟩ = some (.string a.val):=by have:=zD ra (j:=1) (by omega);rwa [cE] at this
  have a2 : W.cell? ⟨w.heap.size,2,none⟩ = some (.int .i64 a.n):=by have:=zD ra (j:=2) (by omega);rwa [cD] at this
  have a3 : zF W w.heap.size 3 32 = some (idC a.id):=by have:=y7 ra (j:=3) (m:=32) (by omega);rwa [cF] at this
  have b1 : W.cell? ⟨w.heap.size + 1,1,none⟩ = some (.string b.val):=by have:=zD rb (j:=1) (by omega);rwa [cE] at this
  have b2 : W.cell? ⟨w.heap.size + 1,2,none⟩ = some (.int .i64 b.n):=by have:=zD rb (j:=2) (by omega);rwa [cD] at this
  have b3 : zF W (w.heap.size + 1) 3 32 = some (idC b.id):=by have:=y7 rb (j:=3) (m:=32) (by omega);rwa [cF] at this
  clear ra rb;(go_wp2_with fail);refine c1.mono ?_;rintro e W2 ⟨rfl,hb⟩;have d1:=(hb.cell (p:=⟨w.heap.size,1,none⟩) (World.block_lt_of_cell? W _ a1)).trans a1;have d2:=(hb.cell (p:=⟨w.heap.size,2,none⟩) (World.block_lt_of_cell? W _ a2)).trans a2;have e1:=(hb.cell (p:=⟨w.heap.size + 1,1,none⟩) (World.block_lt_of_cell? W _ b1)).trans b1;have e2:=(hb.cell (p:=⟨w.heap.size + 1,2,none⟩) (World.block_lt_of_cell? W _ b2)).trans b2;have hB2:=hB.trans (hb.mono hB.size);clear a1 a2 a3 b1 b2 b3 hb hB c1;go_wp2_with fail
  all_goals
    go_ret;refine ⟨yG ?_,hB2⟩
    simp_all [wV,gtS,B5]
end
section
open Go.RowKit
def gU : List Row → Row → List Row
  | [],x=>[x]
  | y :: l,x=>if xS y.key x.key < 0 then y :: gU l x else if y.key = x.key then (if wV x y then x :: l else y :: l) else x :: y :: l
def xH (l : List Row) : List Row:=l.foldl gU []
def uV (x : Row) : jK:=(x.key,wL x)
theorem iZ : ∀ (l : List Row) (x : Row),(gU l x).map uV = fC (l.map uV) x.key (wL x)
  | [],_=>rfl
  | y :: l,x=>by
    unfold gU fC;simp only [List.map_cons];have e1 : (uV y).1 = y.key:=rfl;have e2 : (uV y).2 = wL y:=rfl;rw [e1,e2];split
    · rw [List.map_cons,iZ l x]
    · split
      · have h:=QC x y;by_cases hl : 0 < bY (wL x) (wL y)
        · rw [if_pos hl,if_pos (by rw [h];exact decide_eq_true hl)];rename_i he;simp [uV,he]
        · rw [if_neg hl,if_neg (by rw [h];simp [hl])];rfl
      · rfl
theorem cW : ∀ (l : List Row) (x : Row) (k : Nat),k ≤ l.length → (∀ j (hj : j < l.length),j < k → xS (l[j]).key x.key < 0) → (∀ hk : k < l.length,¬ xS (l[k]).key x.key < 0) →
    gU l x = if h : k < l.length ∧ (l[k]?).map (·.key) = some x.key then (if wV x (l[k]'h.1) then l.set k x else l) else l.take k ++ x :: l.drop k
  | [],x,k,hk,_,_=>by
    have : k = 0:=by simpa using hk
    subst this;simp [gU]
  | y :: l,x,0,_,_,h2=>by
    have h:=h2 (by simp);simp only [List.getElem_cons_zero] at h;unfold gU;rw [if_neg h];by_cases he : y.key = x.key
    · rw [if_pos he,dif_pos ⟨by simp,by simp [he]⟩];rfl
    · rw [if_neg he,dif_neg (by simp [he])];rfl
  | y :: l,x,k + 1,hk,h1,h2=>by
    have h:=h1 0 (by simp) (by omega);simp only [List.getElem_cons_zero] at h;unfold gU;rw [if_pos h];have ih:=cW l x k (by simpa using hk) (fun j hj hjk=>by have:=h1 (j + 1) (by simpa using hj) (by omega);simpa using this) (fun hk'=>by have:=h2 (by simpa using hk');simpa using this);rw [ih];by_cases hc : k < l.length ∧ (l[k]?).map (·.key) = some x.key
    · rw [dif_pos hc,dif_pos ⟨by simpa using hc.1,by simpa using hc.2⟩];simp only [List.getElem_cons_succ,List.set_cons_succ];split <;> rfl
    · rw [dif_neg hc,dif_neg (fun hh=>hc ⟨by simpa using hh.1,by simpa using hh.2⟩)]
      simp
theorem a9 (l : List Row) (x : Row) : (gU l x).length ≤ l.length + 1:=by
  induction l with
  | nil=>simp [gU]
  | cons y l ih =>
    unfold gU
    repeat' split
    all_goals simp;try omega
theorem tM (l : List Row) (x : Row) : xH (l ++ [x]) = gU (xH l) x:=by simp [xH]
theorem tT : ∀ (l a : List Row),(l.foldl gU a).length ≤ a.length + l.length
  | [],a=>by simp
  | x :: l,a=>by
    have h1:=tT l (gU a x);have h2:=a9 a x;simp only [List.foldl_cons,List.length_cons];omega
theorem g6 (l : List Row) : (xH l).length ≤ l.length:=by have:=tT l [];simpa [xH] using this
end
section
open Go.RowKit
set_option maxHeartbeats 1000000 in
theorem rK (w : World) (A : Option Addr) (n cap : Nat) (R : List zK) (d : zK) (h : y4 w A n R) (hn : n ≤ 9223372036854775807) :
    Calls Tryz.prog 36 #[.slice A n cap,.agg (idC d)] w fun e w'=>e = .returned (.bool (decide (d ∈ R))) ∧ Below w.heap.size w w':=by
  have hlen:=h.len;have hB : Below w.heap.size w (w.alloc (.cells (idC d) 39)):=(Below.refl _ _).alloc (Nat.le_refl _) _;have hd0 : zF (w.alloc (.cells (idC d) 39)) w.heap.size 0 32 = some (idC d):=by simp [go_sem]
  have Hlen:=Lib.hid hlen;clear hlen;go_enter Tryz.func36,Tryz.ntmps36
  (go_wp2_with fail);generalize w.alloc (.cells (idC d) 39) = W at *;go_loopw [5] (fun i wr=>∃ k : Nat,k ≤ n ∧ i = .int .i64 k ∧ Hid (d ∉ R.take k) ∧ Below W.heap.size W wr) (fun i _=>n - (intOf i).toNat)
  case atStart=>exact ⟨0,Nat.zero_le _,rfl,(show d ∉ R.take 0 by simp),Below.refl _ _⟩
  case round =>
    obtain ⟨k,hk,rfl,hno,hb⟩:=hrel;by_cases hlt : k < n
    · obtain ⟨q,o,rfl,hr⟩:=y4.get (SlR.below (SlR.below h hB) hb) hlt (by rw [Hlen.out];exact hlt);have hdr : zF wr w.heap.size 0 32 = some (idC d):=(zI (hb.block _ (zL hd0)) _ _).trans hd0;have htk : R.take (k + 1) = R.take k ++ [R[k]'(by rw [Hlen.out];exact hlt)]:=by rw [List.take_add_one,List.getElem?_eq_getElem (by rw [Hlen.out];exact hlt)];rfl
      have hmem : R[k]'(by rw [Hlen.out];exact hlt) ∈ R:=List.getElem_mem _;obtain ⟨x,hx⟩ : ∃ x,R[k]'(by rw [Hlen.out];exact hlt) = x:=⟨_,rfl⟩
      rw [hx] at hr htk hmem;have Htk:=Lib.hid htk;have Hm:=Lib.hid hmem;clear hx htk hmem;go_upto_region 4 with fail
      refine zE (Bel wr) false (by kernel_rfl) (by kernel_rfl) (by kernel_rfl) (zG wr) ?_;have hne:=zX wr;have hS:=zG wr;have b1:=yD hr;have b2:=yD hdr;repeat (refine zB ?_ ?_;(focus (simp only [zA];done));intro K hK;go_simp;refine hK _ ?_;clear hK K)
      refine zN ?_;intro hS;clear hne hS b1 b2 hr hdr;go_wp2_with fail
      · have he : (x == d) = true:=by assumption
        have e : x = d:=by simpa using he
        have Hin : Hid (decide (d ∈ R) = true):=decide_eq_true (by rw [← e];exact Hm.out);clear e;go_ret;exact ⟨yG (by rw [Hin.out]),hB.trans (hb.drew.mono hB.size)⟩
      · have he : (x == d) = false:=by assumption
        have e : ¬ x = d:=by simpa using he
        have hno' : Hid (d ∉ R.take (k + 1)):=by
          show _;rw [Htk.out,List.mem_append,List.mem_singleton];rintro (h1 | h1)
          · exact hno.out h1
          · exact e h1.symm
        clear e;go_roundw
        case rel=>exact ⟨k + 1,by omega,by go_num,hno',hb.drew⟩
        case measure=>simp [intOf];omega
    · have hall : d ∉ R:=by
        have:=hno.out
        rwa [List.take_of_length_le (by rw [Hlen.out];omega)] at this
      have Hn : Hid (decide (d ∈ R) = false):=decide_eq_false hall;clear hall;(go_wp2_with fail);go_ret;exact ⟨yG (by rw [Hn.out]),hB.trans (hb.mono hB.size)⟩
end
section
open Go.RowKit
theorem KH : (Tryz.prog.info? 218).map (·.size) = some 33:=by kernel_rfl
@[go_sem ↓] theorem sP (w : World) : (zeroValue 218).run Tryz.prog w = .ok (.agg (zU gA)) w:=by
  have h : (Tryz.prog.info? 218).bind (·.zero) = some (.agg (zU gA)):=by kernel_rfl
  cases hi : Tryz.prog.info? 218 with
  | none=>rw [hi] at h;cases h
  | some i =>
    rw [hi] at h;have hz : i.zero = some (.agg (zU gA)):=h;simp [zeroValue,typeInfo,hi,hz]
@[go_sem ↓] theorem loadRRow_rw (a : Addr) : loadVar 218 a = ldS 218 a:=rfl
@[go_sem ↓] theorem storeRRow_rw (a : Addr) (v : Value) : storeVar 218 a v = stS 218 a v:=rfl
@[go_sem] theorem loadRRow_run (w : World) (g o : Nat) : (ldS 218 ⟨g,o,none⟩).run Tryz.prog w = match zF w g o 33 with | some cs=>.ok (.agg cs) w | none=>(loadVar 218 ⟨g,o,none⟩).run Tryz.prog w :=
  vU Tryz.underlying218 rfl KH w g o
theorem nU : Tryz.prog.underlying 218 = some (.struct (Tryz.prog.fieldsOf 218)):=by kernel_rfl
theorem ZR (w : World) : ((Tryz.prog.fieldsOf 218).mapM fun (f : Field)=>do pure (f.offset,← sizeOf f.type)).run Tryz.prog w = .ok #[(0,32),(32,1)] w:=by kernel_rfl
@[go_sem ↓] theorem buildRRow_rw (parts : Array (Nat × Value)) : Instr.build 218 parts = bdS 218 parts:=rfl
@[go_sem] theorem buildRRow (a0 : zK) (a1 : ByteArray) (w : World) : (bdS 218 #[(0,.agg (idC a0)),(1,.string a1)]).run Tryz.prog w = .ok (.agg (zU ⟨a0,a1⟩)) w:=by
  refine jE w nU _ (sP w) _ (ZR w) [(0,.agg (idC a0)),(1,.string a1)] _ ?_;rw [show zU gA = (#[] : Array Value) ++ idC id0 ++ (#[.string ⟨#[]⟩]) from by first | (simp [zU,gA,Array.append_assoc];done) | (apply Array.ext';simp [zU,gA])];rw [yQ (off:=0) (size:=32) rfl (by simp) (by simp) (by simp [Value.cells])];rw [show (#[] : Array Value) ++ (Value.agg (idC a0)).cells ++ (#[.string ⟨#[]⟩]) = (idC a0) ++ #[.string ⟨#[]⟩] ++ (#[] : Array Value) from by first | (simp [Value.cells,Array.append_assoc];done) | (apply Array.ext';simp [Value.cells];done) | (apply Array.ext';simp only [Array.toList_append];simp [Value.cells])];rw [yQ (off:=32) (size:=1) rfl (by simp) (by simp) (by simp [Value.cells])];first | (simp [Instr.fill,zU,Array.append_assoc,Value.cells];done) | (simp only [Instr.fill,zU];congr 1;apply Array.ext';simp [Value.cells];done) | (simp only [Instr.fill,zU];congr 1;done) | (simp only [Instr.fill,zU];done)
theorem xZ : xF Tryz.prog 58 218 33 48 :=
  .of (z:=.agg (zU gA)) Tryz.underlying58 (by kernel_rfl) (by kernel_rfl) (by kernel_rfl) (vS _) (by omega)
@[go_sem ↓] theorem bsRRow_rw (n : Nat) (parts : Array (Nat × Value)) : Instr.buildSlice 58 n parts = bsS 58 n parts:=rfl
@[go_sem] theorem bsRRow_run (w : World) (x : yT) : (bsS 58 1 #[(0,.agg (zU x))]).run Tryz.prog w = .ok (.slice (some ⟨w.heap.size,0,none⟩) 1 1) (w.alloc (.cells (zU x) 218)) :=
  kS xZ (by omega) w (zU x) (vS x)
@[go_sem] theorem bsRRow0_run (w : World) : (bsS 58 0 #[]).run Tryz.prog w = .ok (.slice (some ⟨w.heap.size,0,none⟩) 0 0) (w.alloc (.cells #[] 218)):=fV xZ w
@[go_sem ↓] theorem slRRow_rw (x : Value) (lo hi mx : Option Value) : Instr.sliceAt 58 x lo hi mx = slS 58 x lo hi mx:=rfl
def lE (x y : yT) : Bool:=(x.tag == y.tag) && (x.val.toList == y.val.toList)
theorem XP (x y : yT) : lE x y = decide (x = y):=by
  unfold lE;rw [Bool.eq_iff_iff];simp only [Bool.and_eq_true,beq_iff_eq,toList_inj,decide_eq_true_eq];exact ⟨fun h=>Z3 h,fun h=>by subst h;exact ⟨rfl,rfl⟩⟩
theorem QN (x y : yT) (w : World) : (Op.equalIn 10000 218 (.agg (zU x)) (.agg (zU y))).run Tryz.prog w = .ok (lE x y) w:=by
  rw [show (10000 : Nat) = 9999 + 1 from rfl,run_equalIn_agg w 9999 218 _ _ nU (by kernel_rfl)];unfold lE;have e1:=eD 9997 x.tag y.tag w;have e2:=run_equalIn_string (P:=Tryz.prog) w 9998 9 x.val y.val Tryz.underlying9;simp only [Program.fieldsOf,Tryz.underlying218];simp [Op.eqFields,part,asAgg,isAgg,go_sem,Tryz.underlying9,Tryz.underlying39,e1,e2];cases h1 : (x.tag == y.tag) <;> cases h2 : (x.val.toList == y.val.toList) <;> simp_all
@[go_sem ↓] theorem eqRRow_run (x y : yT) (w : World) : (Op.equalIn 10000 218 (.agg (zU x)) (.agg (zU y))).run Tryz.prog w = .ok (lE x y) w:=QN x y w
abbrev qC (w : World) (A : Option Addr) (n : Nat) (R : List yT) : Prop:=SlR w A n 33 (R.map zU)
theorem qC.len {w : World} {A : Option Addr} {n : Nat} {R : List yT} (h : qC w A n R) : R.length = n:=by simpa using h.1
theorem qC.get {w : World} {A : Option Addr} {n : Nat} {R : List yT} (h : qC w A n R) {i : Nat} (hi : i < n) (hR : i < R.length) :
    ∃ g o,A = some ⟨g,o,none⟩ ∧ zF w g (o + i * 33) 33 = some (zU R[i]) ∧ zF w g (o + i * 33) 32 = some (idC (R[i]).tag) ∧ w.cell? ⟨g,o + i * 33 + 32,none⟩ = some (.string (R[i]).val):=by
  obtain ⟨g,o,e,hr⟩:=h.at_ hi;rw [List.getElem_map] at hr;refine ⟨g,o,e,hr,?_,?_⟩
  · have:=y7 hr (j:=0) (m:=32) (by omega)
    rwa [uG] at this
  · have:=zD hr (j:=32) (by omega)
    rwa [fM] at this
set_option maxHeartbeats 1000000 in
theorem rin (w : World) (A : Option Addr) (n cap : Nat) (R : List yT) (x : yT) (h : qC w A n R) (hn : n ≤ 9223372036854775807) :
    Calls Tryz.prog 218 #[.slice A n cap,.agg (zU x)] w fun e w'=>e = .returned (.bool (decide (x ∈ R))) ∧ Below w.heap.size w w':=by
  have hlen:=h.len;have hB : Below w.heap.size w (w.alloc (.cells (zU x) 218)):=(Below.refl _ _).alloc (Nat.le_refl _) _;have hd0 : zF (w.alloc (.cells (zU x) 218)) w.heap.size 0 33 = some (zU x):=by simp [go_sem]
  have Hlen:=Lib.hid hlen;clear hlen;go_enter Tryz.func218,Tryz.ntmps218
  (go_wp2_with fail);generalize w.alloc (.cells (zU x) 218) = W at *;go_loopw [5] (fun i wr=>∃ k : Nat,k ≤ n ∧ i = .int .i64 k ∧ Hid (x ∉ R.take k) ∧ Below W.heap.size W wr) (fun i _=>n - (intOf i).toNat)
  case atStart=>exact ⟨0,Nat.zero_le _,rfl,(show x ∉ R.take 0 by simp),Below.refl _ _⟩
  case round =>
    obtain ⟨k,hk,rfl,hno,hb⟩:=hrel;by_cases hlt : k < n
    · obtain ⟨q,o,rfl,hr,_,_⟩:=qC.get (SlR.below (SlR.below h hB) hb) hlt (by rw [Hlen.out];exact hlt);have hdr : zF wr w.heap.size 0 33 = some (zU x):=(zI (hb.block _ (zL hd0)) _ _).trans hd0;have htk : R.take (k + 1) = R.take k ++ [R[k]'(by rw [Hlen.out];exact hlt)]:=by rw [List.take_add_one,List.getElem?_eq_getElem (by rw [Hlen.out];exact hlt)];rfl
      have hmem : R[k]'(by rw [Hlen.out];exact hlt) ∈ R:=List.getElem_mem _;obtain ⟨y,hy⟩ : ∃ y,R[k]'(by rw [Hlen.out];exact hlt) = y:=⟨_,rfl⟩
      rw [hy] at hr htk hmem;have Htk:=Lib.hid htk;have Hm:=Lib.hid hmem;clear hy htk hmem;obtain ⟨bb,hbb⟩ : ∃ bb,lE y x = bb:=⟨_,rfl⟩
      have hbd:=XP y x;rw [hbb] at hbd;have Hbd:=Lib.hid hbd;clear hbd;go_upto_region 4 with fail
      refine zE (Bel wr) false (by kernel_rfl) (by kernel_rfl) (by kernel_rfl) (zG wr) ?_;have hne:=zX wr;have hS:=zG wr;have b1:=yD hr;have b2:=yD hdr;repeat (refine zB ?_ ?_;(focus (simp only [zA];done));intro K hK;go_simp;refine hK _ ?_;clear hK K)
      refine zN ?_;intro hS;clear hne hS b1 b2 hr hdr hbb;cases bb with
      | true =>
        have e : y = x:=by simpa using Hbd.out.symm
        have Hin : Hid (decide (x ∈ R) = true):=decide_eq_true (by rw [← e];exact Hm.out);clear e;(go_wp2_with fail);go_ret;exact ⟨yG (by rw [Hin.out]),hB.trans (hb.drew.mono hB.size)⟩
      | false =>
        have e : ¬ y = x:=by simpa using Hbd.out.symm
        have hno' : Hid (x ∉ R.take (k + 1)):=by
          show _;rw [Htk.out,List.mem_append,List.mem_singleton];rintro (h1 | h1)
          · exact hno.out h1
          · exact e h1.symm
        clear e;(go_wp2_with fail);go_roundw
        case rel=>exact ⟨k + 1,by omega,by go_num,hno',hb.drew⟩
        case measure=>simp [intOf];omega
    · have hall : x ∉ R:=by
        have:=hno.out
        rwa [List.take_of_length_le (by rw [Hlen.out];omega)] at this
      have Hn : Hid (decide (x ∈ R) = false):=decide_eq_false hall;clear hall;(go_wp2_with fail);go_ret;exact ⟨yG (by rw [Hn.out]),hB.trans (hb.mono hB.size)⟩
theorem orC_lt (a b : Int) : orC a b < 0 ↔ a < 0 ∨ (a = 0 ∧ b < 0):=by
  unfold orC;split <;> omega
set_option maxHeartbeats 1000000 in
theorem rless (x y : yT) (w : World) : Calls Tryz.prog 223 #[.agg (zU x),.agg (zU y)] w fun e w'=>e = .returned (.bool (decide (yI x y < 0))) ∧ Below w.heap.size w w':=by
  have hB : Below w.heap.size w ((w.alloc (.cells (zU x) 218)).alloc (.cells (zU y) 218)):=((Below.refl _ _).alloc (Nat.le_refl _) _).alloc (by simp) _;have h0 : decide (yI x y < 0) = decide (zO x.tag y.tag < 0 ∨ (zO x.tag y.tag = 0 ∧ xS x.val y.val < 0)):=by
    unfold yI;rw [orL2];exact decide_eq_decide.2 (orC_lt _ _)
  have hs:=kB x.val y.val;have ra : zF ((w.alloc (.cells (zU x) 218)).alloc (.cells (zU y) 218)) w.heap.size 0 33 = some (zU x):=by simp [go_sem]
  have rb : zF ((w.alloc (.cells (zU x) 218)).alloc (.cells (zU y) 218)) (w.heap.size + 1) 0 33 = some (zU y):=by simp [go_sem]
  have H0:=Lib.hid h0;clear h0;go_enter Tryz.func223,Tryz.ntmps223
  go_upto_region 1 with fail
  generalize (w.alloc (.cells (zU x) 218)).alloc (.cells (zU y) 218) = W at *;have a1 : zF W w.heap.size 0 32 = some (idC x.tag):=by have:=y7 ra (j:=0) (m:=32) (by omega);rwa [uG] at this
  have a2 : W.cell? ⟨w.heap.size,32,none⟩ = some (.string x.val):=by have:=zD ra (j:=32) (by omega);rwa [fM,Nat.zero_add] at this
  have a3 : zF W (w.heap.size + 1) 0 32 = some (idC y.tag):=by have:=y7 rb (j:=0) (m:=32) (by omega);rwa [uG] at this
  have a4 : W.cell? ⟨w.heap.size + 1,32,none⟩ = some (.string y.val):=by have:=zD rb (j:=32) (by omega);rwa [fM,Nat.zero_add] at this
  clear ra rb;have c1:=d5 x.tag y.tag W;obtain ⟨c,hc⟩ : ∃ c,zO x.tag y.tag = c:=⟨_,rfl⟩
  rw [hc] at c1;obtain ⟨sb,hsb⟩ : ∃ sb,Op.bytesLess x.val.toList y.val.toList = sb:=⟨_,rfl⟩
  have hs' : sb = decide (xS x.val y.val < 0):=hsb.symm.trans hs;have Hc:=Lib.hid hc;have Hs:=Lib.hid hs';clear hc hs hs';(go_wp2_with fail);refine c1.mono ?_;rintro e W2 ⟨rfl,hb⟩;have d2:=(hb.cell (p:=⟨w.heap.size,32,none⟩) (World.block_lt_of_cell? W _ a2)).trans a2;have e2:=(hb.cell (p:=⟨w.heap.size + 1,32,none⟩) (World.block_lt_of_cell? W _ a4)).trans a4;have hB2:=hB.trans (hb.mono hB.size);clear a1 a2 a3 a4 hb hB c1;by_cases h1 : c < 0
  · (go_wp2_with fail);go_ret;exact ⟨yG (by rw [H0.out,Hc.out];simp [h1]),hB2⟩
  · by_cases h2 : c = 0
    · subst h2;cases sb with
      | true =>
        (go_wp2_with fail);go_ret;exact ⟨yG (by rw [H0.out,Hc.out];simpa using Hs.out.symm),hB2⟩
      | false =>
        (go_wp2_with fail);go_ret;exact ⟨yG (by rw [H0.out,Hc.out];simpa using Hs.out.symm),hB2⟩
    · have h3 : (c == 0) = false:=by rw [beq_eq_false_iff_ne];exact h2
      have Hd : Hid (decide (c < 0 ∨ (c = 0 ∧ xS x.val y.val < 0)) = false):=by
        show _ = _;rw [decide_eq_false_iff_not];rintro (h | ⟨h,_⟩)
        · exact h1 h
        · exact h2 h
      clear h2;(go_wp2_with fail);go_ret;exact ⟨yG (by rw [H0.out,Hc.out,Hd.out,decide_eq_false_iff_not];omega),hB2⟩
end
end Go.Proofs.YtgfpjjppeldhbaaGreatDoor
