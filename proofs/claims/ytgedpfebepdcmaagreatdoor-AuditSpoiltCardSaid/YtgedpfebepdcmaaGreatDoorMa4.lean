/- Part 4 of the texts that lead to this claim: the walks of the functions and the plain law, in order. -/
import Derived.Test.YtgedpfebepdcmaaGreatDoorMa3
import Derived.DeepKeys5
import Derived.StringKeys
import Derived.Maps.OwnOps
import Derived.ProofKit
import Derived.OpenShut
import Derived.JoinedCond
namespace Go.Proofs.YtgedpfebepdcmaaGreatDoor
section
open Go.RowKit
def BuZ (w : World) (B : Nat) (A : Option Addr) (n cap : Nat) (bs : List UInt8) : Prop :=
  bs.length = n ∧ ∃ g cur fz,A = some ⟨g,0,none⟩ ∧ B ≤ g ∧ w.heap[g]? = some (.cells cur 5 fz) ∧ n ≤ cap ∧ cap ≤ maxLen ∧ cur.size = cap ∧ (fz.2 = 0 ∨ cap ≤ fz.1) ∧ cur.toList.take n = bs.map byteC
theorem BuZ.conv (w : World) (B : Nat) (hB : B ≤ w.heap.size) (s : ByteArray) (hs : s.size ≤ maxLen) :
    ∃ cap,(convert 9 89 (.string s)).run Tryz.prog w = .ok (.slice (some ⟨w.heap.size,0,none⟩) s.size cap) (Go.Lib.bytesWorld w 5 s) ∧ BuZ (Go.Lib.bytesWorld w 5 s) B (some ⟨w.heap.size,0,none⟩) s.size cap s.data.toList ∧ Below w.heap.size w (Go.Lib.bytesWorld w 5 s):=by
  have hge:=grownCap_ge w s.size 0 5;have hcs : (Go.Lib.bytesCells w 5 s).size = grownCap w s.size 0 5:=by simp [Go.Lib.bytesCells];omega
  refine ⟨_,Go.Lib.run_convert_string_bytes (P:=Tryz.prog) w 9 89 5 s Tryz.underlying9 Tryz.underlying89 Tryz.underlying5,⟨rfl,w.heap.size,_,_,rfl,hB,Go.Lib.bytesWorld_at_new w _ s,hge,grownCap_le_maxLen w _ _ _ hs,hcs,.inr (by rw [hcs];exact Nat.le_refl _),?_⟩,?_⟩
  · have e : s.size = (s.data.toList.map byteC).length:=by simp
    show ((Go.Lib.bytesCells w 5 s).toList).take s.size = _;rw [show (Go.Lib.bytesCells w 5 s).toList = s.data.toList.map byteC ++ List.replicate (grownCap w s.size 0 5 - s.size) (.int .u8 0) by simp [Go.Lib.bytesCells,byteC],e,List.take_left]
  · exact ⟨rfl,rfl,rfl,by rw [Go.Lib.bytesWorld_size];omega,fun k hk=>Go.Lib.bytesWorld_at_old w _ s k hk⟩
theorem BuZ.at_base {w : World} {B : Nat} {A : Option Addr} {n cap : Nat} {bs : List UInt8} (h : BuZ w B A n cap bs) : ∀ x ∈ blk A,B ≤ x ∧ x < w.heap.size:=by
  obtain ⟨_,g,cur,fz,rfl,hb,hg,_⟩:=h;intro x hx;simp [blk] at hx;subst hx;exact ⟨hb,(Array.getElem?_eq_some_iff.1 hg).1⟩
theorem BuZ.kept {w w' : World} {B : Nat} {A : Option Addr} {n cap : Nat} {bs : List UInt8} {S : List Nat} (h : BuZ w B A n cap bs) (k : Keep S w w') (hn : ∀ x ∈ blk A,x ∉ S) : BuZ w' B A n cap bs:=by
  obtain ⟨hl,g,cur,fz,rfl,hb,hg,hr⟩:=h;exact ⟨hl,g,cur,fz,rfl,hb,(k.block g (Array.getElem?_eq_some_iff.1 hg).1 (hn g (by simp [blk]))).trans hg,hr⟩
theorem BuZ.bytes {w : World} {B : Nat} {A : Option Addr} {n cap : Nat} {bs : List UInt8} (h : BuZ w B A n cap bs) : BytesIn w A n bs:=by
  obtain ⟨hl,g,cur,fz,rfl,hb,hg,hnc,hcm,hcs,_,ht⟩:=h;refine ⟨by rw [bytesR_len];exact hl,fun _=>⟨g,0,rfl,fun i hi=>?_⟩⟩;have hi' : i < n:=by rw [bytesR_len] at hi;omega
  unfold rowAt;rw [hg];simp only [Nat.zero_add,Nat.mul_one];rw [if_pos (by omega)];congr 1
  have h1 : cur.toList[i]? = some (byteC (bs[i]'(by omega))):=by
    have h2:=congrArg (fun l=>l[i]?) ht;simp only [List.getElem?_take,if_pos hi',List.getElem?_map,List.getElem?_eq_getElem (show i < bs.length by omega),Option.map_some] at h2;exact h2
  have hic : i < cur.size:=by omega
  have h3 : cur[i]'hic = byteC (bs[i]'(by omega)):=by
    have : cur.toList[i]? = some cur[i]:=by rw [Array.getElem?_toList,Array.getElem?_eq_getElem hic]
    rw [this] at h1;exact Option.some.inj h1
  apply Array.ext
  · simp [bytesR,byteR];omega
  · intro j h4 h5;simp [bytesR,byteR] at h5;subst h5;simp [bytesR,byteR,h3]
theorem BuZ.slw {w : World} {B : Nat} {A : Option Addr} {n cap : Nat} {bs : List UInt8} (h : BuZ w B A n cap bs) : SlW w A n cap 1 (bytesR bs):=by
  have hb:=h.bytes;obtain ⟨hl,g,cur,fz,rfl,_,hg,hnc,_⟩:=h;exact ⟨hb,hnc,(fun e=>by cases e),(fun a e=>by injection e with e;rw [← e])⟩
theorem BuZ.append {w : World} {B : Nat} {A : Option Addr} {n cap : Nat} {bs : List UInt8} (h : BuZ w B A n cap bs) (q c : Nat) (x : UInt8) (hx : w.cell? ⟨q,0,none⟩ = some (byteC x)) (hn : n + 1 ≤ 1000000000) (hB : B ≤ w.heap.size) (ty : TypeId) :
    ∃ A' cap' w',(Builtin.append_ #[89,89] ty #[.slice A n cap,.slice (some ⟨q,0,none⟩) 1 c]).run Tryz.prog w = .ok (.slice A' (n + 1) cap') w' ∧ BuZ w' B A' (n + 1) cap' (bs ++ [x]) ∧ Keep (blk A) w w':=by
  obtain ⟨i,z,hi,hz,hsz,hby,hzs⟩:=einfoByte.info;obtain ⟨hl,g,cur,fz,rfl,hb,hg,hnc,hcm,hcs,hfz,ht⟩:=h;have hnews : ∀ (j : Nat) u,[byteC x][j]? = some u → w.cell? ((⟨q,0,none⟩ : Addr).add j) = some u:=by
    intro j u hu;have : j = 0:=by
      have:=(List.getElem?_eq_some_iff.1 hu).1;simp at this;exact this
    subst this;simp at hu;subst hu;exact hx
  by_cases hroom : n + 1 ≤ cap
  · have hc : w.cell? ⟨g,n,none⟩ = some (cur[n]'(by omega)):=by rw [cell_of_row w g n _ _ _ hg,Array.getElem?_eq_getElem]
    have hf : w.frozen? ⟨g,n,none⟩ = false:=by
      simp only [World.frozen?,hg];rcases hfz with h | h
      · simp;omega
      · simp;omega
    have hg2:=heap_setCell_same hg n (byteC x);refine ⟨some ⟨g,0,none⟩,cap,w.setCell ⟨g,n,none⟩ (byteC x),?_,⟨by simp [hl],g,_,fz,rfl,hb,hg2,hroom,hcm,by simp [hcs],hfz,?_⟩,Keep.setCell w ⟨g,n,none⟩ _⟩
    · have hfc:=run_firstCells_some (P:=Tryz.prog) w i.size 1 ⟨q,0,none⟩ 1 c [byteC x] (by simp [hsz]) hnews;have hst : (store (⟨g,n,none⟩ : Addr) (byteC x) .plain).run Tryz.prog w = .ok () (w.setCell ⟨g,n,none⟩ (byteC x)):=by
        unfold byteC;rw [run_store_int];unfold stored;rw [hc,hf];rfl
      simp [Builtin.append_,run_underlying einfoByte.und,sizeOf,typeInfo,hi,hsz,Builtin.lenOf,hroom,hfc,Addr.add_lit];rw [hsz] at hfc;rw [hfc];simp [storeCells,Addr.add,hst]
    · rw [Array.toList_setIfInBounds];have hnl : n < cur.toList.length:=by simp;omega
      rw [List.take_set,List.take_add_one,ht,List.getElem?_eq_getElem hnl,Option.toList_some,List.set_append_right _ _ (by simp [hl])];simp [hl]
  · have hn0 : n = cap:=by omega
    have holds : ∀ (j : Nat) v,(bs.map byteC)[j]? = some v → w.cell? ((⟨g,0,none⟩ : Addr).add j) = some v:=by
      intro j v hv;have hj : j < n:=by have:=(List.getElem?_eq_some_iff.1 hv).1;simpa [hl] using this
      have e : (⟨g,0,none⟩ : Addr).add j = ⟨g,j,none⟩:=by unfold Addr.add;split <;> simp_all
      rw [e,cell_of_row w g j _ _ _ hg,← Array.getElem?_toList,← hv,← ht,List.getElem?_take,if_pos hj]
    have hge:=grownCap_ge w (n + 1) cap 5;have hcm2 : grownCap w (n + 1) cap 5 ≤ maxLen:=grownCap_le_maxLen w _ _ _ (by simp only [maxLen];omega);have hr:=run_append_grow (P:=Tryz.prog) w 89 ty 5 i z einfoByte.und hi hz ⟨g,0,none⟩ n cap (bs.map byteC) (by simp [hl,hsz]) holds ⟨q,0,none⟩ 1 c [byteC x] (by simp [hsz]) hnews (by omega) (by omega) (growslice_fits (by omega) (by rw [hby];omega));refine ⟨_,_,_,hr,⟨by simp [hl],w.heap.size,_,(0,0),rfl,hB,heap_alloc_new w.drew _,hge,hcm2,?_,.inl rfl,?_⟩,(Keep.trans (Keep.drew w) (Keep.alloc _ _) (by simp)).mono (by simp)⟩
    · simp only [Array.size_append,List.size_toArray,size_zeroCells,hzs,List.length_map,hl,List.length_cons,List.length_nil];omega
    · simp only [Array.toList_append];have e : n + 1 = ((bs.map byteC) ++ [byteC x]).length:=by simp [hl]
      rw [e,List.take_left];simp
theorem L_append_z {ops : Array Oper} {Q : Exit → Act → World → Prop} {a : Act} {w : World} {rest : List Oper} {dst : Option Tmp} {s x : Operand} {ty : TypeId} {pos : String} {after : Array Edge}
    {B : Nat} {A : Option Addr} {n cap : Nat} {bs : List UInt8} (hs : a.eval s = .slice A n cap) (hown : BuZ w B A n cap bs)
    {q c : Nat} {u : UInt8} (hx : a.eval x = .slice (some ⟨q,0,none⟩) 1 c) (hu : w.cell? ⟨q,0,none⟩ = some (byteC u)) (hn : n + 1 ≤ 1000000000) (hB : B ≤ w.heap.size)
    (h : ∀ A' cap' w',BuZ w' B A' (n + 1) cap' (bs ++ [u]) → Keep (blk A) w w' → wpList Tryz.prog ops Q rest (a.put dst (.slice A' (n + 1) cap')) w') :
    wpList Tryz.prog ops Q ({ dst:=dst,op:=.call { callee:=.builtin .append,args:=#[s,x],argTypes:=#[89,89] },type:=ty,pos:=pos,after:=after,guard:=none } :: rest) a w:=by
  obtain ⟨A',cap',w',hr,h1,h2⟩:=hown.append q c u hu hn hB ty;exact L_of_append hs hx hr (h A' cap' w' h1 h2)
theorem SlW.mid {P : Program} {T E : TypeId} {k bytes : Nat} {w : World} {A : Option Addr} {n cap : Nat} {L : List (Array Value)} (I : ElemInfo P T E k bytes) (h : SlW w A n cap k L) {m j : Nat} (hm : m + j ≤ n) (hj : 0 < j) :
    ∃ A2,(∀ w0 : World,(slS T (.slice A n cap) (some (.int .i64 m)) (some (.int .i64 (m + j : Nat))) none).run P w0 = .ok (.slice A2 j (cap - m)) w0) ∧ (∀ w' : World,SlR w' A n k L → SlR w' A2 j k ((L.drop m).take j)):=by
  have hle:=h.le;refine ⟨if cap = m then A else A.map fun a=>a.add (m * k),fun w0=>?_,fun w' hL=>?_⟩
  · rw [run_slS I];unfold Instr.slice Instr.sliceBounds;simp only [Sem.run_bind,run_underlying I.und,Result.andThen_ok,Sem.run_pure,run_bound w0 (m + j) cap (by omega),run_bound w0 m (m + j) (by omega),I.sizeOf_run w0,Option.isSome_none,Bool.false_eq_true,if_false];rw [show m + j - m = j by omega]
  · have hcm : ¬ cap = m:=by omega
    rw [if_neg hcm];cases A with
    | none=>exact absurd (h.nil rfl) (by omega)
    | some a =>
      obtain ⟨g,o,sp⟩:=a;have : sp = none:=h.plain _ rfl;subst this;have e : (⟨g,o,none⟩ : Addr).add (m * k) = ⟨g,o + m * k,none⟩:=by unfold Addr.add;split <;> simp_all
      simp only [Option.map_some,e];exact (hL.drop_ (m:=m) (by omega)).take_ (by omega)
end
section
open Go.RowKit
theorem flat4_get : ∀ (L : List UInt32) (i : Nat),i < 4 * L.length → (L.flatMap b4U).getD i 0 = (b4U (L.getD (i / 4) 0)).getD (i % 4) 0
  | [],i,h=>by simp at h
  | x :: L,i,h=>by
    rw [List.flatMap_cons];by_cases h4 : i < 4
    · rw [getD_appL _ _ _ (by rw [b4U_length];exact h4),show i / 4 = 0 by omega,show i % 4 = i by omega];rfl
    · have ih:=flat4_get L (i - 4) (by simp at h;omega);rw [List.getD_eq_getElem?_getD,List.getElem?_append_right (by rw [b4U_length];omega),b4U_length,← List.getD_eq_getElem?_getD,ih,show (i - 4) % 4 = i % 4 by omega,show i / 4 = (i - 4) / 4 + 1 by omega,List.getD_cons_succ]
theorem b4_get (x : UInt32) {b : Nat} (hb : b < 4) : nU x / 2 ^ (24 - 8 * b) % (256 : Int) = ((((b4U x).getD b 0).toNat : Nat) : Int):=by
  have h4 : b = 0 ∨ b = 1 ∨ b = 2 ∨ b = 3:=by omega
  rcases h4 with rfl | rfl | rfl | rfl
  · exact w24 x
  · exact w16 x
  · exact w8 x
  · have h:=w0 x;show nU x / 1 % 256 = _;rw [Int.ediv_one];exact h
theorem out_get (F : StU) {i : Nat} (hi : i < 32) : nU (F.l.getD (i / 4) 0) / 2 ^ (24 - 8 * (i % 4)) % (256 : Int) = ((((outU F).getD i 0).toNat : Nat) : Int):=by
  rw [← outU_flat,flat4_get _ _ (by rw [F.l_len];omega),b4_get _ (by omega)]
set_option maxRecDepth 100000 in
set_option maxHeartbeats 8000000 in
theorem rsum (w : World) (s : ByteArray) (hs : s.size ≤ 1000000) :
    Calls Tryz.prog 16 #[.string s] w fun e w'=>e = .returned (.agg (idC (shaI s.data.toList))) ∧ Below w.heap.size w w':=by
  obtain ⟨N,hN⟩ : ∃ N,s.size = N:=⟨_,rfl⟩
  obtain ⟨l,hl⟩ : ∃ l,s.data.toList = l:=⟨_,rfl⟩
  have hll : l.length = N:=by rw [← hl,← hN];rfl
  have hb0 : Below w.heap.size w (w.alloc (.cells (idC id0) 24)):=(Below.refl _ _).alloc (Nat.le_refl _) _;have hid:=heap_alloc_new w (.cells (idC id0) 24);obtain ⟨cap0,hcv,hz0,hbz⟩:=BuZ.conv (w.alloc (.cells (idC id0) 24)) (w.heap.size + 1) (by simp) s (by simp only [maxLen];omega);rw [hl,hN] at hz0;rw [hl];have hb1 : Below w.heap.size w (Go.Lib.bytesWorld (w.alloc (.cells (idC id0) 24)) 5 s):=hb0.trans (hbz.mono (by simp));have hid1:=(hbz.block w.heap.size (by simp)).trans hid;have hsN : s.size = N:=hN;rw [hN] at hs hcv;obtain ⟨W,hW⟩ : ∃ W,Go.Lib.bytesWorld (w.alloc (.cells (idC id0) 24)) 5 s = W:=⟨_,rfl⟩
  obtain ⟨A0,hA0⟩ : ∃ A0,some (⟨(w.alloc (.cells (idC id0) 24)).heap.size,0,none⟩ : Addr) = A0:=⟨_,rfl⟩
  rw [hW] at hcv hz0 hb1 hid1;rw [hA0] at hcv hz0;obtain ⟨ga,hga⟩ : ∃ ga,w.heap.size = ga:=⟨_,rfl⟩
  have q1:=bs1_b W 128;have hsz1 : ga + 1 ≤ W.heap.size:=by have:=hz0.at_base;rw [← hA0] at this;have:=this _ (by simp [blk];rfl);omega
  have hz1:=hz0.kept (Keep.alloc W (.cells #[.int .u8 128] 5)) (by simp);have hu1 : (W.alloc (.cells #[.int .u8 128] 5)).cell? ⟨W.heap.size,0,none⟩ = some (byteC 128):=by simp [go_sem,byteC]
  have Hll:=Lib.hid hll;have HN:=Lib.hid hN;have Hga:=Lib.hid hga;rw [hga] at hz1 hz0 hb1 hid1;clear hb0 hid hbz hW hA0 hll hN hl;go_enter Tryz.func16,Tryz.ntmps16
  go_wp2_with (at_builtin;refine L_append_z rfl hz1 rfl hu1 (by omega) (by simp;omega) ?_;intro A1 cap1 w1 hz2 hk1)
  have hkA : Keep (blk A0) W w1:=Keep.trans ((Keep.alloc W _).mono (S':=blk A0) (by simp)) hk1 (fun x hx=>.inl hx);have hb2 : Below ga w w1:=hb1.trans (hkA.below (by omega) (fun x hx=>by have:=(hz0.at_base x hx).1;omega));have hid2:=(hkA.block ga (by omega) (fun hx=>by have:=(hz0.at_base ga hx).1;omega)).trans hid1;have hl3 : l ++ [128] = l ++ 128 :: List.replicate 0 0:=rfl;rw [hl3] at hz2;have hsz2:=hkA.size;clear hz1 hu1 hk1 hkA hb1 hid1 hz0 q1 hl3 hcv;obtain ⟨z,hz⟩ : ∃ z,(119 - N % 64) % 64 = z:=⟨_,rfl⟩
  have Hz:=Lib.hid hz;have hz64 : z < 64:=by omega
  have hmz : (N + 1 + z) % 64 = 56:=by omega
  have hmn : ∀ j,j < z → (N + 1 + j) % 64 ≠ 56:=fun j hj=>(by omega);have Hmz:=Lib.hid hmz;have Hmn:=Lib.hid hmn;clear hz hmz hmn;go_loopw [3] (fun sv wr=>∃ (j : Nat) (A3 : Option Addr) (cap3 : Nat),j ≤ z ∧ sv = .slice A3 (N + 1 + j) cap3 ∧ BuZ wr (ga + 1) A3 (N + 1 + j) cap3 (l ++ 128 :: List.replicate j 0) ∧ wr.heap[ga]? = some (.cells (idC id0) 24 (0,0)) ∧ Below ga w wr ∧ ga + 1 ≤ wr.heap.size) (fun sv _=>2000000 - slLen sv)
  case atStart=>exact ⟨0,A1,cap1,by omega,rfl,hz2,hid2,hb2,by omega⟩
  case round =>
    obtain ⟨j,A3,cap3,hj,rfl,ho,hidr,hb,hsz⟩:=hrel;obtain ⟨ln,hln⟩ : ∃ ln,N + 1 + j = ln:=⟨_,rfl⟩
    rw [hln] at ho ⊢;have Hln:=Lib.hid hln;have hl2 : ln ≤ 1000100:=by omega
    clear hln;by_cases hlt : j < z
    · have e1 : ((ln : Int) % (64 : Int) != 56) = true:=by
        rw [bne_iff_ne];have:=Hmn.out j hlt;have:=Hln.out;omega
      have q1:=bs1_b wr 0;have ho2:=ho.kept (Keep.alloc wr (.cells #[.int .u8 0] 5)) (by simp);have hr2 : (wr.alloc (.cells #[.int .u8 0] 5)).cell? ⟨wr.heap.size,0,none⟩ = some (byteC 0):=by simp [go_sem,byteC]
      go_wp2_with (at_builtin;refine L_append_z rfl ho2 rfl hr2 (by omega) (by simp;omega) ?_;intro A4 cap4 w4 ho4 hk4)
      have hkf : Keep (blk A3) wr w4:=Keep.trans ((Keep.alloc wr _).mono (S':=blk A3) (by simp)) hk4 (fun x hx=>.inl hx);have hb4 : Below ga w w4:=hb.trans (hkf.below (by omega) (fun x hx=>by have:=(ho.at_base x hx).1;omega));have hid4:=(hkf.block ga (by omega) (fun hx=>by have:=(ho.at_base ga hx).1;omega)).trans hidr;have hs4:=hkf.size;have hl4 : l ++ 128 :: List.replicate j 0 ++ [0] = l ++ 128 :: List.replicate (j + 1) 0:=by
        rw [List.replicate_succ'];simp
      rw [hl4] at ho4;clear hl4 hk4 ho2 hr2 q1 ho hb hkf hidr;go_roundw
      case rel=>exact ⟨j + 1,A4,cap4,by omega,(by rw [← Hln.out,Nat.add_assoc]),(by rw [show N + 1 + (j + 1) = ln + 1 by have:=Hln.out;omega];exact ho4),hid4,hb4,by omega⟩
      case measure=>simp [slLen];omega
    · have hjz : j = z:=by omega
      have e1 : ((ln : Int) % (64 : Int) != 56) = false:=by
        rw [bne_eq_false_iff_eq];have:=Hmz.out;have:=Hln.out;omega
      have hln2 : N + 1 + z = ln:=by rw [← Hln.out,hjz]
      have Hln2:=Lib.hid hln2;obtain ⟨D,hD⟩ : ∃ D,l ++ 128 :: List.replicate z 0 = D:=⟨_,rfl⟩
      rw [hjz,hD] at ho;have HD:=Lib.hid hD;clear hjz hln2 hD hj hlt;go_upto_region 6 with fail
      go_loopw [3,5] (fun sv iv wr=>∃ (i r1 : Nat) (A5 : Option Addr) (cap5 : Nat),i + r1 = 8 ∧ iv = .int .i64 ((r1 : Int) - 1) ∧ sv = .slice A5 (ln + i) cap5 ∧ BuZ wr (ga + 1) A5 (ln + i) cap5 (D ++ (lenU N).take i) ∧ wr.heap[ga]? = some (.cells (idC id0) 24 (0,0)) ∧ Below ga w wr ∧ ga + 1 ≤ wr.heap.size) (fun _ iv _=>(intOf iv + 1).toNat)
      case atStart=>exact ⟨0,8,A3,cap3,rfl,rfl,rfl,(by rw [List.take_zero,List.append_nil];exact ho),hidr,hb,hsz⟩
      case round =>
        clear ho hb hidr hsz;obtain ⟨i,r1,A5,cap5,hir,rfl,rfl,ho,hidr,hb,hsz⟩:=hrel;by_cases hlt : 0 < r1
        · obtain ⟨r,hr⟩ : ∃ r : Nat,r1 = r + 1:=⟨r1 - 1,by omega⟩
          have er : (r1 : Int) - 1 = (r : Int):=by omega
          have hr7 : r < 8:=by omega
          have h7r : 7 - i = r:=by omega
          obtain ⟨c,hc⟩ : ∃ c,UInt8.ofNat (N * 8 / 2 ^ (8 * r)) = c:=⟨_,rfl⟩
          have htk:=lenU_take (n:=N) (i:=i) (by omega) (by omega);rw [h7r,hc] at htk;have eb : (N : Int) * (8 : Int) / 2 ^ (8 * r) % (256 : Int) = ((c.toNat : Nat) : Int):=by
            rw [← hc];have h3 : ((N * 8 / 2 ^ (8 * r) : Nat) : Int) = (N : Int) * (8 : Int) / 2 ^ (8 * r):=by simp
            rw [← h3]
            simp
          have q1:=bs1_b wr ((c.toNat : Nat) : Int);have hr2 : (wr.alloc (.cells #[.int .u8 ((c.toNat : Nat) : Int)] 5)).cell? ⟨wr.heap.size,0,none⟩ = some (byteC c):=by simp [go_sem,byteC]
          have ho2:=ho.kept (Keep.alloc wr (.cells #[.int .u8 ((c.toNat : Nat) : Int)] 5)) (by simp);have Htk:=Lib.hid htk;have hi8 : i < 8:=by omega
          have Hir:=Lib.hid hir;have Hr:=Lib.hid hr;clear hc hr htk h7r hir;go_wp2_with (at_builtin;refine L_append_z rfl ho2 rfl hr2 (by omega) (by simp;omega) ?_;intro A6 cap6 w6 ho6 hk6)
          have hkf : Keep (blk A5) wr w6:=Keep.trans ((Keep.alloc wr _).mono (S':=blk A5) (by simp)) hk6 (fun x hx=>.inl hx);have hb6 : Below ga w w6:=hb.trans (hkf.below (by omega) (fun x hx=>by have:=(ho.at_base x hx).1;omega));have hid6:=(hkf.block ga (by omega) (fun hx=>by have:=(ho.at_base ga hx).1;omega)).trans hidr;have hs6:=hkf.size;have hl6 : D ++ (lenU N).take i ++ [c] = D ++ (lenU N).take (i + 1):=by rw [Htk.out];simp
          rw [hl6] at ho6;clear hl6 hk6 ho2 hr2 q1 ho hb Htk eb hkf hidr;(go_wp2_with fail);go_roundw
          case rel=>exact ⟨i + 1,r,A6,cap6,(by have:=Hir.out;have:=Hr.out;omega),rfl,rfl,ho6,hid6,hb6,by omega⟩
          case measure=>simp [intOf];omega
        · have hr0 : r1 = 0:=by omega
          have hi8 : i = 8:=by omega
          have hneg : ((r1 : Int) - 1) < 0:=by omega
          obtain ⟨E,hE⟩ : ∃ E,l ++ padU N = E:=⟨_,rfl⟩
          have hfull : D ++ (lenU N).take i = E:=by
            rw [hi8,List.take_of_length_le (by rw [lenU_length];omega),← HD.out,← hE];unfold padU;rw [Hz.out];simp
          rw [hfull] at ho;obtain ⟨M,hM⟩ : ∃ M,ln + i = M:=⟨_,rfl⟩
          have hM64 : M % 64 = 0:=by have h1:=Hln2.out;have h2:=Hmz.out;omega
          have hEl : E.length = M:=by rw [← hE,List.length_append,Hll.out,padU_length,Hz.out,← hM,hi8];have:=Hln2.out;omega
          have hMb : M ≤ 1000200:=by omega
          rw [hM] at ho ⊢;have hfin : (⟨outU (blkU (M / 64) firstU E),outU_length _⟩ : Id32) = shaI l:=by
            unfold shaI;apply id_congr;unfold shaU;rw [Hll.out,hE,hEl]
          have Hfin:=Lib.hid hfin;have HM64:=Lib.hid hM64;have HEl:=Lib.hid hEl;have c1:=fun w=>rstart w;have c2:=fun w=>rconsts w;clear hfull hM hM64 hEl hfin hE hi8 hr0 hir;(go_wp2_with fail);refine (c1 _).mono ?_;rintro e w5 ⟨rfl,hb5⟩;have hst:=storeA8_run w5 w5.heap.size rfl (wsC (zU 8)) (by simp [zU_length]) firstU.l firstU.l_len 93;have hk5 : Keep [] wr (w5.alloc (.cells (wsC firstU.l) 93)):=Keep.trans (Keep.of_below hb5) (Keep.alloc w5 _) (by simp);have hn5:=heap_alloc_new w5 (.cells (wsC firstU.l) 93);have hs5:=hb5.size;(go_wp2_with fail);refine (c2 _).mono ?_;rintro e w6 ⟨rfl,rfl⟩;obtain ⟨gh,hgh⟩ : ∃ gh,w5.heap.size = gh:=⟨_,rfl⟩
          obtain ⟨V,hV⟩ : ∃ V,V = w5.alloc (.cells (wsC firstU.l) 93):=⟨_,rfl⟩
          have hVs : V.heap.size = gh + 1:=by rw [hV,← hgh];simp
          rw [← hV] at hk5 hn5 ⊢;rw [hgh] at hn5 hs5 ⊢;rw [hVs];have hk6 : Keep [] wr (V.alloc (.cells (wsC kU) 92)):=Keep.trans hk5 (Keep.alloc V _) (by simp);have hgk:=heap_alloc_new V (.cells (wsC kU) 92);rw [hVs] at hgk;have hgh6:=(Below.heap_alloc V (.cells (wsC kU) 92) gh (by omega)).trans hn5;have ho6:=ho.kept hk6 (by simp);have hid6:=(hk6.block ga (by omega) (by simp)).trans hidr;have hb6 : Below ga w (V.alloc (.cells (wsC kU) 92)):=hb.trans (hk6.below (by omega) (by simp));have hA5:=ho.at_base;obtain ⟨U,hU⟩ : ∃ U,U = V.alloc (.cells (wsC kU) 92):=⟨_,rfl⟩
          have hUs : U.heap.size = gh + 2:=by rw [hU];simp [hVs]
          rw [← hU] at hgk hgh6 ho6 hid6 hb6 ⊢;have hA6 : ∀ x ∈ blk A5,x ≠ gh:=fun x hx=>(by have:=(hA5 x hx).2;omega);have HA6:=Lib.hid hA6;have hgaU : ga < gh:=by omega
          have hUl : gh + 1 < U.heap.size:=by omega
          clear hU hV hgh hk5 hn5 hst hb5 ho hidr hb hk6 hVs hUs hA5 hA6 c1 c2;go_upto_region 12 with fail
          go_loopw [8] (fun iv wr=>∃ (k m : Nat),64 * k = m ∧ m ≤ M ∧ iv = .int .i64 m ∧ wr.heap[gh]? = some (.cells (wsC (blkU k firstU E).l) 93 (0,0)) ∧ Keep [gh] U wr) (fun iv _=>M + 64 - (intOf iv).toNat)
          case atStart=>exact ⟨0,0,rfl,by omega,rfl,hgh6,Keep.refl _ _⟩
          case round =>
            clear hgh6;obtain ⟨k,m,hkm,hmM,rfl,hc,hkp⟩:=hrel;by_cases hlt2 : m < M
            · have hm64 : m + 64 ≤ M:=by have:=HM64.out;omega
              have hzr:=ho6.kept hkp (fun x hx=>by simpa using HA6.out x hx);obtain ⟨A7,hrun,hrd⟩:=hzr.slw.mid einfoByte (m:=m) (j:=64) hm64 (by omega);have hrun' : ∀ w0 : World,(slS 89 (.slice A5 M cap5) (some (.int .i64 m)) (some (.int .i64 ((m : Int) + 64))) none).run Tryz.prog w0 = .ok (.slice A7 64 (cap5 - m)) w0:=fun w0=>by
                have h:=hrun w0
                rwa [show ((m + 64 : Nat) : Int) = (m : Int) + 64 by omega] at h
              have hb64 : BytesIn wr A7 64 ((E.drop m).take 64):=by
                have h:=hrd wr hzr.slw.rd;unfold bytesR at h;rw [← List.map_drop,← List.map_take] at h;exact h
              have hkr:=(hkp.block (gh + 1) hUl (by simp)).trans hgk;have cb:=rblock wr.drew (blkU k firstU E) A7 (cap5 - m) ((E.drop m).take 64) (gh + 1) 64 92 (hb64.kept (Keep.drew wr) (by simp)) hkr;have hst2 : turnU (blkU k firstU E) ((E.drop m).take 64) = blkU (k + 1) firstU E:=by rw [blkU_snoc,hkm]
              rw [hst2] at cb;have hw64 : IntKind.i64.wrap ((m : Int) + 64) = (m : Int) + 64:=by simp [IntKind.wrap,IntKind.bits,IntKind.signed];omega
              have hgr : gh < wr.heap.size:=(Array.getElem?_eq_some_iff.1 hc).1;have hrowr : rowAt wr gh 0 8 = some (wsC (blkU k firstU E).l):=by unfold rowAt;rw [hc];simp [StU.l_len]
              clear hrun hrd hb64 hzr hkr hst2;go_upto_region 14 with fail
              have q1 : gh ∉ ([] : List Nat):=by simp
              refine wp_region_lexf (Kp ([] : List Nat) wr) false (by kernel_rfl) (by kernel_rfl) (by kernel_rfl) (by kernel_rfl) (kp_drew ([] : List Nat) wr) ?_;have hne:=kp_some ([] : List Nat) wr;have hS:=kp_drew ([] : List Nat) wr;have b0:=ksub_row hrowr q1;repeat (refine wpLx_loose ?_ ?_;(focus (simp only [chainOp];done));intro K hK;go_simp;refine hK _ ?_;clear hK K)
              refine wpLx_chain ?_ ?_ ?_;(focus (exact hS));(focus (simp only [chainOp];done));intro K hK;go_simp;refine cb.mono ?_;rintro e w7 ⟨rfl,hb7⟩;have hk7 : Keep [] wr w7:=Keep.trans (Keep.drew wr) (Keep.of_below hb7) (by simp);replace hS:=kp_below hS hb7;refine ⟨_,rfl,hS,hK _ _ ?_⟩;clear hK K;have hc7:=(hk7.block gh hgr (by simp)).trans hc;have hsto:=run_stS_at (P:=Tryz.prog) infoA8 w7 gh (wsC (blkU k firstU E).l) (wsC (blkU (k + 1) firstU E).l) _ hc7 (by simp [StU.l_len]) (by simp [StU.l_len]) (wsC_one _);have hc8:=setRow_heap w7 gh _ (wsC (blkU (k + 1) firstU E).l) _ _ hc7;have hk8 : Keep [gh] w7 (w7.setRow gh (wsC (blkU (k + 1) firstU E).l)):=⟨rfl,rfl,rfl,by simp [World.setRow],fun x _ hx=>setRow_other w7 gh x _ (by simpa using hx)⟩
              have hkf : Keep [gh] U (w7.setRow gh (wsC (blkU (k + 1) firstU E).l)):=Keep.trans (Keep.trans hkp (hk7.mono (S':=[gh]) (by simp)) (fun x hx=>.inl hx)) hk8 (fun x hx=>.inl hx);repeat (refine wpLx_loose ?_ ?_;(focus (simp only [chainOp];done));intro K hK;go_simp;refine hK _ ?_;clear hK K)
              refine wpLx_end ?_ ?_;(focus (simp only [chainOp];done));intro K hK;go_simp;refine hK _ _ ?_;clear hK K;clear hne hS b0 hrowr hc hc7 hk7 hk8 hkp hb7 cb hsto hrun';(go_wp2_with fail);go_roundw
              case rel=>exact ⟨k + 1,m + 64,by omega,by omega,by go_num,hc8,hkf⟩
              case measure=>simp [intOf];omega
            · have hmM2 : m = M:=by omega
              have hkM : k = M / 64:=by omega
              obtain ⟨F,hF⟩ : ∃ F,blkU (M / 64) firstU E = F:=⟨_,rfl⟩
              rw [hkM,hF] at hc;rw [hF] at Hfin;have hgr : gh < wr.heap.size:=(Array.getElem?_eq_some_iff.1 hc).1;have hidr:=(hkp.block ga (by omega) (by simp;omega)).trans hid6;have hbr : Below ga w wr:=hb6.trans (hkp.below (by omega) (by simp;omega));have ha:=Keep.alloc wr (.cells (idC id0) 24);have hgn:=heap_alloc_new wr (.cells (idC id0) 24);have hcn:=(ha.block gh hgr (by simp)).trans hc;have hidn:=(ha.block ga (by omega) (by simp)).trans hidr;have hbn : Below ga w (wr.alloc (.cells (idC id0) 24)):=hbr.trans (ha.below (by omega) (by simp));clear hF hkM hmM2 hkp hidr hbr ha hc hid6 hb6 ho6 hgk;go_upto_region 17 with fail
              obtain ⟨gb,hgb⟩ : ∃ gb,wr.heap.size = gb:=⟨_,rfl⟩
              obtain ⟨V,hV⟩ : ∃ V,V = wr.alloc (.cells (idC id0) 24):=⟨_,rfl⟩
              rw [← hV] at hgn hbn hidn hcn ⊢;rw [hgb] at hgn hgr ⊢;have hgbV : gb < V.heap.size:=(Array.getElem?_eq_some_iff.1 hgn).1;clear hV hgb;go_loopw [10] (fun iv wr=>∃ i : Nat,i ≤ 32 ∧ iv = .int .i64 i ∧ wr.heap[gb]? = some (.cells (idA (outU F) i) 24 (0,0)) ∧ Keep [gb] V wr) (fun iv _=>32 - (intOf iv).toNat)
              case atStart=>exact ⟨0,by omega,rfl,(by rw [idA_zero];exact hgn),Keep.refl _ _⟩
              case round =>
                clear hgn;obtain ⟨i,hi,rfl,hc,hkp⟩:=hrel;by_cases hlt3 : i < 32
                · have hcr:=(hkp.block gh (by omega) (by simp;omega)).trans hcn;have x0 : wr.cell? ⟨gh,i / 4,none⟩ = some (.int .u32 (nU (F.l.getD (i / 4) 0))):=wcell hcr (by rw [F.l_len];omega);have hog:=out_get F hlt3;have hos:=outU_length F;have hset:=idA_set (outU F) i (by omega) hlt3;have hb9 : (outU F).getD i 0 = (outU F)[i]'(by omega):=by rw [List.getD_eq_getElem?_getD,List.getElem?_eq_getElem (by omega)];rfl
                  rw [hb9] at hog;obtain ⟨bb,hbb⟩ : ∃ bb,(outU F)[i]'(by omega) = bb:=⟨_,rfl⟩
                  rw [hbb] at hog hset;obtain ⟨x,hx⟩ : ∃ x,F.l.getD (i / 4) 0 = x:=⟨_,rfl⟩
                  rw [hx] at hog x0;obtain ⟨a4,ha4⟩ : ∃ a4,i / 4 = a4:=⟨_,rfl⟩
                  obtain ⟨r4,hr4⟩ : ∃ r4,i % 4 = r4:=⟨_,rfl⟩
                  obtain ⟨sh,hsh⟩ : ∃ sh,24 - 8 * r4 = sh:=⟨_,rfl⟩
                  rw [ha4] at x0;rw [hr4,hsh] at hog;have e1 : (i : Int) / (4 : Int) = (a4 : Int):=by omega
                  have e2 : (i : Int) % (4 : Int) = (r4 : Int):=by omega
                  have e3 : (24 : Int) - 8 * (r4 : Int) = (sh : Int):=by omega
                  have l4 : (a4 : Int) < 8:=by omega
                  have lsh : (sh : Int) ≤ 32:=by omega
                  have hsz:=idA_size (outU F) i (by omega) (by omega);have hck : ∃ v,wr.cell? ⟨gb,i,none⟩ = some v:=⟨(idA (outU F) i)[i]'(by omega),by rw [cell_of_row wr gb i _ _ _ hc,Array.getElem?_eq_getElem]⟩
                  obtain ⟨v9,x9⟩:=hck;have f9 : wr.frozen? ⟨gb,i,none⟩ = false:=by simp [World.frozen?,hc]
                  have hc2:=heap_setCell_same hc i (.int .u8 ((bb.toNat : Nat) : Int));have hset' : (idA (outU F) i).setIfInBounds i (.int .u8 ((bb.toNat : Nat) : Int)) = idA (outU F) (i + 1):=hset;rw [hset'] at hc2;have hk2 : Keep [gb] V (wr.setCell ⟨gb,i,none⟩ (.int .u8 ((bb.toNat : Nat) : Int))):=Keep.trans hkp (Keep.setCell wr ⟨gb,i,none⟩ _) (fun x hx=>.inl hx);have Hc2:=Lib.hid hc2;clear hset hset' hc2 hsz hbb hb9 hos hx ha4 hr4 hsh hc hkp hcr;(go_wp2_with fail);go_roundw
                  case rel=>exact ⟨i + 1,by omega,by go_num,Hc2.out,hk2⟩
                  case measure=>simp [intOf];omega
                · have hi32 : i = (outU F).length:=by rw [outU_length];omega
                  have hfull:=idA_full (outU F) (.inl (outU_length F));rw [hi32,hfull] at hc;have hid9 : idOf (outU F) = shaI l:=by rw [← Hfin.out];unfold idOf;rw [dif_pos (outU_length F)]
                  rw [hid9] at hc;have hrow : rowAt wr gb 0 32 = some (idC (shaI l)):=by unfold rowAt;rw [hc];simp
                  have hg2':=(hkp.block ga (by omega) (by simp;omega)).trans hidn;have hsto:=run_stS_at (P:=Tryz.prog) infoId wr ga (idC id0) (idC (shaI l)) _ hg2' (by simp) (by simp) (idC_one _);have Hrow:=Lib.hid (setRow_heap wr ga _ (idC (shaI l)) _ _ hg2');have hkf : Keep [ga] wr (wr.setRow ga (idC (shaI l))):=⟨rfl,rfl,rfl,by simp [World.setRow],fun x _ hx=>setRow_other wr ga x _ (by simpa using hx)⟩
                  have hkz:=Keep.trans (hkp.mono (S':=[ga,gb]) (by simp)) (hkf.mono (S':=[ga,gb]) (by simp)) (fun x hx=>.inl hx);have hbz : Below ga w (wr.setRow ga (idC (shaI l))):=hbn.trans (hkz.below (by omega) (by simp;omega));have Hbz:=Lib.hid hbz;clear hkf hkz hbz hg2' hc hkp hidn hbn hfull hi32 hid9 hcn;(go_wp2_with fail);exact bodyPost_ret (results_cell_row Tryz.results16 _ _ ga 24 (idC (shaI l)) (0,0) _ rfl Hrow.out Tryz.underlying24 rfl (by rw [idC_size];exact infoId)) rfl ⟨rfl,by rw [Hga.out];exact Hbz.out⟩
end
section
open Go.RowKit
theorem results_ct {P : Program} {fn : Func} {p q : Tmp} {ty : TypeId} (h : fn.results = #[.cell p ty,.tmp q]) (tmps : Array Value) (w : World) (g : Nat) (t : TypeId) (cs : Array Value) (fr : Nat × Nat) (d : TypeDesc)
    (hp : tmps.getD p undef = .pointer (some ⟨g,0,none⟩)) (hg : w.heap[g]? = some (.cells cs t fr))
    (hu : P.underlying ty = some d) (hd : (match d with | .struct _ | .array _ _=>true | _=>false) = true) (hi : (P.info? ty).map (·.size) = some cs.size) :
    (results fn tmps).run P w = .ok (.tuple #[.agg cs,tmps.getD q undef]) w:=by
  have hp' : tmps[p]?.getD undef = .pointer (some ⟨g,0,none⟩):=by simpa using hp
  simp [results,h,hp',asAddr,run_loadVar_row w g t ty cs fr d hg hu hd hi]
theorem beL_size (m n : Nat) : (⟨(beL m n).toArray⟩ : ByteArray).size = m:=by
  show (beL m n).toArray.size = m;simp [beL_length]
theorem checkB_size {s : ByteArray} (h : checkB s = 0) : s.size ≤ 12:=by
  by_cases hf : formedB s = true
  · exact (formedB_size hf).2
  · have h1 : kindB s = 0:=if_neg hf;have h2 : checkB s = 9:=if_pos h1;rw [h2] at h;exact absurd h (by decide)
set_option maxRecDepth 100000 in
set_option maxHeartbeats 4000000 in
theorem rh_put (w : World) (h : HdV) (A : Option Addr) (c : Nat) (hT : TagsIn w A h.ps.length h.ps) (hn : h.ps.length ≤ 9223372036854775807) (ht : h.tp.size ≤ 9223372036854775807) :
    Calls Tryz.prog 15 #[.agg (hdC (hdO h A c))] w fun e w'=>∃ s : ByteArray,e = .returned (.tuple #[.string s,.int .i64 (hdE h)]) ∧ (hdE h = 0 → s.data.toList = hdB h ∧ s.size ≤ 300) ∧ Below w.heap.size w w':=by
  have hB : Below w.heap.size w (w.alloc (.cells (hdC (hdO h A c)) 30)):=(Below.refl _ _).alloc (Nat.le_refl _) _;have hr : rowAt (w.alloc (.cells (hdC (hdO h A c)) 30)) w.heap.size 0 38 = some (hdC (hdO h A c)):=by simp [go_sem]
  have hT0:=SlR.below hT hB;have cc:=rh_check _ h A c hT0 hn ht;obtain ⟨E,hE⟩ : ∃ E,hdE h = E:=⟨_,rfl⟩
  rw [hE] at cc ⊢;have HE:=Lib.hid hE;obtain ⟨W,hW⟩ : ∃ W,W = w.alloc (.cells (hdC (hdO h A c)) 30):=⟨_,rfl⟩
  rw [← hW] at hB hr hT0 cc;have HW:=Lib.hid hW;obtain ⟨g,hg⟩ : ∃ g,w.heap.size = g:=⟨_,rfl⟩
  have Hg:=Lib.hid hg;have hgW : g < W.heap.size:=by rw [hW,← hg];simp
  rw [hg] at hB hr;clear hE hW hT;go_enter Tryz.func15,Tryz.ntmps15
  go_upto_region 1 with fail
  rw [← HW.out];clear hg;(go_wp2_with fail);refine cc.mono ?_;rintro e w2 ⟨rfl,hb2⟩;have hB2 : Below g w w2:=hB.trans (hb2.mono (by omega));clear cc;by_cases h0 : E = 0
  · subst h0;have hok:=hdE_ok HE.out;have hr2:=(rowAt_of_block (hb2.block g hgW) 0 38).trans hr;have hT2:=SlR.below hT0 hb2;obtain ⟨H,hH⟩ : ∃ H : Nat,h.ht = H:=⟨h.ht.toNat,by have:=hok.ht;omega⟩
    obtain ⟨au,hau⟩ : ∃ au : Nat,h.au = au:=⟨h.au.toNat,by have:=hok.au;omega⟩
    obtain ⟨sq,hsq⟩ : ∃ sq : Nat,h.sq = sq:=⟨h.sq.toNat,by have:=hok.sq;omega⟩
    obtain ⟨sz,hsz⟩ : ∃ sz : Nat,h.sz = sz:=⟨h.sz.toNat,by have:=hok.sz;omega⟩
    have x0:=rowAt_cell hr2 (j:=0) (by omega);have x1:=rowAt_cell hr2 (j:=1) (by omega);have x2:=rowAt_cell hr2 (j:=2) (by omega);have x3:=rowAt_cell hr2 (j:=3) (by omega);have x4:=rowAt_cell hr2 (j:=4) (by omega);have x5:=rowAt_cell hr2 (j:=5) (by omega);have x6:=rowAt_sub hr2 (j:=6) (m:=32) (by omega);simp only [hdC_g0,hdC_g1,hdC_g2,hdC_g3,hdC_g4,hdC_g5,Nat.zero_add] at x0 x1 x2 x3 x4 x5 x6;rw [hdC_e6] at x6;simp only [hdO,hH,hau,hsq,hsz] at x0 x1 x2 x3 x4 x5 x6;have htp:=checkB_size hok.tp;have hps:=hok.ps;have b1 : H < 256 ^ 4:=by have:=hok.ht;omega
    have b2 : h.tp.size < 256 ^ 1:=by omega
    have b3 : au < 256 ^ 1:=by have:=hok.au;omega
    have b4 : sq < 256 ^ 4:=by have:=hok.sq;omega
    have b5 : sz < 256 ^ 2:=by have:=hok.sz;omega
    have ci:=fun w1 (hb : Below w2.heap.size w2 w1)=>rids_any h.ps w1 A h.ps.length c (SlR.below hT2 hb) (by omega);have n1:=fun w=>hnum H 4 w (by omega) b1;have n2:=fun w=>hnum h.tp.size 1 w (by omega) b2;have n3:=fun w=>hnum au 1 w (by omega) b3;have n4:=fun w=>hnum sq 4 w (by omega) b4;have n5:=fun w=>hnum sz 2 w (by omega) b5;have nr:=fun w=>hraw h.cm w;obtain ⟨t1,ht1⟩ : ∃ t : ByteArray,(⟨(beL 4 H).toArray⟩ : ByteArray) = t:=⟨_,rfl⟩
    obtain ⟨t2,ht2⟩ : ∃ t : ByteArray,(⟨(beL 1 h.tp.size).toArray⟩ : ByteArray) = t:=⟨_,rfl⟩
    obtain ⟨t3,ht3⟩ : ∃ t : ByteArray,(⟨(beL 1 au).toArray⟩ : ByteArray) = t:=⟨_,rfl⟩
    obtain ⟨t4,ht4⟩ : ∃ t : ByteArray,(⟨(beL 4 sq).toArray⟩ : ByteArray) = t:=⟨_,rfl⟩
    obtain ⟨t5,ht5⟩ : ∃ t : ByteArray,(⟨(beL 2 sz).toArray⟩ : ByteArray) = t:=⟨_,rfl⟩
    obtain ⟨t6,ht6⟩ : ∃ t : ByteArray,(⟨h.cm.l.toArray⟩ : ByteArray) = t:=⟨_,rfl⟩
    have z1 : t1.size = 4:=by rw [← ht1];exact beL_size _ _
    have z2 : t2.size = 1:=by rw [← ht2];exact beL_size _ _
    have z3 : t3.size = 1:=by rw [← ht3];exact beL_size _ _
    have z4 : t4.size = 4:=by rw [← ht4];exact beL_size _ _
    have z5 : t5.size = 2:=by rw [← ht5];exact beL_size _ _
    have z6 : t6.size = 32:=by rw [← ht6];show h.cm.l.toArray.size = 32;simp [h.cm.h]
    simp only [ht1] at n1;simp only [ht2] at n2;simp only [ht3] at n3;simp only [ht4] at n4;simp only [ht5] at n5;simp only [ht6] at nr;have hdb : hdB h = beL 1 h.ps.length ++ h.ps.flatMap (·.l) ++ t1.data.toList ++ t2.data.toList ++ h.tp.data.toList ++ t3.data.toList ++ t4.data.toList ++ t5.data.toList ++ t6.data.toList:=by
      unfold hdB;rw [hH,hau,hsq,hsz,← ht1,← ht2,← ht3,← ht4,← ht5,← ht6];simp
    have Hdb:=Lib.hid hdb;have Hci:=Lib.hid ci;have Z1:=Lib.hid z1;have Z2:=Lib.hid z2;have Z3:=Lib.hid z3;have Z4:=Lib.hid z4;have Z5:=Lib.hid z5;have Z6:=Lib.hid z6;clear hdb ci ht1 ht2 ht3 ht4 ht5 ht6 hr2 hT2 hH hau hsq hsz hok z1 z2 z3 z4 z5 z6;go_upto_region 4 with fail
    refine wp_region_lex (Bel w2) false (by kernel_rfl) (by kernel_rfl) (by kernel_rfl) (bel_drew w2) ?_;have hne:=bel_some w2;have hS:=bel_drew w2;have c0:=sub_cell x0;have c1:=sub_cell x1;have c2:=sub_cell x2;have c3:=sub_cell x3;have c4:=sub_cell x4;have c5:=sub_cell x5;have c6:=sub_row x6;repeat (refine wpLx_loose ?_ ?_;(focus (simp only [chainOp];done));intro K hK;go_simp;refine hK _ ?_;clear hK K)
    refine wpLx_chain ?_ ?_ ?_;(focus (exact hS));(focus (simp only [chainOp];done));intro K hK;go_simp;refine (Hci.out _ hS).mono ?_;rintro e w' ⟨s0,rfl,hs0,hz0,hb⟩;replace hS:=bel_next hS hb;refine ⟨_,rfl,hS,hK _ _ ?_⟩;clear hK K hb;have l1 : ¬ 9223372036854775807 < s0.size + t1.size:=by have:=Z1.out;omega
    have l2 : ¬ 9223372036854775807 < s0.size + t1.size + t2.size:=by have:=Z1.out;have:=Z2.out;omega
    have l3 : ¬ 9223372036854775807 < s0.size + t1.size + t2.size + h.tp.size:=by have:=Z1.out;have:=Z2.out;omega
    have l4 : ¬ 9223372036854775807 < s0.size + t1.size + t2.size + h.tp.size + t3.size:=by have:=Z1.out;have:=Z2.out;have:=Z3.out;omega
    have l5 : ¬ 9223372036854775807 < s0.size + t1.size + t2.size + h.tp.size + t3.size + t4.size:=by have:=Z1.out;have:=Z2.out;have:=Z3.out;have:=Z4.out;omega
    have l6 : ¬ 9223372036854775807 < s0.size + t1.size + t2.size + h.tp.size + t3.size + t4.size + t5.size:=by have:=Z1.out;have:=Z2.out;have:=Z3.out;have:=Z4.out;have:=Z5.out;omega
    have l7 : ¬ 9223372036854775807 < s0.size + t1.size + t2.size + h.tp.size + t3.size + t4.size + t5.size + t6.size:=by have:=Z1.out;have:=Z2.out;have:=Z3.out;have:=Z4.out;have:=Z5.out;have:=Z6.out;omega
    have Hs0:=Lib.hid hs0;clear hs0;repeat (refine wpLx_loose ?_ ?_;(focus (simp only [chainOp];done));intro K hK;go_simp;refine hK _ ?_;clear hK K)
    refine wpLx_chain ?_ ?_ ?_;(focus (exact hS));(focus (simp only [chainOp];done));intro K hK;go_simp;refine (n1 _).mono ?_;rintro e w' ⟨rfl,hb⟩;replace hS:=bel_next hS hb;refine ⟨_,rfl,hS,hK _ _ ?_⟩;clear hK K hb;repeat (refine wpLx_loose ?_ ?_;(focus (simp only [chainOp];done));intro K hK;go_simp;refine hK _ ?_;clear hK K)
    refine wpLx_chain ?_ ?_ ?_;(focus (exact hS));(focus (simp only [chainOp];done));intro K hK;go_simp;refine (n2 _).mono ?_;rintro e w' ⟨rfl,hb⟩;replace hS:=bel_next hS hb;refine ⟨_,rfl,hS,hK _ _ ?_⟩;clear hK K hb;repeat (refine wpLx_loose ?_ ?_;(focus (simp only [chainOp];done));intro K hK;go_simp;refine hK _ ?_;clear hK K)
    refine wpLx_chain ?_ ?_ ?_;(focus (exact hS));(focus (simp only [chainOp];done));intro K hK;go_simp;refine (n3 _).mono ?_;rintro e w' ⟨rfl,hb⟩;replace hS:=bel_next hS hb;refine ⟨_,rfl,hS,hK _ _ ?_⟩;clear hK K hb;repeat (refine wpLx_loose ?_ ?_;(focus (simp only [chainOp];done));intro K hK;go_simp;refine hK _ ?_;clear hK K)
    refine wpLx_chain ?_ ?_ ?_;(focus (exact hS));(focus (simp only [chainOp];done));intro K hK;go_simp;refine (n4 _).mono ?_;rintro e w' ⟨rfl,hb⟩;replace hS:=bel_next hS hb;refine ⟨_,rfl,hS,hK _ _ ?_⟩;clear hK K hb;repeat (refine wpLx_loose ?_ ?_;(focus (simp only [chainOp];done));intro K hK;go_simp;refine hK _ ?_;clear hK K)
    refine wpLx_chain ?_ ?_ ?_;(focus (exact hS));(focus (simp only [chainOp];done));intro K hK;go_simp;refine (n5 _).mono ?_;rintro e w' ⟨rfl,hb⟩;replace hS:=bel_next hS hb;refine ⟨_,rfl,hS,hK _ _ ?_⟩;clear hK K hb;repeat (refine wpLx_loose ?_ ?_;(focus (simp only [chainOp];done));intro K hK;go_simp;refine hK _ ?_;clear hK K)
    refine wpLx_chain ?_ ?_ ?_;(focus (exact hS));(focus (simp only [chainOp];done));intro K hK;go_simp;refine (nr _).mono ?_;rintro e w' ⟨rfl,hb⟩;replace hS:=bel_next hS hb;refine ⟨_,rfl,hS,hK _ _ ?_⟩;clear hK K hb;repeat (refine wpLx_loose ?_ ?_;(focus (simp only [chainOp];done));intro K hK;go_simp;refine hK _ ?_;clear hK K)
    refine wpLx_nil ?_;intro hS;have hbF:=hB2.trans (hS.mono (by have:=hB2.size;have:=Hg.out;omega));have HbF:=Lib.hid hbF;clear hbF hS hne c0 c1 c2 c3 c4 c5 c6 l1 l2 l3 l4 l5 l6 l7;(go_wp2_with fail);go_ret2;refine ⟨_,rfl,?_,by rw [Hg.out];exact HbF.out⟩;have hfin : (s0 ++ t1 ++ t2 ++ h.tp ++ t3 ++ t4 ++ t5 ++ t6).data.toList = hdB h ∧ (s0 ++ t1 ++ t2 ++ h.tp ++ t3 ++ t4 ++ t5 ++ t6).size ≤ 300:=by
      constructor
      · rw [Hdb.out];simp only [ByteArray.data_append,Array.toList_append,Hs0.out]
      · simp only [ByteArray.size_append];have:=Z1.out;have:=Z2.out;have:=Z3.out;have:=Z4.out;have:=Z5.out;have:=Z6.out;omega
    first | exact hfin | exact fun _=>hfin
  · have hb : (E != 0) = true:=by rw [bne_iff_ne];exact h0
    have H0:=Lib.hid h0;clear h0;(go_wp2_with fail);go_ret2;exact ⟨⟨#[]⟩,rfl,fun h=>absurd h H0.out,by rw [Hg.out];exact hB2⟩
set_option maxRecDepth 100000 in
set_option maxHeartbeats 4000000 in
theorem rh_ident (w : World) (h : HdV) (A : Option Addr) (c : Nat) (hT : TagsIn w A h.ps.length h.ps) (hn : h.ps.length ≤ 9223372036854775807) (ht : h.tp.size ≤ 9223372036854775807) :
    Calls Tryz.prog 6 #[.agg (hdC (hdO h A c))] w fun e w'=>e = .returned (.tuple #[.agg (idC (hdI h)),.int .i64 (hdE h)]) ∧ Below w.heap.size w w':=by
  have hB : Below w.heap.size w ((w.alloc (.cells (hdC (hdO h A c)) 30)).alloc (.cells (idC id0) 24)):=((Below.refl _ _).alloc (Nat.le_refl _) _).alloc (by simp) _;have hr : rowAt ((w.alloc (.cells (hdC (hdO h A c)) 30)).alloc (.cells (idC id0) 24)) w.heap.size 0 38 = some (hdC (hdO h A c)):=by
    rw [rowAt_of_block (Below.heap_alloc _ _ _ (by simp))];simp [go_sem]
  have hid:=heap_alloc_new (w.alloc (.cells (hdC (hdO h A c)) 30)) (.cells (idC id0) 24);rw [show (w.alloc (.cells (hdC (hdO h A c)) 30)).heap.size = w.heap.size + 1 by simp] at hid;have cp:=rh_put _ h A c (SlR.below hT hB) hn ht;obtain ⟨W,hW⟩ : ∃ W,W = (w.alloc (.cells (hdC (hdO h A c)) 30)).alloc (.cells (idC id0) 24):=⟨_,rfl⟩
  rw [← hW] at hB hr hid cp;have HW:=Lib.hid hW;obtain ⟨g,hg⟩ : ∃ g,w.heap.size = g:=⟨_,rfl⟩
  have Hg:=Lib.hid hg;have hgW : g + 1 < W.heap.size:=by rw [hW,← hg];simp
  rw [hg] at hB hr hid;obtain ⟨E,hE⟩ : ∃ E,hdE h = E:=⟨_,rfl⟩
  have hI : hdI h = if E = 0 then shaI (hdB h) else id0:=by rw [← hE];rfl
  rw [hE] at cp;obtain ⟨I,hII⟩ : ∃ I,hdI h = I:=⟨_,rfl⟩
  rw [hII] at hI;rw [hII,hE];have HI:=Lib.hid hI;clear hW hT hE hI hII;go_enter Tryz.func6,Tryz.ntmps6
  go_upto_region 1 with fail
  rw [← HW.out];clear hg;(go_wp2_with fail);refine cp.mono ?_;rintro e w2 ⟨s,rfl,hs,hb2⟩;have hid2:=(hb2.block (g + 1) hgW).trans hid;have hB2 : Below g w w2:=hB.trans (hb2.mono (by omega));have hg2 : g + 1 < w2.heap.size:=by have:=hb2.size;omega
  clear cp hr hid hb2;by_cases h0 : E = 0
  · have hE0 : (E != 0) = false:=by rw [bne_eq_false_iff_eq];exact h0
    obtain ⟨hsd,hss⟩:=hs h0;have cs:=rsum w2 s (by omega);rw [hsd] at cs;have Hif : Hid (I = shaI (hdB h)):=(show _ = _ by rw [HI.out,if_pos h0])
    have H0:=Lib.hid h0;clear hs hsd h0;(go_wp2_with fail);refine cs.mono ?_;rintro e w3 ⟨rfl,hb3⟩;have hid3:=(hb3.block (g + 1) hg2).trans hid2;have hst:=run_stS_at (P:=Tryz.prog) infoId w3 (g + 1) (idC id0) (idC (shaI (hdB h))) _ hid3 (by simp) (by simp) (idC_one _);have Hrow:=Lib.hid (setRow_heap w3 (g + 1) _ (idC (shaI (hdB h))) _ _ hid3);have hk : Keep [g + 1] w3 (w3.setRow (g + 1) (idC (shaI (hdB h)))):=⟨rfl,rfl,rfl,by simp [World.setRow],fun x _ hx=>setRow_other w3 (g + 1) x _ (by simpa using hx)⟩
    have hbF : Below g w (w3.setRow (g + 1) (idC (shaI (hdB h)))):=(hB2.trans (hb3.mono (by omega))).trans (hk.below (by have:=hb3.size;omega) (by simp));have HbF:=Lib.hid hbF;clear hk hbF hid3 hid2 hb3 hB2 cs;(go_wp2_with fail);refine bodyPost_ret (results_ct Tryz.results6 _ _ (g + 1) 24 (idC (shaI (hdB h))) (0,0) _ rfl Hrow.out Tryz.underlying24 rfl (by rw [idC_size];exact infoId)) rfl ?_;exact ⟨by rw [Hif.out,H0.out];rfl,by rw [Hg.out];exact HbF.out⟩
  · have hE0 : (E != 0) = true:=by rw [bne_iff_ne];exact h0
    have Hif : Hid (I = id0):=(show _ = _ by rw [HI.out,if_neg h0])
    have hst:=run_stS_at (P:=Tryz.prog) infoId w2 (g + 1) (idC id0) (idC id0) _ hid2 (by simp) (by simp) (idC_one _);have Hrow:=Lib.hid (setRow_heap w2 (g + 1) _ (idC id0) _ _ hid2);have hk : Keep [g + 1] w2 (w2.setRow (g + 1) (idC id0)):=⟨rfl,rfl,rfl,by simp [World.setRow],fun x _ hx=>setRow_other w2 (g + 1) x _ (by simpa using hx)⟩
    have hbF : Below g w (w2.setRow (g + 1) (idC id0)):=hB2.trans (hk.below (by omega) (by simp));have HbF:=Lib.hid hbF;clear hk hbF hid2 hB2 hs h0;(go_wp2_with fail);refine bodyPost_ret (results_ct Tryz.results6 _ _ (g + 1) 24 (idC id0) (0,0) _ rfl Hrow.out Tryz.underlying24 rfl (by rw [idC_size];exact infoId)) rfl ?_;exact ⟨by rw [Hif.out];rfl,by rw [Hg.out];exact HbF.out⟩
end
section
open Go.RowKit
theorem id_string {w : World} {q o c : Nat} {d : Id32} (h : rowAt w q o 32 = some (idC d)) : (convert 89 9 (.slice (some ⟨q,o,none⟩) 32 c)).run Tryz.prog w = .ok (.string ⟨d.l.toArray⟩) w:=by
  have:=run_convert_bytes_back (P:=Tryz.prog) w 89 9 5 ⟨q,o,none⟩ c d.l Tryz.underlying89 Tryz.underlying5 Tryz.underlying9 (fun j hj=>by
    have hadd : (⟨q,o,none⟩ : Addr).add j = ⟨q,o + j,none⟩:=by unfold Addr.add;split <;> simp_all
    have hd:=d.h;rw [hadd,rowAt_cell h (by omega)];simp [idC,byteC,hj])
  rwa [d.h] at this
end
section
open Go.RowKit
theorem flatMap_len {α β : Type} (f : α → List β) (k : Nat) : ∀ l : List α,(∀ a ∈ l,(f a).length ≤ k) → (l.flatMap f).length ≤ l.length * k
  | [],_=>by simp
  | a :: l,h=>by
    have h1:=h a (by simp);have h2:=flatMap_len f k l (fun b hb=>h b (by simp [hb]));simp only [List.flatMap_cons,List.length_append,List.length_cons,Nat.add_mul];omega
end
section
open Go.RowKit
set_option maxRecDepth 100000 in
set_option maxHeartbeats 4000000 in
theorem sha_sum (w : World) (s : ByteArray) (hv : ShaVars w) (hs : s.size ≤ 1000000) :
    Calls Tryz.prog 22 #[.string s] w fun e w'=>e = .returned (.agg (idC (shaI s.data.toList))) ∧ Below w.heap.size w w':=by
  have hb0 : Below w.heap.size w (w.alloc (.cells (idC id0) 24)):=(Below.refl _ _).alloc (Nat.le_refl _) _;have hid:=heap_alloc_new w (.cells (idC id0) 24);have hv0:=hv.below hb0;have c1:=sha_new _ hv0;have hltF:=hv.ltF;have hltK:=hv.ltK;have hll : s.data.toList.length = s.size:=rfl;have hfin : (⟨outU (blkU ((s.size % 64 + (padU s.size).length) / 64) (blkU (s.size / 64) firstU s.data.toList) (s.data.toList.drop (64 * (s.size / 64)) ++ padU s.size)),outU_length _⟩ : Id32) = shaI s.data.toList:=by
    unfold shaI;apply id_congr;rw [shaU_parts,hll,List.length_append,List.length_drop,hll,show s.size - 64 * (s.size / 64) = s.size % 64 by omega]
  have Hfin:=Lib.hid hfin;clear hfin hll hv;obtain ⟨ga,hga⟩ : ∃ ga,w.heap.size = ga:=⟨_,rfl⟩
  have Hga:=Lib.hid hga;rw [show (w.alloc (.cells (idC id0) 24)).heap.size = w.heap.size + 1 by simp] at c1;go_enter Tryz.func22,Tryz.ntmps22
  (go_wp2_with fail);refine c1.mono ?_;rintro e w1 ⟨rfl,rfl⟩;have hg1:=heap_alloc_new (w.alloc (.cells (idC id0) 24)) (.cells (haC firstU (.slice none 0 0) 0) 159);rw [show (w.alloc (.cells (idC id0) 24)).heap.size = w.heap.size + 1 by simp] at hg1;have hb1:=hb0.alloc (by simp) (.cells (haC firstU (.slice none 0 0) 0) 159);have hid1:=(Below.heap_alloc (w.alloc (.cells (idC id0) 24)) (.cells (haC firstU (.slice none 0 0) 0) 159) w.heap.size (by simp)).trans hid;have hv1 : ShaVars ((w.alloc (.cells (idC id0) 24)).alloc (.cells (haC firstU (.slice none 0 0) 0) 159)):=hv0.kept (Keep.alloc _ _) (by simp) (by simp);obtain ⟨W,hW⟩ : ∃ W,W = (w.alloc (.cells (idC id0) 24)).alloc (.cells (haC firstU (.slice none 0 0) 0) 159):=⟨_,rfl⟩
  rw [← hW] at hg1 hb1 hid1 hv1 ⊢;rw [hga] at hg1 hb1 hid1 hltF hltK ⊢;have hgW : ga + 1 < W.heap.size:=(Array.getElem?_eq_some_iff.1 hg1).1;have c2:=sha_write W (ga + 1) 159 firstU s hv1 hg1 hs (by show ga + 1 ≠ _;omega) (by show ga + 1 ≠ _;omega);clear hW hb0 hid hv0 c1 hga;(go_wp2_with fail);refine c2.mono ?_;rintro e w2 ⟨rfl,A,cap,hg2,hsl2,hk2⟩;have hid2:=(hk2.block ga (by omega) (by simp)).trans hid1;have hv2:=hv1.kept hk2 (by simp) (by simp;omega);have hb2 : Below ga w w2:=hb1.trans (hk2.below (by omega) (by simp));have c3:=sha_sumH w2 (ga + 1) 159 _ A _ cap s.size _ hv2 hg2 hsl2 hs rfl;rw [Hfin.out] at c3;have hs2:=hk2.size;clear c2 hg1 hb1 hid1 hv1 hg2 hsl2 hk2 hv2 Hfin;(go_wp2_with fail);refine c3.mono ?_;rintro e w3 ⟨rfl,hb3⟩;have hid3:=(hb3.block ga (by omega)).trans hid2;have hsto:=run_stS_at (P:=Tryz.prog) infoId w3 ga (idC id0) (idC (shaI s.data.toList)) _ hid3 (by simp) (by simp) (idC_one _);have Hfin:=Lib.hid (setRow_heap w3 ga _ (idC (shaI s.data.toList)) _ _ hid3);have hkf : Keep [ga] w3 (w3.setRow ga (idC (shaI s.data.toList))):=⟨rfl,rfl,rfl,by simp [World.setRow],fun x _ hx=>setRow_other w3 ga x _ (by simpa using hx)⟩
  have hb3s:=hb3.size;have hbz : Below ga w (w3.setRow ga (idC (shaI s.data.toList))):=(hb2.trans (hb3.mono (by omega))).trans (hkf.below (by omega) (by simp));have Hbz:=Lib.hid hbz;clear hkf hbz hid3 hid2 hb3 hb2 c3;(go_wp2_with fail);exact bodyPost_ret (results_cell_row Tryz.results22 _ _ ga 24 (idC (shaI s.data.toList)) (0,0) _ rfl Hfin.out Tryz.underlying24 rfl (by rw [idC_size];exact infoId)) rfl ⟨rfl,by rw [Hga.out];exact Hbz.out⟩
end
section
open Go.RowKit
set_option maxRecDepth 100000 in
set_option maxHeartbeats 8000000 in
theorem hd_put (w : World) (h : HdV) (A : Option Addr) (c : Nat) (hT : TagsIn w A h.ps.length h.ps) (hn : h.ps.length ≤ 1000000) (ht : h.tp.size ≤ 9223372036854775807) :
    Calls Tryz.prog 66 #[.agg (hdC (hdO h A c))] w fun e w'=>∃ s : ByteArray,e = .returned (.tuple #[.string s,.int .i64 (hdE h)]) ∧ (hdE h = 0 → s.data.toList = hdB h) ∧ Below w.heap.size w w':=by
  have hB : Below w.heap.size w (w.alloc (.cells (hdC (hdO h A c)) 30)):=(Below.refl _ _).alloc (Nat.le_refl _) _;have hr : rowAt (w.alloc (.cells (hdC (hdO h A c)) 30)) w.heap.size 0 38 = some (hdC (hdO h A c)):=by simp [go_sem]
  have hT0:=SlR.below hT hB;have cc:=hd_check _ h A c hT0 hn ht;obtain ⟨E,hE⟩ : ∃ E,hdE h = E:=⟨_,rfl⟩
  rw [hE] at cc ⊢;have HE:=Lib.hid hE;obtain ⟨W,hW⟩ : ∃ W,W = w.alloc (.cells (hdC (hdO h A c)) 30):=⟨_,rfl⟩
  rw [← hW] at hB hr hT0 cc;have HW:=Lib.hid hW;obtain ⟨g,hg⟩ : ∃ g,w.heap.size = g:=⟨_,rfl⟩
  have Hg:=Lib.hid hg;have hgW : g < W.heap.size:=by rw [hW,← hg];simp
  rw [hg] at hB hr;clear hE hW hT;go_enter Tryz.func66,Tryz.ntmps66
  go_upto_region 1 with fail
  rw [← HW.out];clear hg;(go_wp2_with fail);refine cc.mono ?_;rintro e w2 ⟨rfl,hb2⟩;have hB2 : Below g w w2:=hB.trans (hb2.mono (by omega));clear cc;by_cases h0 : E = 0
  · subst h0;have hok:=hdE_ok HE.out;have hr2:=(rowAt_of_block (hb2.block g hgW) 0 38).trans hr;have hT2:=SlR.below hT0 hb2;have hg2 : g < w2.heap.size:=rowAt_lt hr2;obtain ⟨H,hH⟩ : ∃ H : Nat,h.ht = H:=⟨h.ht.toNat,by have:=hok.ht;omega⟩
    obtain ⟨au,hau⟩ : ∃ au : Nat,h.au = au:=⟨h.au.toNat,by have:=hok.au;omega⟩
    obtain ⟨sq,hsq⟩ : ∃ sq : Nat,h.sq = sq:=⟨h.sq.toNat,by have:=hok.sq;omega⟩
    obtain ⟨sz,hsz⟩ : ∃ sz : Nat,h.sz = sz:=⟨h.sz.toNat,by have:=hok.sz;omega⟩
    have htp:=checkB_size hok.tp;have hps:=hok.ps;have b1 : H < 256 ^ 4:=by have:=hok.ht;omega
    have b3 : au < 256 ^ 1:=by have:=hok.au;omega
    have b4 : sq < 256 ^ 4:=by have:=hok.sq;omega
    have b5 : sz < 256 ^ 2:=by have:=hok.sz;omega
    have hdb : hdB h = beL 1 h.ps.length ++ h.ps.flatMap Id32.l ++ beL 4 H ++ beL 1 h.tp.size ++ h.tp.data.toList ++ beL 1 au ++ beL 4 sq ++ beL 2 sz ++ h.cm.l:=by
      unfold hdB;rw [hH,hau,hsq,hsz];rfl
    have Hdb:=Lib.hid hdb;have cl : ∀ (w' : World),w'.heap[g]? = w2.heap[g]? → w'.cell? ⟨g,0,none⟩ = some (.slice A h.ps.length c) ∧ w'.cell? ⟨g,1,none⟩ = some (.int .i64 H) ∧ w'.cell? ⟨g,2,none⟩ = some (.string h.tp) ∧ w'.cell? ⟨g,3,none⟩ = some (.int .i64 au) ∧ w'.cell? ⟨g,4,none⟩ = some (.int .i64 sq) ∧ w'.cell? ⟨g,5,none⟩ = some (.int .i64 sz) ∧ rowAt w' g 6 32 = some (idC h.cm):=fun w' hw=>by
      have hr3:=(rowAt_of_block hw 0 38).trans hr2;have x0:=rowAt_cell hr3 (j:=0) (by omega);have x1:=rowAt_cell hr3 (j:=1) (by omega);have x2:=rowAt_cell hr3 (j:=2) (by omega);have x3:=rowAt_cell hr3 (j:=3) (by omega);have x4:=rowAt_cell hr3 (j:=4) (by omega);have x5:=rowAt_cell hr3 (j:=5) (by omega);have x6:=rowAt_sub hr3 (j:=6) (m:=32) (by omega);simp only [hdC_g0,hdC_g1,hdC_g2,hdC_g3,hdC_g4,hdC_g5,Nat.zero_add] at x0 x1 x2 x3 x4 x5 x6;rw [hdC_e6] at x6;simp only [hdO,hH,hau,hsq,hsz] at x0 x1 x2 x3 x4 x5 x6;exact ⟨x0,x1,x2,x3,x4,x5,x6⟩
    have Hcl:=Lib.hid cl;obtain ⟨x0,_⟩:=cl w2 rfl;obtain ⟨S,hS0⟩ : ∃ S,h.ps = S:=⟨_,rfl⟩
    rw [hS0] at hT2 x0 hps Hdb Hcl;clear cl hdb hr2 hH hau hsq hsz hok hS0 hr hT0;go_upto_region 4 with fail
    refine wp_region_lex (Bel w2) false (by kernel_rfl) (by kernel_rfl) (by kernel_rfl) (bel_drew w2) ?_;have hne:=bel_some w2;have hS:=bel_drew w2;have c0:=sub_cell x0;repeat (refine wpLx_loose ?_ ?_;(focus (simp only [chainOp];done));intro K hK;go_simp;refine hK _ ?_;clear hK K)
    refine wpLx_chain ?_ ?_ ?_;(focus (exact hS));(focus (simp only [chainOp];done));intro K hK;go_simp;refine (wnew _).mono ?_;rintro e w3 ⟨rfl,hw3,hb3⟩;have h23:=hS.size;replace hS:=bel_next hS hb3;refine ⟨_,rfl,hS,hK _ _ ?_⟩;clear hK K;repeat (refine wpLx_loose ?_ ?_;(focus (simp only [chainOp];done));intro K hK;go_simp;refine hK _ ?_;clear hK K)
    refine wpLx_chain ?_ ?_ ?_;(focus (exact hS));(focus (simp only [chainOp];done));intro K hK;go_simp;refine (wnum _ _ _ _ _ _ hw3 S.length 1 (by omega) (by omega) (by simp)).mono ?_;rintro e W3 ⟨rfl,AW,capW,hwW,hkW,hsubW⟩;simp only [List.nil_append] at hwW;have hwW' : WrAt W3 (w2.heap.size + 1) w2.heap.size AW capW (beL 1 S.length):=hwW;have hk23 : Keep [] w2 w3:=Keep.of_below hS;have hbel : Below w2.heap.size w2 W3:=(hS : Below w2.heap.size w2 w3).trans (hkW.below hk23.size (by show ∀ x ∈ w2.heap.size :: blk none,_;simp [blk]));refine ⟨_,rfl,hbel,hK _ _ ?_⟩;clear hK K;repeat (refine wpLx_loose ?_ ?_;(focus (simp only [chainOp];done));intro K hK;go_simp;refine hK _ ?_;clear hK K)
    refine wpLx_nil ?_;intro hS;clear hne hS c0 hw3 hb3 hkW hk23 h23 hwW;obtain ⟨gw,hgw⟩ : ∃ gw,w2.heap.size = gw:=⟨_,rfl⟩
    have hAW : ∀ x ∈ blk AW,gw < x:=fun x hx=>(by have:=(hwW'.own.at_base hx).1;omega);have hB3 : Below g w W3:=hB2.trans (hbel.mono (by omega));have hg3:=hbel.block g hg2;have hT3:=SlR.below hT2 hbel;have hTb : ∀ x ∈ blk A,x < gw ∨ S.length = 0:=fun x hx=>by
      by_cases h0 : S.length = 0
      · exact .inr h0
      · left
        obtain ⟨q,o,rfl,hq⟩:=TagsIn.get hT2 (i:=0) (by omega) (by omega);simp [blk] at hx;subst hx;have:=rowAt_lt hq;omega
    have HTb:=Lib.hid hTb;have hgg : g < gw:=by omega
    rw [hgw] at hwW' hbel;simp only [hgw];have hgwl : gw < W3.heap.size:=hwW'.lt;clear hgw hTb hT2 hB2 hg2 hbel hsubW;obtain ⟨_,_,_⟩:=Hcl.out W3 hg3;go_upto_region 6 with fail
    go_loopw [7,21] (fun _ i wr=>∃ k : Nat,k ≤ S.length ∧ i = .int .i64 (k : Nat) ∧ WStep W3 (gw + 1) gw AW (beL 1 S.length ++ (S.take k).flatMap Id32.l) wr) (fun _ i _=>S.length - (intOf i).toNat)
    case atStart=>exact ⟨0,Nat.zero_le _,rfl,AW,capW,by simpa using hwW',Keep.refl _ _,fun x hx=>.inl hx⟩
    case round =>
      clear hwW';obtain ⟨k,hk,rfl,A4,cap4,hw4,hk4,hsub4⟩:=hrel;by_cases hlt : k < S.length
      · have hdis : ∀ x ∈ blk A,x ∉ gw :: blk AW:=fun x hx=>by
          have h1:=HTb.out x hx;simp only [List.mem_cons,not_or];exact ⟨by omega,fun hy=>by have:=hAW x hy;omega⟩
        have hLr:=hT3.kept hk4 hdis;obtain ⟨q,o,rfl,hr⟩:=TagsIn.get hLr hlt hlt;have htk : (S.take (k + 1)).flatMap Id32.l = (S.take k).flatMap Id32.l ++ (S[k]).l:=by rw [List.take_add_one,List.getElem?_eq_getElem hlt,List.flatMap_append];simp only [Option.toList_some,List.flatMap_cons,List.flatMap_nil,List.append_nil]
        have hbl:=flatMap_len Id32.l 32 (S.take k) (fun x hx=>by rw [x.h];exact Nat.le_refl _);have htl : (S.take k).length = k:=by simp;omega
        rw [htl] at hbl;obtain ⟨x,hx⟩ : ∃ x,S[k]'hlt = x:=⟨_,rfl⟩
        rw [hx] at hr htk;have Htk:=Lib.hid htk;clear hx htk hLr htl hdis;have hbl0 : (beL 1 S.length ++ (S.take k).flatMap Id32.l).length ≤ 300000000:=by rw [List.length_append,beL_length];omega
        obtain ⟨bs0,hbs0⟩ : ∃ bs0,beL 1 S.length ++ (S.take k).flatMap Id32.l = bs0:=⟨_,rfl⟩
        have Hbs0:=Lib.hid hbs0;rw [hbs0] at hw4 hbl0;clear hbs0 hbl;have hb5 : Below wr.heap.size wr (wr.alloc (.cells (idC x) 24)):=(Below.refl _ _).alloc (Nat.le_refl _) _;have hw5:=hw4.below hb5;have hk5 : Keep [] wr (wr.alloc (.cells (idC x) 24)):=Keep.alloc _ _;have hbox : rowAt (wr.alloc (.cells (idC x) 24)) wr.heap.size 0 32 = some (idC x):=by simp [go_sem]
        have hconv : ∀ c,(convert 89 9 (.slice (some ⟨wr.heap.size,0,none⟩) 32 c)).run Tryz.prog (wr.alloc (.cells (idC x) 24)) = .ok (.string ⟨x.l.toArray⟩) (wr.alloc (.cells (idC x) 24)):=fun c=>id_string hbox;have e3 : (⟨x.l.toArray⟩ : ByteArray).size = 32:=by show x.l.toArray.size = 32;simp [x.h]
        have e4 : (⟨x.l.toArray⟩ : ByteArray).data.toList = x.l:=by simp
        have cw:=wraw _ (gw + 1) gw A4 cap4 bs0 hw5 ⟨x.l.toArray⟩ (by rw [e3];omega);rw [e4] at cw;clear e3 e4 hbox;(go_wp2_with fail);refine cw.mono ?_;rintro e w6 ⟨rfl,hst⟩;have hst2:=wstep_trans hw4 hk4 hsub4 (wstep_trans hw5 (hk5.mono (S':=gw :: blk A4) (by simp)) (fun x hx=>.inl hx) hst);rw [← Hbs0.out,List.append_assoc,← Htk.out] at hst2;have Hst:=Lib.hid hst2;clear hst hst2 hconv cw hb5 hw5 hk5 hw4 hk4 hsub4;(go_wp2_with fail);go_roundw
        case rel=>exact ⟨k + 1,by omega,by go_num,Hst.out⟩
        case measure=>simp [intOf];omega
      · have hkL : S.take k = S:=List.take_of_length_le (by omega);rw [hkL] at hw4;obtain ⟨P0,hP0⟩ : ∃ P0,beL 1 S.length ++ S.flatMap Id32.l = P0:=⟨_,rfl⟩
        have hbl:=flatMap_len Id32.l 32 S (fun x hx=>by rw [x.h];exact Nat.le_refl _);have hPl : P0.length ≤ 200:=by rw [← hP0,List.length_append,beL_length];omega
        rw [hP0] at hw4;have HP0:=Lib.hid hP0;have hA4 : ∀ x ∈ blk A4,gw < x:=fun x hx=>(by have:=(hw4.own.at_base hx).1;omega);have hgn : g ∉ gw :: blk AW:=by
          simp only [List.mem_cons,not_or];exact ⟨by omega,fun hy=>by have:=hAW g hy;omega⟩
        have hgn4 : g ∉ gw :: blk A4:=by
          simp only [List.mem_cons,not_or];exact ⟨by omega,fun hy=>by have:=hA4 g hy;omega⟩
        have hgr:=(hk4.block g (by omega) hgn).trans hg3;have hB4 : Below g w wr:=hB3.trans (hk4.below (B:=g) (by omega) (fun x hx=>by
          rcases List.mem_cons.1 hx with rfl | hx
          · omega
          · have:=hAW x hx;omega))
        have hwrl : gw < wr.heap.size:=hw4.lt;obtain ⟨_,x1,x2,_⟩:=Hcl.out wr hgr;have e1 : h.tp.data.toList.length = h.tp.size:=Array.length_toList;have E1:=Lib.hid e1;clear hkL hP0 hbl e1 hk4 hsub4 hg3 hB3 hgn;go_upto_region 10 with fail
        have hst : WStep wr (gw + 1) gw A4 P0 wr.drew:=⟨A4,cap4,hw4.kept (Keep.drew wr) (by simp) (by simp),(Keep.drew wr).mono (by simp),fun x hx=>.inl hx⟩
        refine wp_region_lex (Kp (gw :: blk A4) wr) false (by kernel_rfl) (by kernel_rfl) (by kernel_rfl) (kp_drew (gw :: blk A4) wr) ?_;have hne:=kp_some (gw :: blk A4) wr;have hS:=kp_drew (gw :: blk A4) wr;have c1:=ksub_cell x1 hgn4;have c2:=ksub_cell x2 hgn4;repeat (refine wpLx_loose ?_ ?_;(focus (simp only [chainOp];done));intro K hK;go_simp;refine hK _ ?_;clear hK K)
        refine wpLx_chain ?_ ?_ ?_;(focus (exact hS));(focus (simp only [chainOp];done));intro K hK;go_simp;obtain ⟨Ai,capi,hwi,hki,hsubi⟩:=hst;refine (wnum _ _ _ _ _ _ hwi H 4 (by omega) b1 (by omega)).mono ?_;rintro e w' ⟨rfl,hst'⟩;replace hst:=wstep_trans hwi hki hsubi hst';have hS:=hst.choose_spec.choose_spec.2.1;refine ⟨_,rfl,hS,hK _ _ ?_⟩;clear hK K hwi hki hsubi hst';repeat (refine wpLx_loose ?_ ?_;(focus (simp only [chainOp];done));intro K hK;go_simp;refine hK _ ?_;clear hK K)
        refine wpLx_chain ?_ ?_ ?_;(focus (exact hS));(focus (simp only [chainOp];done));intro K hK;go_simp;obtain ⟨Ai,capi,hwi,hki,hsubi⟩:=hst;refine (wnum _ _ _ _ _ _ hwi h.tp.size 1 (by omega) (by omega) (by rw [List.length_append,beL_length];omega)).mono ?_;rintro e w' ⟨rfl,hst'⟩;replace hst:=wstep_trans hwi hki hsubi hst';have hS:=hst.choose_spec.choose_spec.2.1;refine ⟨_,rfl,hS,hK _ _ ?_⟩;clear hK K hwi hki hsubi hst';repeat (refine wpLx_loose ?_ ?_;(focus (simp only [chainOp];done));intro K hK;go_simp;refine hK _ ?_;clear hK K)
        refine wpLx_chain ?_ ?_ ?_;(focus (exact hS));(focus (simp only [chainOp];done));intro K hK;go_simp;obtain ⟨Ai,capi,hwi,hki,hsubi⟩:=hst;refine (wraw _ _ _ _ _ _ hwi h.tp (by simp only [List.length_append,beL_length];omega)).mono ?_;rintro e w' ⟨rfl,hst'⟩;replace hst:=wstep_trans hwi hki hsubi hst';have hS:=hst.choose_spec.choose_spec.2.1;refine ⟨_,rfl,hS,hK _ _ ?_⟩;clear hK K hwi hki hsubi hst';repeat (refine wpLx_loose ?_ ?_;(focus (simp only [chainOp];done));intro K hK;go_simp;refine hK _ ?_;clear hK K)
        refine wpLx_nil ?_;intro hS;obtain ⟨A5,cap5,hw5,hk5,hsub5⟩:=hst;obtain ⟨w5,rfl⟩ : ∃ w5,w5 = w':=⟨w',rfl⟩
        have hgr5:=(hk5.block g (by omega) hgn4).trans hgr;have hB5 : Below g w w5:=hB4.trans (hk5.below (B:=g) (by omega) (fun x hx=>by
          rcases List.mem_cons.1 hx with rfl | hx
          · omega
          · have:=hA4 x hx;omega))
        obtain ⟨_,_,_,x3,x4,x5,x6⟩:=Hcl.out w5 hgr5;obtain ⟨P1,hP1⟩ : ∃ P1,P0 ++ beL 4 H ++ beL 1 h.tp.size ++ h.tp.data.toList = P1:=⟨_,rfl⟩
        have hPl1 : P1.length ≤ 300:=by rw [← hP1];simp only [List.length_append,beL_length];have:=E1.out;omega
        rw [hP1] at hw5;have HP1:=Lib.hid hP1;have hA5 : ∀ x ∈ blk A5,gw < x:=fun x hx=>(by have:=(hw5.own.at_base hx).1;omega);have hgn5 : g ∉ gw :: blk A5:=by
          simp only [List.mem_cons,not_or];exact ⟨by omega,fun hy=>by have:=hA5 g hy;omega⟩
        have hw5l : gw < w5.heap.size:=hw5.lt;clear hP1 hne hS c1 c2 hk5 hsub5 hgr hB4 hw4 hA4 hgn4 x1 x2;go_upto_region 11 with fail
        have hconv : ∀ (y : Subtype (Kp (gw :: blk A5) w5)) c,(convert 89 9 (.slice (some ⟨g,6,none⟩) 32 c)).run Tryz.prog y.1 = .ok (.string ⟨h.cm.l.toArray⟩) y.1:=fun y c=>id_string (ksub_row x6 hgn5 y);have e3 : (⟨h.cm.l.toArray⟩ : ByteArray).size = 32:=by show h.cm.l.toArray.size = 32;simp [h.cm.h]
        have e4 : (⟨h.cm.l.toArray⟩ : ByteArray).data.toList = h.cm.l:=by simp
        have E3:=Lib.hid e3;have E4:=Lib.hid e4;clear e3 e4;have hst : WStep w5 (gw + 1) gw A5 P1 w5.drew:=⟨A5,cap5,hw5.kept (Keep.drew w5) (by simp) (by simp),(Keep.drew w5).mono (by simp),fun x hx=>.inl hx⟩
        refine wp_region_lex (Kp (gw :: blk A5) w5) false (by kernel_rfl) (by kernel_rfl) (by kernel_rfl) (kp_drew (gw :: blk A5) w5) ?_;have hne:=kp_some (gw :: blk A5) w5;have hS:=kp_drew (gw :: blk A5) w5;have c3:=ksub_cell x3 hgn5;have c4:=ksub_cell x4 hgn5;have c5:=ksub_cell x5 hgn5;repeat (refine wpLx_loose ?_ ?_;(focus (simp only [chainOp];done));intro K hK;go_simp;refine hK _ ?_;clear hK K)
        refine wpLx_chain ?_ ?_ ?_;(focus (exact hS));(focus (simp only [chainOp];done));intro K hK;go_simp;obtain ⟨Ai,capi,hwi,hki,hsubi⟩:=hst;refine (wnum _ _ _ _ _ _ hwi au 1 (by omega) b3 (by omega)).mono ?_;rintro e w' ⟨rfl,hst'⟩;replace hst:=wstep_trans hwi hki hsubi hst';have hS:=hst.choose_spec.choose_spec.2.1;refine ⟨_,rfl,hS,hK _ _ ?_⟩;clear hK K hwi hki hsubi hst';repeat (refine wpLx_loose ?_ ?_;(focus (simp only [chainOp];done));intro K hK;go_simp;refine hK _ ?_;clear hK K)
        refine wpLx_chain ?_ ?_ ?_;(focus (exact hS));(focus (simp only [chainOp];done));intro K hK;go_simp;obtain ⟨Ai,capi,hwi,hki,hsubi⟩:=hst;refine (wnum _ _ _ _ _ _ hwi sq 4 (by omega) b4 (by rw [List.length_append,beL_length];omega)).mono ?_;rintro e w' ⟨rfl,hst'⟩;replace hst:=wstep_trans hwi hki hsubi hst';have hS:=hst.choose_spec.choose_spec.2.1;refine ⟨_,rfl,hS,hK _ _ ?_⟩;clear hK K hwi hki hsubi hst';repeat (refine wpLx_loose ?_ ?_;(focus (simp only [chainOp];done));intro K hK;go_simp;refine hK _ ?_;clear hK K)
        refine wpLx_chain ?_ ?_ ?_;(focus (exact hS));(focus (simp only [chainOp];done));intro K hK;go_simp;obtain ⟨Ai,capi,hwi,hki,hsubi⟩:=hst;refine (wnum _ _ _ _ _ _ hwi sz 2 (by omega) b5 (by simp only [List.length_append,beL_length];omega)).mono ?_;rintro e w' ⟨rfl,hst'⟩;replace hst:=wstep_trans hwi hki hsubi hst';have hS:=hst.choose_spec.choose_spec.2.1;refine ⟨_,rfl,hS,hK _ _ ?_⟩;clear hK K hwi hki hsubi hst';repeat (refine wpLx_loose ?_ ?_;(focus (simp only [chainOp];done));intro K hK;go_simp;refine hK _ ?_;clear hK K)
        refine wpLx_chain ?_ ?_ ?_;(focus (exact hS));(focus (simp only [chainOp];done));intro K hK;go_simp;obtain ⟨Ai,capi,hwi,hki,hsubi⟩:=hst;refine (wraw _ _ _ _ _ _ hwi ⟨h.cm.l.toArray⟩ (by rw [E3.out];simp only [List.length_append,beL_length];omega)).mono ?_;rintro e w' ⟨rfl,hst'⟩;replace hst:=wstep_trans hwi hki hsubi hst';have hS:=hst.choose_spec.choose_spec.2.1;refine ⟨_,rfl,hS,hK _ _ ?_⟩;clear hK K hwi hki hsubi hst';repeat (refine wpLx_loose ?_ ?_;(focus (simp only [chainOp];done));intro K hK;go_simp;refine hK _ ?_;clear hK K)
        refine wpLx_nil ?_;intro hS;obtain ⟨A6,cap6,hw6,hk6,hsub6⟩:=hst;obtain ⟨w6,rfl⟩ : ∃ w6,w6 = w':=⟨w',rfl⟩
        have hB6 : Below g w w6:=hB5.trans (hk6.below (B:=g) (by omega) (fun x hx=>by
          rcases List.mem_cons.1 hx with rfl | hx
          · omega
          · have:=hA5 x hx;omega))
        have heq : P1 ++ beL 1 au ++ beL 4 sq ++ beL 2 sz ++ (⟨h.cm.l.toArray⟩ : ByteArray).data.toList = hdB h:=by
          rw [Hdb.out,E4.out,← HP1.out,← HP0.out]
        rw [heq] at hw6;have HB6:=Lib.hid hB6;clear hne hS c3 c4 c5 hk6 hsub6 hgr5 hB5 hw5 hA5 hgn5 x3 x4 x5 x6 hconv heq hB6;(go_wp2_with fail);refine (wdone _ _ _ _ _ _ hw6).mono ?_;rintro e w7 ⟨rfl,rfl⟩;(go_wp2_with fail);go_ret2;refine ⟨_,rfl,?_,by rw [Hg.out];exact HB6.out⟩;first | trivial | rfl | simp
  · have hb : (E != 0) = true:=by rw [bne_iff_ne];exact h0
    have H0:=Lib.hid h0;clear h0;(go_wp2_with fail);go_ret2;exact ⟨⟨#[]⟩,rfl,fun h=>absurd h H0.out,by rw [Hg.out];exact hB2⟩
set_option maxRecDepth 100000 in
set_option maxHeartbeats 4000000 in
theorem hd_ident (w : World) (h : HdV) (A : Option Addr) (c : Nat) (hv : ShaVars w) (hT : TagsIn w A h.ps.length h.ps) (hn : h.ps.length ≤ 1000000) (ht : h.tp.size ≤ 9223372036854775807) :
    Calls Tryz.prog 36 #[.agg (hdC (hdO h A c))] w fun e w'=>e = .returned (.tuple #[.agg (idC (hdI h)),.int .i64 (hdE h)]) ∧ Below w.heap.size w w':=by
  have hB : Below w.heap.size w ((w.alloc (.cells (hdC (hdO h A c)) 30)).alloc (.cells (idC id0) 24)):=((Below.refl _ _).alloc (Nat.le_refl _) _).alloc (by simp) _;have hr : rowAt ((w.alloc (.cells (hdC (hdO h A c)) 30)).alloc (.cells (idC id0) 24)) w.heap.size 0 38 = some (hdC (hdO h A c)):=by
    rw [rowAt_of_block (Below.heap_alloc _ _ _ (by simp))];simp [go_sem]
  have hid:=heap_alloc_new (w.alloc (.cells (hdC (hdO h A c)) 30)) (.cells (idC id0) 24);rw [show (w.alloc (.cells (hdC (hdO h A c)) 30)).heap.size = w.heap.size + 1 by simp] at hid;have cp:=hd_put _ h A c (SlR.below hT hB) hn ht;have hv0:=hv.below hB;obtain ⟨W,hW⟩ : ∃ W,W = (w.alloc (.cells (hdC (hdO h A c)) 30)).alloc (.cells (idC id0) 24):=⟨_,rfl⟩
  rw [← hW] at hB hr hid cp hv0;have HW:=Lib.hid hW;obtain ⟨g,hg⟩ : ∃ g,w.heap.size = g:=⟨_,rfl⟩
  have Hg:=Lib.hid hg;have hgW : g + 1 < W.heap.size:=by rw [hW,← hg];simp
  rw [hg] at hB hr hid;obtain ⟨E,hE⟩ : ∃ E,hdE h = E:=⟨_,rfl⟩
  have hI : hdI h = if E = 0 then shaI (hdB h) else id0:=by rw [← hE];rfl
  have hbz : E = 0 → (hdB h).length ≤ 1000000:=fun e0=>by
    have hok:=hdE_ok (hE.trans e0);have h1:=checkB_size hok.tp;have h2:=hok.ps;have h3:=flatMap_len Id32.l 32 h.ps (fun x hx=>by rw [x.h];exact Nat.le_refl _);have h4 : h.tp.data.toList.length = h.tp.size:=Array.length_toList;have h5 : (h.ps.flatMap (·.l)).length ≤ h.ps.length * 32:=h3;unfold hdB;simp only [List.length_append,beL_length,h4,h.cm.h];omega
  rw [hE] at cp;obtain ⟨I,hII⟩ : ∃ I,hdI h = I:=⟨_,rfl⟩
  rw [hII] at hI;rw [hII,hE];have HI:=Lib.hid hI;clear hW hT hE hI hII hv;go_enter Tryz.func36,Tryz.ntmps36
  go_upto_region 1 with fail
  rw [← HW.out];clear hg;(go_wp2_with fail);refine cp.mono ?_;rintro e w2 ⟨s,rfl,hs,hb2⟩;have hid2:=(hb2.block (g + 1) hgW).trans hid;have hB2 : Below g w w2:=hB.trans (hb2.mono (by omega));have hg2 : g + 1 < w2.heap.size:=by have:=hb2.size;omega
  have hv2:=hv0.below hb2;clear cp hr hid hb2 hv0;by_cases h0 : E = 0
  · have hE0 : (E != 0) = false:=by rw [bne_eq_false_iff_eq];exact h0
    have hsd:=hs h0;have hss : s.size ≤ 1000000:=by have h1:=hbz h0;rw [← hsd] at h1;exact h1
    have cs:=sha_sum w2 s hv2 hss;rw [hsd] at cs;have Hif : Hid (I = shaI (hdB h)):=(show _ = _ by rw [HI.out,if_pos h0])
    have H0:=Lib.hid h0;clear hs hsd h0 hbz;(go_wp2_with fail);refine cs.mono ?_;rintro e w3 ⟨rfl,hb3⟩;have hid3:=(hb3.block (g + 1) hg2).trans hid2;have hst:=run_stS_at (P:=Tryz.prog) infoId w3 (g + 1) (idC id0) (idC (shaI (hdB h))) _ hid3 (by simp) (by simp) (idC_one _);have Hrow:=Lib.hid (setRow_heap w3 (g + 1) _ (idC (shaI (hdB h))) _ _ hid3);have hk : Keep [g + 1] w3 (w3.setRow (g + 1) (idC (shaI (hdB h)))):=⟨rfl,rfl,rfl,by simp [World.setRow],fun x _ hx=>setRow_other w3 (g + 1) x _ (by simpa using hx)⟩
    have hbF : Below g w (w3.setRow (g + 1) (idC (shaI (hdB h)))):=(hB2.trans (hb3.mono (by omega))).trans (hk.below (by have:=hb3.size;omega) (by simp));have HbF:=Lib.hid hbF;clear hk hbF hid3 hid2 hb3 hB2 cs;(go_wp2_with fail);refine bodyPost_ret (results_ct Tryz.results36 _ _ (g + 1) 24 (idC (shaI (hdB h))) (0,0) _ rfl Hrow.out Tryz.underlying24 rfl (by rw [idC_size];exact infoId)) rfl ?_;exact ⟨by rw [Hif.out,H0.out];rfl,by rw [Hg.out];exact HbF.out⟩
  · have hE0 : (E != 0) = true:=by rw [bne_iff_ne];exact h0
    have Hif : Hid (I = id0):=(show _ = _ by rw [HI.out,if_neg h0])
    have hst:=run_stS_at (P:=Tryz.prog) infoId w2 (g + 1) (idC id0) (idC id0) _ hid2 (by simp) (by simp) (idC_one _);have Hrow:=Lib.hid (setRow_heap w2 (g + 1) _ (idC id0) _ _ hid2);have hk : Keep [g + 1] w2 (w2.setRow (g + 1) (idC id0)):=⟨rfl,rfl,rfl,by simp [World.setRow],fun x _ hx=>setRow_other w2 (g + 1) x _ (by simpa using hx)⟩
    have hbF : Below g w (w2.setRow (g + 1) (idC id0)):=hB2.trans (hk.below (by omega) (by simp));have HbF:=Lib.hid hbF;clear hk hbF hid2 hB2 hs h0 hbz;(go_wp2_with fail);refine bodyPost_ret (results_ct Tryz.results36 _ _ (g + 1) 24 (idC id0) (0,0) _ rfl Hrow.out Tryz.underlying24 rfl (by rw [idC_size];exact infoId)) rfl ?_;exact ⟨by rw [Hif.out];rfl,by rw [Hg.out];exact HbF.out⟩
end
section
open Go.RowKit
theorem nodup_inj {α : Type} : ∀ {l : List α},l.Nodup → ∀ {i j : Nat} {a : α},l[i]? = some a → l[j]? = some a → i = j
  | [],_,_,_,_,h,_=>by simp at h
  | x :: l,hn,i,j,a,hi,hj=>by
    rw [List.nodup_cons] at hn
    match i,j,hi,hj with
    | 0,0,_,_=>rfl
    | 0,j + 1,hi,hj=>simp at hi hj;subst hi;exact absurd (List.mem_of_getElem? hj) hn.1
    | i + 1,0,hi,hj=>simp at hi hj;subst hj;exact absurd (List.mem_of_getElem? hi) hn.1
    | i + 1,j + 1,hi,hj =>
      have:=nodup_inj hn.2 (i:=i) (j:=j) (a:=a) (by simpa using hi) (by simpa using hj);omega
section
variable {P : Program} {K : TypeId} {κ ν : Type}
structure KeyEnc (P : Program) (K : TypeId) {κ : Type} (kv : κ → Value) (ok : κ → Prop) : Prop where
  law : WideMaps.KeyLaw P K
  key : ∀ k,ok k → ∃ l,keyOf P K (kv k) = some l
  inj : ∀ a b,kv a = kv b → a = b
structure MapAt (w : World) (b : Nat) (kv : κ → Value) (vv : ν → Value) (ok : κ → Prop) (M : List (κ × ν)) (es : Array MapEntry) (clk : Nat) : Prop where
  heap : w.heap[b]? = some (.map es clk)
  keys : es.toList.map (·.key) = M.map (fun p=>kv p.1)
  vals : es.toList.map (·.val) = M.map (fun p=>vv p.2)
  nodup : (M.map (·.1)).Nodup
  okk : ∀ p ∈ M,ok p.1
  born : (es.toList.map (·.born)).Nodup
  clock : ∀ e ∈ es.toList,e.born < clk
def putL [DecidableEq κ] (M : List (κ × ν)) (k : κ) (v : ν) : List (κ × ν):=if k ∈ M.map (·.1) then M.map (fun p=>if p.1 = k then (k,v) else p) else M ++ [(k,v)]
variable {kv : κ → Value} {vv : ν → Value} {ok : κ → Prop} {w : World} {b : Nat} {M : List (κ × ν)} {es : Array MapEntry} {clk : Nat}
theorem MapAt.at_ (h : MapAt w b kv vv ok M es clk) {j : Nat} {p : κ × ν} (hp : M[j]? = some p) : ∃ e,es.toList[j]? = some e ∧ e.key = kv p.1 ∧ e.val = vv p.2:=by
  have hk:=congrArg (fun l=>l[j]?) h.keys;have hv:=congrArg (fun l=>l[j]?) h.vals;simp only [List.getElem?_map,hp,Option.map_some] at hk hv;cases he : es.toList[j]? with
  | none=>rw [he] at hk;cases hk
  | some e =>
    rw [he] at hk hv;exact ⟨e,rfl,by simpa using hk,by simpa using hv⟩
theorem MapAt.at_key (h : MapAt w b kv vv ok M es clk) {j : Nat} {e : MapEntry} (he : es.toList[j]? = some e) : ∃ p,M[j]? = some p ∧ e.key = kv p.1 ∧ e.val = vv p.2:=by
  have hk:=congrArg (fun l=>l[j]?) h.keys;have hv:=congrArg (fun l=>l[j]?) h.vals;simp only [List.getElem?_map,he,Option.map_some] at hk hv;cases hp : M[j]? with
  | none=>rw [hp] at hk;cases hk
  | some p =>
    rw [hp] at hk hv;exact ⟨p,rfl,by simpa using hk,by simpa using hv⟩
theorem MapAt.kept {S : List Nat} {w' : World} (h : MapAt w b kv vv ok M es clk) (hk : Keep S w w') (hb : b ∉ S) : MapAt w' b kv vv ok M es clk :=
  ⟨(hk.block b (by
      rcases Nat.lt_or_ge b w.heap.size with hl | hl
      · exact hl
      · have:=h.heap;rw [Array.getElem?_eq_none hl] at this;cases this) hb).trans h.heap,h.keys,h.vals,h.nodup,h.okk,h.born,h.clock⟩
theorem MapAt.lt (h : MapAt w b kv vv ok M es clk) : b < w.heap.size:=by
  rcases Nat.lt_or_ge b w.heap.size with hl | hl
  · exact hl
  · have:=h.heap;rw [Array.getElem?_eq_none hl] at this;cases this
theorem MapAt.find (h : MapAt w b kv vv ok M es clk) (E : KeyEnc P K kv ok) {k : κ} (hk : ok k) :
    ((Instr.findKey K (kv k) es.toList).run P w = .ok none w ∧ k ∉ M.map (·.1)) ∨
    ∃ j p,(Instr.findKey K (kv k) es.toList).run P w = .ok (some (j,vv p.2)) w ∧ M[j]? = some p ∧ p.1 = k:=by
  obtain ⟨l,hl⟩:=E.key k hk;have hall : ∀ e ∈ es.toList,∃ l,keyOf P K e.key = some l:=by
    intro e he;obtain ⟨j,hj,rfl⟩:=List.mem_iff_getElem.1 he;obtain ⟨p,hp,hkey,_⟩:=h.at_key (List.getElem?_eq_getElem hj);rw [hkey];exact E.key _ (h.okk p (List.mem_of_getElem? hp))
  rcases E.law.find w hl es.toList hall with ⟨hrun,hno⟩ | ⟨j,e,hrun,hj,hkey⟩
  · refine .inl ⟨hrun,fun hm=>?_⟩;obtain ⟨p,hp,rfl⟩:=List.mem_map.1 hm;obtain ⟨j,hj,hpj⟩:=List.mem_iff_getElem.1 hp;obtain ⟨e,he,hek,_⟩:=h.at_ (j:=j) (p:=p) (by rw [List.getElem?_eq_getElem hj,hpj]);exact hno e (List.mem_of_getElem? he) hek
  · obtain ⟨p,hp,hk1,hv1⟩:=h.at_key hj;exact .inr ⟨j,p,by rw [hrun,hv1],hp,E.inj _ _ (hk1.symm.trans hkey)⟩
theorem run_getObj_map (h : w.heap[b]? = some (.map es clk)) : (getObj b).run P w = .ok (.map es clk) w:=by
  simp [getObj,Sem.run,h]
theorem MapAt.hit {T E' : TypeId} (h : MapAt w b kv vv ok M es clk) (E : KeyEnc P K kv ok) (ht : P.underlying T = some (.map K E')) {k : κ} {v : ν} (hk : ok k) (hm : (k,v) ∈ M) (comma : Bool) :
    (Instr.lookup T (.map (some b)) (kv k) comma).run P w = .ok (if comma then .tuple #[vv v,.bool true] else vv v) w:=by
  obtain ⟨l,hl⟩:=E.key k hk;rcases h.find E hk with ⟨_,hno⟩ | ⟨j,p,hrun,hp,hpk⟩
  · exact absurd (List.mem_map.2 ⟨_,hm,rfl⟩) hno
  · have hpe : p = (k,v):=by
      obtain ⟨i,hi,hpi⟩:=List.mem_iff_getElem.1 hm;obtain ⟨hj,hpj⟩:=List.getElem?_eq_some_iff.1 hp;have hnd:=h.nodup;have e1 : (M.map (·.1))[i]? = some k:=by rw [List.getElem?_map,List.getElem?_eq_getElem hi,hpi];rfl
      have e2 : (M.map (·.1))[j]? = some k:=by rw [List.getElem?_map,hp];simp [hpk]
      have : i = j:=nodup_inj hnd e1 e2;subst this;rw [← hpj,hpi]
    subst hpe;simp only [Instr.lookup,Sem.run_bind,run_underlying ht,Result.andThen_ok,run_getObj_map h.heap,E.law.check w es.isEmpty hl,hrun,Sem.run_pure]
theorem MapAt.miss {T E' : TypeId} (h : MapAt w b kv vv ok M es clk) (E : KeyEnc P K kv ok) (ht : P.underlying T = some (.map K E')) {z : Value} (hz : (zeroValue E').run P w = .ok z w) {k : κ} (hk : ok k) (hm : k ∉ M.map (·.1)) (comma : Bool) :
    (Instr.lookup T (.map (some b)) (kv k) comma).run P w = .ok (if comma then .tuple #[z,.bool false] else z) w:=by
  obtain ⟨l,hl⟩:=E.key k hk;rcases h.find E hk with ⟨hrun,_⟩ | ⟨j,p,hrun,hp,hpk⟩
  · simp only [Instr.lookup,Sem.run_bind,run_underlying ht,Result.andThen_ok,run_getObj_map h.heap,E.law.check w es.isEmpty hl,hrun,Sem.run_pure,hz]
  · exact absurd (List.mem_map.2 ⟨p,List.mem_of_getElem? hp,hpk⟩) hm
theorem keep_setObj (w : World) (b : Nat) (o : Obj) : Keep [b] w { w with heap:=w.heap.setIfInBounds b o } :=
  ⟨rfl,rfl,rfl,by simp,fun k _ hn=>by
    show (w.heap.setIfInBounds b o)[k]? = _;rw [Array.getElem?_setIfInBounds_ne (by simpa using fun e=>hn (by simp [e]))]⟩
theorem run_setObj' {w : World} {b : Nat} {es : Array MapEntry} {clk : Nat} (h : w.heap[b]? = some (.map es clk)) (o : Obj) : (setObj b o).run P w = .ok () { w with heap:=w.heap.setIfInBounds b o }:=by
  simp [setObj,Sem.run,h]
theorem heap_setObj {w : World} {b : Nat} (o : Obj) (hb : b < w.heap.size) : ({ w with heap:=w.heap.setIfInBounds b o } : World).heap[b]? = some o:=by
  show (w.heap.setIfInBounds b o)[b]? = _;rw [Array.getElem?_setIfInBounds_self_of_lt hb]
theorem MapAt.update [DecidableEq κ] {T E' : TypeId} (h : MapAt w b kv vv ok M es clk) (E : KeyEnc P K kv ok) (ht : P.underlying T = some (.map K E')) {k : κ} {v : ν} (hk : ok k) :
    ∃ w' es' clk',(Instr.mapUpdate T (.map (some b)) (kv k) (vv v)).run P w = .ok () w' ∧ MapAt w' b kv vv ok (putL M k v) es' clk' ∧ Keep [b] w w':=by
  obtain ⟨l,hl⟩:=E.key k hk;rcases h.find E hk with ⟨hrun,hno⟩ | ⟨j,p,hrun,hp,hpk⟩
  · refine ⟨_,es.push { key:=kv k,val:=vv v,born:=clk },clk + 1,?_,⟨heap_setObj _ h.lt,?_,?_,?_,?_,?_,?_⟩,keep_setObj w b _⟩
    · simp only [Instr.mapUpdate,Sem.run_bind,run_underlying ht,Result.andThen_ok,run_getObj_map h.heap,E.law.check w false hl,hrun,run_setObj' h.heap]
    · unfold putL;rw [if_neg hno];simp [h.keys]
    · unfold putL;rw [if_neg hno];simp [h.vals]
    · unfold putL;rw [if_neg hno,List.map_append,List.nodup_append];refine ⟨h.nodup,by simp,?_⟩;intro a ha c hc e;simp at hc;subst hc;subst e;exact hno ha
    · unfold putL;rw [if_neg hno];intro q hq;rcases List.mem_append.1 hq with hq | hq
      · exact h.okk q hq
      · simp at hq;subst hq;exact hk
    · simp only [Array.toList_push,List.map_append,List.map_cons,List.map_nil,List.nodup_append];refine ⟨h.born,by simp,?_⟩;intro a ha c hc e;simp at hc;subst hc;subst e;obtain ⟨e',he',hb'⟩:=List.mem_map.1 ha;have:=h.clock e' he';omega
    · intro e he;simp only [Array.toList_push,List.mem_append,List.mem_singleton] at he;rcases he with he | he
      · have:=h.clock e he;omega
      · subst he;show clk < clk + 1;omega
  · have hmem : k ∈ M.map (·.1):=List.mem_map.2 ⟨p,List.mem_of_getElem? hp,hpk⟩;obtain ⟨e0,he0,hek,hev⟩:=h.at_ hp;have hold : ((es[j]?).map (·.key)).getD (kv k) = kv k:=by
      have : es[j]? = some e0:=by simpa using he0
      rw [this];simp [hek,hpk]
    have hput : putL M k v = M.modify j (fun _=>(k,v)):=by
      unfold putL;rw [if_pos hmem];apply List.ext_getElem?;intro n;rw [List.getElem?_map,List.getElem?_modify];by_cases hn : j = n
      · subst hn;simp [hp,hpk]
      · cases hq : M[n]? with
        | none=>simp [hn]
        | some q =>
          have hne : q.1 ≠ k:=by
            intro e;have e1 : (M.map (·.1))[j]? = some k:=by rw [List.getElem?_map,hp];simp [hpk]
            have e2 : (M.map (·.1))[n]? = some k:=by rw [List.getElem?_map,hq];simp [e]
            exact hn (nodup_inj h.nodup e1 e2)
          simp [hn,hne]
    refine ⟨_,es.modify j fun e=>{ e with key:=kv k,val:=vv v },clk,?_,⟨heap_setObj _ h.lt,?_,?_,?_,?_,?_,?_⟩,keep_setObj w b _⟩
    · simp only [Instr.mapUpdate,Sem.run_bind,run_underlying ht,Result.andThen_ok,run_getObj_map h.heap,E.law.check w false hl,hrun,hold,E.law.stays w hl,run_setObj' h.heap]
    all_goals (try rw [hput])
    · rw [Array.toList_modify];apply List.ext_getElem?;intro n;have hkn:=congrArg (fun l=>l[n]?) h.keys;simp only [List.getElem?_map] at hkn;simp only [List.getElem?_map,List.getElem?_modify];by_cases hn : j = n
      · subst hn;simp [hp,he0]
      · simpa [hn] using hkn
    · rw [Array.toList_modify];apply List.ext_getElem?;intro n;have hkn:=congrArg (fun l=>l[n]?) h.vals;simp only [List.getElem?_map] at hkn;simp only [List.getElem?_map,List.getElem?_modify];by_cases hn : j = n
      · subst hn;simp [hp,he0]
      · simpa [hn] using hkn
    · have : (M.modify j fun _=>(k,v)).map (·.1) = M.map (·.1):=by
        apply List.ext_getElem?;intro n;simp only [List.getElem?_map,List.getElem?_modify];by_cases hn : j = n
        · subst hn;simp [hp,hpk]
        · simp [hn]
      rw [this];exact h.nodup
    · intro q hq;obtain ⟨n,hn,hqn⟩:=List.mem_iff_getElem.1 hq;have hq' : (M.modify j fun _=>(k,v))[n]? = some q:=by rw [List.getElem?_eq_getElem hn,hqn]
      rw [List.getElem?_modify] at hq';by_cases e : j = n
      · subst e;rw [hp] at hq';simp at hq';subst hq';exact hk
      · simp [e] at hq';exact h.okk q (List.mem_of_getElem? hq')
    · have : ((es.modify j fun e=>{ e with key:=kv k,val:=vv v }).toList.map (·.born)) = es.toList.map (·.born):=by
        rw [Array.toList_modify];apply List.ext_getElem?;intro n;simp only [List.getElem?_map,List.getElem?_modify];by_cases hn : j = n
        · subst hn;simp [he0]
        · simp [hn]
      rw [this];exact h.born
    · intro e he;rw [Array.toList_modify] at he;obtain ⟨n,hn,hen⟩:=List.mem_iff_getElem.1 he;have he' : (es.toList.modify j fun e=>{ e with key:=kv k,val:=vv v })[n]? = some e:=by rw [List.getElem?_eq_getElem hn,hen]
      rw [List.getElem?_modify] at he';by_cases hj : j = n
      · subst hj;rw [he0] at he';simp at he';subst he';exact h.clock e0 (List.mem_of_getElem? he0)
      · simp [hj] at he';exact h.clock e (List.mem_of_getElem? (by simpa using he'))
theorem MapAt.new (w : World) (b : Nat) (hb : b = w.heap.size) : MapAt (w.alloc (.map #[] 0)) b kv vv ok [] #[] 0:=by
  subst hb;exact ⟨heap_alloc_new w _,rfl,rfl,by simp,by simp,by simp,by simp⟩
end
end
section
open Go.ChangeShapes Go.WideShapes Go.ChangeAt Go.RowKit
theorem Tryz.own : ownKnob Tryz.prog.godebug = none:=by kernel_rfl
theorem Tryz.laidOut : laidOutB Tryz.prog = true:=by kernel_rfl
theorem trodAll_below {H : Type} {enc : TypeId × Value → H} {P : Program} {W W' : World} (hl : laidOutB P = true) (hb : Below W.heap.size W W') :
    ∀ (ts : List TypeId) (vs : List Value) (ds : List (DataW H)) (ps : List MemPlace),(∀ t ∈ ts,P.readableRec t = true ∧ t < P.types.size) →
      DataW.TrodAll enc P W 0 (fun _=>true) true ts vs ds ps → (∀ x ∈ ps,x.block < W.heap.size) →
      DataW.TrodAll enc P W' 0 (fun b=>decide (b < W.heap.size)) true ts vs ds ps
  | [],[],[],_,_,h,_=>h
  | t :: ts,v :: vs,d :: ds,ps,hr,h,hlt=>by
    obtain ⟨p,q,h1,h2,rfl⟩:=h;have hrt:=hr t (by simp);exact ⟨p,q,Below.trod hl hrt.1 hrt.2 h1 hb (fun x hx=>hlt x (List.mem_append.2 (.inl hx))),
      trodAll_below hl hb ts vs ds q (fun t' ht=>hr t' (List.mem_cons.2 (.inr ht))) h2 (fun x hx=>hlt x (List.mem_append.2 (.inr hx))),rfl⟩
  | [],_ :: _,_,_,_,h,_=>h.elim
  | [],[],_ :: _,_,_,h,_=>h.elim
  | _ :: _,[],_,_,_,h,_=>h.elim
  | _ :: _,_ :: _,[],_,_,h,_=>h.elim
theorem law_post {H : Type} {enc : TypeId × Value → H} {P : Program} {f : Func} {s : ChangeSpec} {apart fresh handsOn : Bool} {W W' : World} {args : Array Value} {ds : List (DataW H)} {before : List MemPlace} {tb : TypeId}
    (hl : laidOutB P = true) (hr : f.resultTypes = #[tb]) (htb : P.underlying tb = some .bool) (hv : s.vars = [])
    (hfn : s.fn H (ds ++ []) = { results:=[.lit (.bool true)],args:=ds }) (hrec : f.params.toList.all (fun t=>P.readableRec t && decide (t < P.types.size)) = true)
    (hW : DataW.Whole enc P f.params.toList s.vars apart W args.toList ds [] before) (hb : Below W.heap.size W W') :
    s.post enc P f apart fresh handsOn false W args (.bool true) W':=by
  have hlt:=fun p hp=>hW.lt p hp;have hW':=hW;obtain ⟨p,q,hA,hV,rfl,_,_⟩:=hW;have hq : q = []:=by rw [hv] at hV;exact hV
  subst hq;have hrec' : ∀ t ∈ f.params.toList,P.readableRec t = true ∧ t < P.types.size:=by
    intro t ht;have:=List.all_eq_true.1 hrec t ht;simpa using this
  refine ⟨ds,[],p ++ [],[],p,[],hW',?_,?_,?_,?_,fun h=>nomatch h⟩
  · rw [hr,hfn];have e : (Value.bool true).resultList (#[tb] : Array TypeId).size = [.bool true]:=rfl;rw [e];exact trodAll_mk1 (shut_bool htb true)
  · rw [hfn];exact trodAll_below hl hb _ _ _ _ hrec' hA (fun x hx=>hlt x (List.mem_append.2 (.inl hx)))
  · rw [hfn,hv];rfl
  · exact hb.frame _
end
section
open Go.RowKit
theorem mapM_some_all {α β : Type} {f : α → Option β} : ∀ {L : List α},(∀ x ∈ L,∃ y,f x = some y) → ∃ ys,L.mapM f = some ys
  | [],_=>⟨[],rfl⟩
  | x :: L,h=>by
    obtain ⟨y,hy⟩:=h x (by simp);obtain ⟨ys,hys⟩:=mapM_some_all (L:=L) (fun z hz=>h z (by simp [hz]));exact ⟨y :: ys,by simp [List.mapM_cons,hy,hys]⟩
theorem size3 : 3 ≤ Tryz.prog.types.size:=of_decide_eq_true (by kernel_rfl)
theorem cellsId : Tryz.prog.cellsOf 24 = 32:=by kernel_rfl
theorem cellsByte : Tryz.prog.cellsOf 5 = 1:=by kernel_rfl
theorem keyLits_id (d : Nat) (x : Id32) : ∃ l,Tryz.prog.keyLits (d + 2) 24 (idC x).toList = some l:=by
  have hall : ∀ i ∈ List.range 32,∃ y,Tryz.prog.keyLits (d + 1) 5 (((idC x).toList.drop (i * Tryz.prog.cellsOf 5)).take (Tryz.prog.cellsOf 5)) = some y:=by
    intro i hi;have hi' : i < 32:=List.mem_range.1 hi;rw [cellsByte,Nat.mul_one];have e : ((idC x).toList.drop i).take 1 = [.int .u8 (idB x i)]:=by
      have:=idC_get x i;rw [if_pos hi'] at this;have h2 : (idC x).toList[i]? = some (.int .u8 (idB x i)):=by simpa using this
      rw [List.take_one,List.head?_drop,h2];rfl
    rw [e];refine Option.isSome_iff_exists.1 ?_;unfold Program.keyLits;simp only [Tryz.underlying5];rw [if_pos ⟨trivial,by have:=idB_bd x i;simp [Lit.wf,IntKind.min,IntKind.max,IntKind.signed,IntKind.bits];omega⟩];rfl
  obtain ⟨ys,hys⟩:=mapM_some_all hall;refine Option.isSome_iff_exists.1 ?_;unfold Program.keyLits;simp only [Tryz.underlying24];rw [if_pos (by rw [cellsId];simp),hys];rfl
theorem rowId : 24 < Tryz.prog.types.size:=of_decide_eq_true (by kernel_rfl)
theorem idKey : KeyEnc Tryz.prog 24 (fun x : Id32=>.agg (idC x)) (fun _=>True) where
  law:=deep_law_laid Tryz.laidOut (m:=2) (by omega) rowId (by kernel_rfl) (by rw [Tryz.underlying24])
  key:=fun x _=>by
    obtain ⟨d,hd⟩ : ∃ d,Tryz.prog.types.size + 1 = d + 2:=⟨Tryz.prog.types.size - 1,by have:=size3;omega⟩
    obtain ⟨l,hl⟩:=keyLits_id d x;refine ⟨.string (keyBytes l),?_⟩;unfold keyOf;simp only [Tryz.underlying24];have hkt : Tryz.prog.keyType 24 = true:=by kernel_rfl
    have hf : (Value.agg (idC x)).formed Tryz.prog 24 = true:=by simp [Value.formed,Tryz.underlying24,cellsId]
    rw [hkt,hf,hd];simp only [Bool.and_self,if_true];have : (Value.agg (idC x)).cells.toList = (idC x).toList:=rfl;rw [this,hl];rfl
  inj:=fun a b h=>by injection h with h;exact idC_inj h
end
section
open Go.RowKit
structure HdIn where
  h : HdV
  A : Option Addr
  c : Nat
abbrev hdR (x : HdIn) : Array Value:=hdC (hdO x.h x.A x.c)
def lkH : List (Id32 × HdIn) → Id32 → Option HdIn
  | [],_=>none
  | q :: L,p=>if q.1 = p then some q.2 else lkH L p
theorem lkH_app (L : List (Id32 × HdIn)) (q : Id32 × HdIn) (p : Id32) : lkH (L ++ [q]) p = match lkH L p with | some x=>some x | none=>if q.1 = p then some q.2 else none:=by
  induction L with
  | nil=>rfl
  | cons a L ih =>
    rw [List.cons_append,lkH,lkH];by_cases h : a.1 = p
    · rw [if_pos h,if_pos h]
    · rw [if_neg h,if_neg h,ih]
theorem lkH_some {L : List (Id32 × HdIn)} {p : Id32} {x : HdIn} (h : lkH L p = some x) : (p,x) ∈ L:=by
  induction L with
  | nil=>cases h
  | cons a L ih =>
    rw [lkH] at h;by_cases e : a.1 = p
    · rw [if_pos e] at h;injection h with h;subst h;subst e;simp
    · rw [if_neg e] at h;exact List.mem_cons_of_mem _ (ih h)
theorem lkH_none {L : List (Id32 × HdIn)} {p : Id32} : lkH L p = none ↔ p ∉ L.map (·.1):=by
  induction L with
  | nil=>simp [lkH]
  | cons a L ih =>
    rw [lkH];by_cases e : a.1 = p
    · rw [if_pos e];simp [e]
    · rw [if_neg e,ih,List.map_cons,List.mem_cons,not_or];exact ⟨fun h=>⟨fun h2=>e h2.symm,h⟩,fun h=>h.2⟩
def goneH (L : List (Id32 × HdIn)) (ps : List Id32) : Bool:=ps.any fun p=>(lkH L p).isNone
def mostH (L : List (Id32 × HdIn)) (ps : List Id32) : Int:=ps.foldl (fun m p=>match lkH L p with | some x=>max m x.h.ht | none=>m) 0
abbrev okA (_ : Id32) : Prop:=True
abbrev idVA (x : Id32) : Value:=.agg (idC x)
abbrev hdVA (x : HdIn) : Value:=.agg (hdR x)
def KnAt (w : World) (b : Nat) (L : List (Id32 × HdIn)) : Prop:=∃ M es clk,MapAt w b idVA hdVA okA M es clk ∧ ∀ p,lkH M p = lkH L p
theorem KnAt.kept {w w' : World} {b : Nat} {L : List (Id32 × HdIn)} {S : List Nat} (h : KnAt w b L) (k : Keep S w w') (hb : b ∉ S) : KnAt w' b L:=by
  obtain ⟨M,es,clk,hm,hl⟩:=h;exact ⟨M,es,clk,hm.kept k hb,hl⟩
theorem KnAt.below {w w' : World} {b : Nat} {L : List (Id32 × HdIn)} (h : KnAt w b L) (k : Below w.heap.size w w') : KnAt w' b L:=h.kept (Keep.of_below k) (by simp)
theorem KnAt.hit {w : World} {b : Nat} {L : List (Id32 × HdIn)} (h : KnAt w b L) {p : Id32} {x : HdIn} (hx : lkH L p = some x) (comma : Bool) :
    (Instr.lookup 56 (.map (some b)) (.agg (idC p)) comma).run Tryz.prog w = .ok (if comma then .tuple #[.agg (hdR x),.bool true] else .agg (hdR x)) w:=by
  obtain ⟨M,es,clk,hm,hl⟩:=h;exact hm.hit idKey Tryz.underlying56 trivial (lkH_some ((hl p).trans hx)) comma
theorem KnAt.miss {w : World} {b : Nat} {L : List (Id32 × HdIn)} (h : KnAt w b L) {p : Id32} (hx : lkH L p = none) (comma : Bool) :
    (Instr.lookup 56 (.map (some b)) (.agg (idC p)) comma).run Tryz.prog w = .ok (if comma then .tuple #[.agg (hdC hd0),.bool false] else .agg (hdC hd0)) w:=by
  obtain ⟨M,es,clk,hm,hl⟩:=h;exact hm.miss idKey Tryz.underlying56 (zeroHd_run w) trivial (lkH_none.1 ((hl p).trans hx)) comma
theorem KnAt.put {w : World} {b : Nat} {L : List (Id32 × HdIn)} (h : KnAt w b L) {p : Id32} (x : HdIn) (hx : lkH L p = none) :
    ∃ w',(Instr.mapUpdate 56 (.map (some b)) (.agg (idC p)) (.agg (hdR x))).run Tryz.prog w = .ok () w' ∧ KnAt w' b (L ++ [(p,x)]) ∧ Keep [b] w w':=by
  obtain ⟨M,es,clk,hm,hl⟩:=h;obtain ⟨w',es',clk',hr,hm',hk⟩:=hm.update idKey Tryz.underlying56 (k:=p) (v:=x) trivial;refine ⟨w',hr,⟨_,es',clk',hm',fun q=>?_⟩,hk⟩;have hno:=lkH_none.1 ((hl p).trans hx);have e : putL M p x = M ++ [(p,x)]:=if_neg hno;rw [e,lkH_app,lkH_app,hl q]
theorem KnAt.same {w : World} {b : Nat} {L : List (Id32 × HdIn)} (h : KnAt w b L) {q : Id32 × HdIn} {x : HdIn} (hx : lkH L q.1 = some x) : KnAt w b (L ++ [q]):=by
  obtain ⟨M,es,clk,hm,hl⟩:=h;refine ⟨M,es,clk,hm,fun p=>?_⟩;rw [hl p,lkH_app];cases h2 : lkH L p with
  | some y=>rfl
  | none =>
    by_cases e : q.1 = p
    · rw [← e,hx] at h2;cases h2
    · rw [if_neg e]
theorem goneH_step (L : List (Id32 × HdIn)) (R : List Id32) {k : Nat} (hk : k < R.length) : goneH L (R.take (k + 1)) = (goneH L (R.take k) || (lkH L R[k]).isNone):=by
  unfold goneH;rw [List.take_add_one,List.getElem?_eq_getElem hk,List.any_append];simp
theorem mostH_step (L : List (Id32 × HdIn)) (R : List Id32) {k : Nat} (hk : k < R.length) : mostH L (R.take (k + 1)) = match lkH L R[k] with | some x=>max (mostH L (R.take k)) x.h.ht | none=>mostH L (R.take k):=by
  unfold mostH;rw [List.take_add_one,List.getElem?_eq_getElem hk,Option.toList_some,List.foldl_append];rfl
theorem mostH_nonneg (L : List (Id32 × HdIn)) (R : List Id32) : 0 ≤ mostH L R:=by
  unfold mostH;have : ∀ (R : List Id32) (m : Int),0 ≤ m → 0 ≤ R.foldl (fun m p=>match lkH L p with | some x=>max m x.h.ht | none=>m) m:=by
    intro R;induction R with
    | nil=>intro m h;exact h
    | cons p R ih =>
      intro m h;rw [List.foldl_cons];apply ih;split
      · exact Int.le_trans h (Int.le_max_left _ _)
      · exact h
  exact this R 0 (by omega)
end
section
open Go.RowKit
theorem hd0_one : hd0.ps.oneCell' = true:=rfl
theorem hdO_one (x : HdIn) : (hdO x.h x.A x.c).ps.oneCell' = true:=rfl
set_option maxRecDepth 100000 in
set_option maxHeartbeats 4000000 in
theorem au_closed (w : World) (b : Nat) (L : List (Id32 × HdIn)) (x : HdIn) (hm : KnAt w b L) (hT : TagsIn w x.A x.h.ps.length x.h.ps) (hn : x.h.ps.length ≤ 1000000) :
    Calls Tryz.prog 34 #[.map (some b),.agg (hdR x)] w fun e w'=>e = .returned (.bool (!goneH L x.h.ps)) ∧ Below w.heap.size w w':=by
  have hB : Below w.heap.size w (w.alloc (.cells (hdR x) 30)):=(Below.refl _ _).alloc (Nat.le_refl _) _;have x0 : (w.alloc (.cells (hdR x) 30)).cell? ⟨w.heap.size,0,none⟩ = some (.slice x.A x.h.ps.length x.c):=by simp [go_sem,hdO]
  obtain ⟨R,hR⟩ : ∃ R,x.h.ps = R:=⟨_,rfl⟩
  rw [hR] at x0 hT hn ⊢;go_enter Tryz.func34,Tryz.ntmps34
  go_upto_region 2 with fail
  go_loopw [6,7,8,12] (fun _ _ _ n wr=>∃ k : Nat,k ≤ R.length ∧ n = .int .i64 k ∧ Hid (goneH L (R.take k) = false) ∧ Below w.heap.size w wr) (fun _ _ _ n _=>R.length - (intOf n).toNat)
  case atStart=>exact ⟨0,Nat.zero_le _,rfl,(show _ = _ from rfl),hB⟩
  case round =>
    obtain ⟨k,hk,rfl,hg,hb⟩:=hrel;by_cases hlt : k < R.length
    · obtain ⟨q,o,hqe,hr⟩:=TagsIn.get (SlR.below hT hb) hlt hlt;have hgs:=goneH_step L R hlt;rw [hg.out,Bool.false_or] at hgs;obtain ⟨p,hp⟩ : ∃ p,R[k]'hlt = p:=⟨_,rfl⟩
      rw [hp] at hr hgs;have hba : Below wr.heap.size wr (wr.alloc (.cells (idC p) 24)):=(Below.refl _ _).alloc (Nat.le_refl _) _;have hmr:=(hm.below hb).below hba;cases hlk : lkH L p with
      | some y =>
        have hl : (Instr.lookup 56 (.map (some b)) (.agg (idC p)) true).run Tryz.prog (wr.alloc (.cells (idC p) 24)) = .ok (.tuple #[.agg (hdR y),.bool true]) (wr.alloc (.cells (idC p) 24)):=hmr.hit hlk true;have ho:=hdO_one y;rw [hlk] at hgs;have Hgs : Hid (goneH L (R.take (k + 1)) = false):=hgs;have hb2 : Below w.heap.size w ((wr.alloc (.cells (idC p) 24)).alloc (.cells (hdR y) 30)):=(hb.alloc hb.size _).alloc (by have:=hb.size;simp;omega) _;clear hgs hlk hp hmr hg;(go_wp2_with fail);go_roundw
        case rel=>exact ⟨k + 1,by omega,by go_num,Hgs,hb2⟩
        case measure=>simp [intOf];omega
      | none =>
        have hl : (Instr.lookup 56 (.map (some b)) (.agg (idC p)) true).run Tryz.prog (wr.alloc (.cells (idC p) 24)) = .ok (.tuple #[.agg (hdC hd0),.bool false]) (wr.alloc (.cells (idC p) 24)):=hmr.miss hlk true;have ho:=hd0_one;have hgo : goneH L R = true:=by
          unfold goneH;rw [List.any_eq_true];exact ⟨p,by rw [← hp];exact List.getElem_mem hlt,by rw [hlk];rfl⟩
        have Hgo:=Lib.hid hgo;have hb2 : Below w.heap.size w ((wr.alloc (.cells (idC p) 24)).alloc (.cells (hdC hd0) 30)):=(hb.alloc hb.size _).alloc (by have:=hb.size;simp;omega) _;clear hgs hlk hp hmr hg hgo;(go_wp2_with fail);go_ret;exact ⟨ret_bool (by rw [Hgo.out];rfl),hb2⟩
    · have hkR : R.take k = R:=List.take_of_length_le (by omega);have Hg : Hid (goneH L R = false):=(show _ = _ by rw [← hkR];exact hg.out)
      clear hkR hg;(go_wp2_with fail);go_ret;exact ⟨ret_bool (by rw [Hg.out];rfl),hb⟩
set_option maxRecDepth 100000 in
set_option maxHeartbeats 4000000 in
theorem au_height (w : World) (b : Nat) (L : List (Id32 × HdIn)) (x : HdIn) (hm : KnAt w b L) (hT : TagsIn w x.A x.h.ps.length x.h.ps) (hn : x.h.ps.length ≤ 1000000) :
    Calls Tryz.prog 38 #[.map (some b),.agg (hdR x)] w fun e w'=>e = .returned (.int .i64 (mostH L x.h.ps)) ∧ Below w.heap.size w w':=by
  have hB : Below w.heap.size w (w.alloc (.cells (hdR x) 30)):=(Below.refl _ _).alloc (Nat.le_refl _) _;have x0 : (w.alloc (.cells (hdR x) 30)).cell? ⟨w.heap.size,0,none⟩ = some (.slice x.A x.h.ps.length x.c):=by simp [go_sem,hdO]
  obtain ⟨R,hR⟩ : ∃ R,x.h.ps = R:=⟨_,rfl⟩
  rw [hR] at x0 hT hn ⊢;go_enter Tryz.func38,Tryz.ntmps38
  go_upto_region 3 with fail
  go_loopw [5,7,11] (fun m _ n wr=>∃ (k : Nat) (v : Int),k ≤ R.length ∧ n = .int .i64 k ∧ m = .int .i64 v ∧ Hid (mostH L (R.take k) = v) ∧ Below w.heap.size w wr) (fun _ _ n _=>R.length - (intOf n).toNat)
  case atStart=>exact ⟨0,0,Nat.zero_le _,rfl,rfl,(show _ = _ from rfl),hB⟩
  case round =>
    obtain ⟨k,v,hk,rfl,rfl,hg,hb⟩:=hrel;by_cases hlt : k < R.length
    · obtain ⟨q,o,hqe,hr⟩:=TagsIn.get (SlR.below hT hb) hlt hlt;have hgs:=mostH_step L R hlt;have hnn:=mostH_nonneg L (R.take k);rw [hg.out] at hgs hnn;obtain ⟨p,hp⟩ : ∃ p,R[k]'hlt = p:=⟨_,rfl⟩
      rw [hp] at hr hgs;have hba : Below wr.heap.size wr (wr.alloc (.cells (idC p) 24)):=(Below.refl _ _).alloc (Nat.le_refl _) _;have hmr:=(hm.below hb).below hba;have hb2 : Below w.heap.size w (wr.alloc (.cells (idC p) 24)):=hb.alloc hb.size _;cases hlk : lkH L p with
      | some y =>
        have hl : (Instr.lookup 56 (.map (some b)) (.agg (idC p)) false).run Tryz.prog (wr.alloc (.cells (idC p) 24)) = .ok (.agg (hdR y)) (wr.alloc (.cells (idC p) 24)):=hmr.hit hlk false;rw [hlk] at hgs;have Hgs : Hid (mostH L (R.take (k + 1)) = max v y.h.ht):=hgs;clear hgs hlk hp hmr hg;(go_wp2_with fail);have he : (if v < (hdO y.h y.A y.c).ht then (hdO y.h y.A y.c).ht else v) = max v y.h.ht:=by
          show (if v < y.h.ht then y.h.ht else v) = max v y.h.ht;split <;> omega
        exact ⟨⟨k + 1,_,by omega,rfl,rfl,(show _ = _ from Hgs.out.trans he.symm),hb2⟩,by simp only [intOf];omega⟩
      | none =>
        have hl : (Instr.lookup 56 (.map (some b)) (.agg (idC p)) false).run Tryz.prog (wr.alloc (.cells (idC p) 24)) = .ok (.agg (hdC hd0)) (wr.alloc (.cells (idC p) 24)):=hmr.miss hlk false;rw [hlk] at hgs;have Hgs : Hid (mostH L (R.take (k + 1)) = v):=hgs;clear hgs hlk hp hmr hg;(go_wp2_with fail);have he : (if v < hd0.ht then hd0.ht else v) = v:=by
          show (if v < (0 : Int) then (0 : Int) else v) = v;split <;> omega
        exact ⟨⟨k + 1,_,by omega,rfl,rfl,(show _ = _ from Hgs.out.trans he.symm),hb2⟩,by simp only [intOf];omega⟩
    · have hkR : R.take k = R:=List.take_of_length_le (by omega);have Hg : Hid (mostH L R = v):=(show _ = _ by rw [← hkR];exact hg.out)
      clear hkR hg;(go_wp2_with fail);go_ret;exact ⟨ret_int Hg.out.symm,hb⟩
end
section
open Go.RowKit
structure AuAt (w : World) (g b : Nat) (L : List (Id32 × HdIn)) (x : HdIn) : Prop where
  box : w.cell? ⟨g,0,none⟩ = some (.map (some b))
  kn : KnAt w b L
  ids : TagsIn w x.A x.h.ps.length x.h.ps
  len : x.h.ps.length ≤ 1000000
  tps : x.h.tp.size ≤ 9223372036854775807
  ht : 0 ≤ x.h.ht ∧ x.h.ht ≤ 4611686018427387904
  vars : ShaVars w
theorem AuAt.below {w w' : World} {g b : Nat} {L : List (Id32 × HdIn)} {x : HdIn} (a : AuAt w g b L x) (hb : Below w.heap.size w w') : AuAt w' g b L x :=
  ⟨(hb.cell (p:=⟨g,0,none⟩) (World.block_lt_of_cell? w _ a.box)).trans a.box,a.kn.below hb,SlR.below a.ids hb,a.len,a.tps,a.ht,a.vars.below hb⟩
set_option maxRecDepth 100000 in
set_option maxHeartbeats 4000000 in
theorem ar_1 (w : World) (g b : Nat) (L : List (Id32 × HdIn)) (i : Id32) (x : HdIn) (a : AuAt w g b L x) :
    Calls Tryz.prog 33 #[.agg (idC i),.agg (hdR x),.pointer (some ⟨g,0,none⟩)] w fun e w'=>e = .returned (.bool (!goneH L x.h.ps)) ∧ Below w.heap.size w w':=by
  have hB : Below w.heap.size w ((w.alloc (.cells (idC i) 24)).alloc (.cells (hdR x) 30)):=((Below.refl _ _).alloc (Nat.le_refl _) _).alloc (by simp) _;have a1:=a.below hB;have hr : rowAt ((w.alloc (.cells (idC i) 24)).alloc (.cells (hdR x) 30)) (w.heap.size + 1) 0 38 = some (hdR x):=by simp [go_sem]
  have xb:=a1.box;have cc:=au_closed _ b L x a1.kn a1.ids a1.len;clear a a1;go_enter Tryz.func33,Tryz.ntmps33
  (go_wp2_with fail);refine cc.mono ?_;rintro e w2 ⟨rfl,hb⟩;have hz:=bel2 hB hb;clear cc hb hB xb hr;(go_wp2_with fail);go_ret;exact ⟨rfl,hz⟩
set_option maxRecDepth 100000 in
set_option maxHeartbeats 4000000 in
theorem ar_3 (w : World) (g b : Nat) (L : List (Id32 × HdIn)) (i : Id32) (x : HdIn) (a : AuAt w g b L x) :
    Calls Tryz.prog 37 #[.agg (idC i),.agg (hdR x),.pointer (some ⟨g,0,none⟩)] w fun e w'=>e = .returned (.bool (x.h.ht - 1 == mostH L x.h.ps)) ∧ Below w.heap.size w w':=by
  have hB : Below w.heap.size w ((w.alloc (.cells (idC i) 24)).alloc (.cells (hdR x) 30)):=((Below.refl _ _).alloc (Nat.le_refl _) _).alloc (by simp) _;have a1:=a.below hB;have hr : rowAt ((w.alloc (.cells (idC i) 24)).alloc (.cells (hdR x) 30)) (w.heap.size + 1) 0 38 = some (hdR x):=by simp [go_sem]
  have x1 : ((w.alloc (.cells (idC i) 24)).alloc (.cells (hdR x) 30)).cell? ⟨w.heap.size + 1,1,none⟩ = some (.int .i64 x.h.ht):=by
    have:=rowAt_cell hr (j:=1) (by omega);simpa only [hdC_g1,Nat.zero_add,hdO] using this
  have xb:=a1.box;have cc:=au_height ((w.alloc (.cells (idC i) 24)).alloc (.cells (hdR x) 30)).drew b L x (a1.kn.below (Below.refl _ _).drew) (SlR.below a1.ids (Below.refl _ _).drew) a1.len;obtain ⟨t,ht⟩ : ∃ t,x.h.ht = t:=⟨_,rfl⟩
  have hbd:=a.ht;rw [ht] at x1 hbd;rw [ht];obtain ⟨m,hm⟩ : ∃ m,mostH L x.h.ps = m:=⟨_,rfl⟩
  rw [hm] at cc;rw [hm];have hw:=IntWalk.i64_in (t - 1) (by omega);clear a a1 ht hm;obtain ⟨W,hW⟩ : ∃ W,W = (w.alloc (.cells (idC i) 24)).alloc (.cells (hdR x) 30):=⟨_,rfl⟩
  have HW:=Lib.hid hW;rw [← hW] at hB hr x1 xb cc;clear hW;go_enter Tryz.func37,Tryz.ntmps37
  go_upto_region 1 with fail
  rw [← HW.out];refine wp_region_lex (Bel W) false (by kernel_rfl) (by kernel_rfl) (by kernel_rfl) (bel_drew W) ?_;have hne:=bel_some W;have hS:=bel_drew W;have c0:=sub_cell xb;have c1:=sub_cell x1;have c2:=sub_row hr;repeat (refine wpLx_loose ?_ ?_;(focus (simp only [chainOp];done));intro K hK;go_simp;refine hK _ ?_;clear hK K)
  refine wpLx_chain ?_ ?_ ?_;(focus (exact hS));(focus (simp only [chainOp];done));intro K hK;go_simp;refine (cc).mono ?_;rintro e w' ⟨rfl,hb⟩;replace hS:=bel_next hS hb;refine ⟨_,rfl,hS,hK _ _ ?_⟩;clear hK K hb;repeat (refine wpLx_loose ?_ ?_;(focus (simp only [chainOp];done));intro K hK;go_simp;refine hK _ ?_;clear hK K)
  refine wpLx_nil ?_;intro hS;have hS' : Below W.heap.size W w':=hS;have hz:=bel2 hB hS';clear hS hne c0 c1 c2 hS';(go_wp2_with fail);go_ret;exact ⟨rfl,hz⟩
set_option maxRecDepth 100000 in
set_option maxHeartbeats 4000000 in
theorem ar_2 (w : World) (g b : Nat) (L : List (Id32 × HdIn)) (i : Id32) (x : HdIn) (a : AuAt w g b L x) :
    Calls Tryz.prog 35 #[.agg (idC i),.agg (hdR x)] w fun e w'=>e = .returned (.bool (decide (hdE x.h = 0 ∧ hdI x.h = i))) ∧ Below w.heap.size w w':=by
  have hB : Below w.heap.size w ((w.alloc (.cells (idC i) 24)).alloc (.cells (hdR x) 30)):=((Below.refl _ _).alloc (Nat.le_refl _) _).alloc (by simp) _;have a1:=a.below hB;have hr : rowAt ((w.alloc (.cells (idC i) 24)).alloc (.cells (hdR x) 30)) (w.heap.size + 1) 0 38 = some (hdR x):=by simp [go_sem]
  have hi : rowAt ((w.alloc (.cells (idC i) 24)).alloc (.cells (hdR x) 30)) w.heap.size 0 32 = some (idC i):=by
    rw [rowAt_of_block (Below.heap_alloc _ _ _ (by simp))];simp [go_sem]
  have cc:=hd_ident _ x.h x.A x.c a1.vars a1.ids a1.len a1.tps;obtain ⟨E,hE⟩ : ∃ E,hdE x.h = E:=⟨_,rfl⟩
  obtain ⟨I,hI⟩ : ∃ I,hdI x.h = I:=⟨_,rfl⟩
  rw [hE,hI] at cc;rw [hE,hI];obtain ⟨W,hW⟩ : ∃ W,W = (w.alloc (.cells (idC i) 24)).alloc (.cells (hdR x) 30):=⟨_,rfl⟩
  have HW:=Lib.hid hW;have hi0 : w.heap.size < W.heap.size:=by rw [hW];simp;omega
  rw [← hW] at hB hr hi cc;clear hW a a1 hE hI;go_enter Tryz.func35,Tryz.ntmps35
  go_upto_region 1 with fail
  rw [← HW.out];(go_wp2_with fail);refine cc.mono ?_;rintro e w2 ⟨rfl,hb⟩;have hz:=bel2 hB hb;have hi2:=(rowAt_of_block (hb.block w.heap.size hi0) _ _).trans hi;have hi3 : rowAt (w2.alloc (.cells (idC I) 24)) w.heap.size 0 32 = some (idC i):=by
    rw [rowAt_of_block (Below.heap_alloc _ _ _ (rowAt_lt hi2))];exact hi2
  have hz2 : Below w.heap.size w (w2.alloc (.cells (idC I) 24)):=hz.alloc hz.size _;clear cc hb hr hB hi hi2 hz;by_cases h0 : E = 0
  · by_cases h1 : I = i
    · have Hd:=Lib.hid (decide_eq_true (And.intro h0 h1));have h1' : (I == i) = true:=by simp [h1]
      clear h1;(go_wp2_with fail);go_ret;exact ⟨ret_bool (by rw [Hd.out]),hz2⟩
    · have Hd:=Lib.hid (decide_eq_false (fun h=>h1 h.2 : ¬ (E = 0 ∧ I = i)));have h1' : (I == i) = false:=by simp [h1]
      clear h1;(go_wp2_with fail);go_ret;exact ⟨ret_bool (by rw [Hd.out]),hz2⟩
  · have Hd:=Lib.hid (decide_eq_false (fun h=>h0 h.1 : ¬ (E = 0 ∧ I = i)));(go_wp2_with fail);go_ret;exact ⟨ret_bool (by rw [Hd.out]),hz2⟩
def audF (k : Nat) : FuncId:=[33,35,37].getD k 0
def audG (g k : Nat) : Array Value:=if k = 1 then #[] else #[.pointer (some ⟨g,0,none⟩)]
def audB (L : List (Id32 × HdIn)) (q : Id32 × HdIn) (k : Nat) : Bool:=[!goneH L q.2.h.ps,decide (hdE q.2.h = 0 ∧ hdI q.2.h = q.1),q.2.h.ht - 1 == mostH L q.2.h.ps].getD k false
theorem aud_any (w : World) (g b : Nat) (L : List (Id32 × HdIn)) (q : Id32 × HdIn) (a : AuAt w g b L q.2) (k : Nat) (hk : k < 3) :
    Calls Tryz.prog (audF k) (#[.agg (idC q.1),.agg (hdR q.2)] ++ audG g k) w fun e w'=>e = .returned (.bool (audB L q k)) ∧ Below w.heap.size w w':=by
  have h3 : k = 0 ∨ k = 1 ∨ k = 2:=by omega
  rcases h3 with rfl | rfl | rfl
  · exact ar_1 w g b L q.1 q.2 a
  · exact ar_2 w g b L q.1 q.2 a
  · exact ar_3 w g b L q.1 q.2 a
def audC (g k : Nat) : Array Value:=#[.int .i64 (k + 1 : Nat),.func (.func (audF k)) #[] (audG g k)]
def audRows (g : Nat) : Array Value:=#[.int .i64 1,.func (.func 33) #[] #[.pointer (some ⟨g,0,none⟩)],.int .i64 2,.func (.func 35) #[] #[],.int .i64 3,.func (.func 37) #[] #[.pointer (some ⟨g,0,none⟩)]]
theorem audRows_row (g k : Nat) (hk : k < 3) : (audRows g).extract (k * 2) (k * 2 + 2) = audC g k:=by
  have h3 : k = 0 ∨ k = 1 ∨ k = 2:=by omega
  rcases h3 with rfl | rfl | rfl <;> (simp [audRows,audC,audF,audG])
set_option maxRecDepth 100000 in
theorem auds_any (w : World) (b : Nat) :
    Calls Tryz.prog 17 #[.map (some b)] w fun e w'=>e = .returned (.slice (some ⟨w.heap.size + 1,0,none⟩) 3 3) ∧ w' = (w.alloc (.cells #[.map (some b)] 56)).alloc (.cells (audRows w.heap.size) 62):=by
  go_enter Tryz.func17,Tryz.ntmps17
  (go_wp2_with fail);go_ret;exact ⟨rfl,by unfold audRows;rfl⟩
theorem call_aud0 (args : Array Value) (w : World) : ∀ k,k < 3 → (callFunc (audF k) args).run Tryz.prog w = .ok (.enter (audF k) args) w
  | 0,_=>by kernel_rfl
  | 1,_=>by kernel_rfl
  | 2,_=>by kernel_rfl
  | k + 3,h=>absurd h (by omega)
theorem call_aud (k : Nat) (hk : k < 3) (args : Array Value) (w : World) : (callFunc (audF k) args).run Tryz.prog w = .ok (.enter (audF k) args) w:=call_aud0 args w k hk
end
end Go.Proofs.YtgedpfebepdcmaaGreatDoor
