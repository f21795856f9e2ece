/- Part 7 of the texts that lead to this claim: the walks of the functions and the plain law, in order. -/
import Derived.Test.YtgfpjjppeldhbaaGreatDoorMr6
import Derived.IntWalk
namespace Go.Proofs.YtgfpjjppeldhbaaGreatDoor
section
open Go.RowKit
inductive VSt where
  | t (n : Int)
  | b (L G : List BRow)
  | l (L : List LRow)
  | m (X : List MRow) (O : List Id32)
  | s (N : List NodeV) (G : List Id32)
def StAt (w : World) (O M : List Nat) (v : Value) : VSt → Prop
  | .t n=>∃ g,v = .iface 100 (.pointer (some ⟨g,0,none⟩)) ∧ TallyAt w g n ∧ O = [g]
  | .b L G=>∃ g bl bg,v = .iface 102 (.pointer (some ⟨g,0,none⟩)) ∧ BagAt w g bl bg L G ∧ O = [g,bl,bg]
  | .l L=>∃ g b,v = .iface 104 (.pointer (some ⟨g,0,none⟩)) ∧ LastAt w g b L ∧ O = [g,b]
  | .m X Ov=>∃ g bl bo,v = .iface 105 (.pointer (some ⟨g,0,none⟩)) ∧ MultiAt w g bl bo X Ov ∧ O = [g,bl,bo]
  | .s N G=>∃ g bn bb bg,v = .iface 106 (.pointer (some ⟨g,0,none⟩)) ∧ SeqAt w M g bn bb bg N G ∧ O = [g,bn,bb,bg]
def VSt.kind : VSt → Int
  | .t _=>1
  | .b ..=>2
  | .l _=>3
  | .m ..=>4
  | .s ..=>5
def VSt.len : VSt → Nat
  | .t _=>0
  | .b L _=>L.length
  | .l L=>L.length
  | .m X _=>X.length
  | .s N _=>N.length
def doS (m : MarkV) (o : OpV) : VSt → VSt
  | .t n=>.t (wrap64 (n + o.n))
  | .b L G=>if o.k = 2 then .b (addB L G ⟨m.id,o.val⟩) G else .b (remL L o.val o.refs) (remG G o.val o.refs)
  | .l L=>.l (setL L o.key ⟨o.val,o.n,m.id⟩)
  | .m X Ov=>.m (setX X Ov ⟨m.id,o.key,o.val⟩ o.refs) (putO Ov o.refs)
  | .s N G=>if o.k = 6 then .s (addN N ⟨m.id,m.h,o.ref,o.val⟩) G else .s N (insC cmpId G o.ref)
theorem doS_b2 (m : MarkV) (o : OpV) (L G : List BRow) (h : o.k = 2) : doS m o (.b L G) = .b (addB L G ⟨m.id,o.val⟩) G:=if_pos h
theorem doS_b3 (m : MarkV) (o : OpV) (L G : List BRow) (h : ¬ o.k = 2) : doS m o (.b L G) = .b (remL L o.val o.refs) (remG G o.val o.refs):=if_neg h
theorem doS_s6 (m : MarkV) (o : OpV) (N : List NodeV) (G : List Id32) (h : o.k = 6) : doS m o (.s N G) = .s (addN N ⟨m.id,m.h,o.ref,o.val⟩) G:=if_pos h
theorem doS_s7 (m : MarkV) (o : OpV) (N : List NodeV) (G : List Id32) (h : ¬ o.k = 6) : doS m o (.s N G) = .s N (insC cmpId G o.ref):=if_neg h
theorem doS_kind (m : MarkV) (o : OpV) (s : VSt) : (doS m o s).kind = s.kind:=by
  cases s <;> simp only [doS] <;> (try split) <;> rfl
theorem remL_len (v : ByteArray) : ∀ (T : List Id32) (L : List BRow),(remL L v T).length ≤ L.length
  | [],L=>Nat.le_refl _
  | t :: T,L=>Nat.le_trans (remL_len v T _) (List.length_filter_le _ _)
theorem doS_len (m : MarkV) (o : OpV) (s : VSt) : (doS m o s).len ≤ s.len + 1:=by
  cases s with
  | t n=>exact Nat.zero_le _
  | b L G =>
    by_cases h : o.k = 2
    · rw [doS_b2 m o L G h];show (addB L G ⟨m.id,o.val⟩).length ≤ L.length + 1;unfold addB;have:=insC_length (c:=cmpRow) L ⟨m.id,o.val⟩
      repeat' split
      all_goals omega
    · rw [doS_b3 m o L G h];show (remL L o.val o.refs).length ≤ L.length + 1;have:=remL_len o.val o.refs L;omega
  | l L=>exact setL_length _ _ _
  | m X Ov =>
    show (setX X Ov ⟨m.id,o.key,o.val⟩ o.refs).length ≤ X.length + 1;unfold setX livR;exact Nat.le_trans (List.length_filter_le _ _) (insC_length (c:=cmpMR) X _)
  | s N G =>
    by_cases h : o.k = 6
    · rw [doS_s6 m o N G h];show (addN N ⟨m.id,m.h,o.ref,o.val⟩).length ≤ N.length + 1;unfold addN;repeat' split
      all_goals simp
    · rw [doS_s7 m o N G h];exact Nat.le_succ N.length
theorem StAt.kept {w w' : World} {O M S : List Nat} {v : Value} {s : VSt} (h : StAt w O M v s) (k : Keep S w w') (hO : ∀ x ∈ O,x ∉ S) (hS : ∀ x ∈ S,x ∈ M ∨ w.heap.size ≤ x) : StAt w' O M v s:=by
  cases s with
  | t n=>obtain ⟨g,e,h1,rfl⟩:=h;exact ⟨g,e,h1.kept k (hO g (by simp)),rfl⟩
  | b L G=>obtain ⟨g,bl,bg,e,h1,rfl⟩:=h;exact ⟨g,bl,bg,e,h1.kept k (hO g (by simp)) (hO bl (by simp)) (hO bg (by simp)),rfl⟩
  | l L=>obtain ⟨g,b,e,h1,rfl⟩:=h;exact ⟨g,b,e,h1.kept k (hO g (by simp)) (hO b (by simp)),rfl⟩
  | m X Ov=>obtain ⟨g,bl,bo,e,h1,rfl⟩:=h;exact ⟨g,bl,bo,e,h1.kept k (hO g (by simp)) (hO bl (by simp)) (hO bo (by simp)),rfl⟩
  | s N G=>obtain ⟨g,bn,bb,bg,e,h1,rfl⟩:=h;exact ⟨g,bn,bb,bg,e,h1.kept k hS (hO g (by simp)) (hO bn (by simp)) (hO bb (by simp)) (hO bg (by simp)),rfl⟩
theorem StAt.below {w w' : World} {O M : List Nat} {v : Value} {s : VSt} (h : StAt w O M v s) (k : Below w.heap.size w w') : StAt w' O M v s:=h.kept (Keep.of_below k) (by simp) (by simp)
structure OpFit (s : VSt) (o : OpV) : Prop where
  kind : belongs o.k = s.kind
  key : o.key.size ≤ 16
  val : o.val.size ≤ 16
  refs : o.refs.length ≤ 8
  lo : -2147483648 ≤ o.n
  hi : o.n < 2147483648
theorem vdoes (m : MarkV) (o : OpV) (A : Option Addr) (c : Nat) (w : World) (g : Nat) (t : ByteArray) (b : Nat) (I : List Id32) (v : Value) (O M : List Nat) (s : VSt) (h : ViewAt w g t b I v) (hs : StAt w O M v s) (hM : ∀ x ∈ M,x < w.heap.size) (ho : OpFit s o) (hA : TagsIn w A o.refs.length o.refs) (hl : s.len ≤ 1000) :
    Calls Tryz.prog 64 #[.pointer (some ⟨g,0,none⟩),.agg (markVC m),.agg (opC o A c)] w fun e w'=>e = .returned (.tuple #[]) ∧ StAt w' O M v (doS m o s) ∧ Keep O w w':=by
  cases s with
  | t n =>
    obtain ⟨gt,rfl,h1,rfl⟩:=hs;refine (vdoes_t m o A c w g gt t b I n h h1 ho.lo ho.hi).mono ?_;rintro e w' ⟨rfl,h2,hk⟩;exact ⟨rfl,⟨gt,rfl,h2,rfl⟩,hk⟩
  | b L G =>
    obtain ⟨gt,bl,bg,rfl,h1,rfl⟩:=hs;by_cases h2 : o.k = 2
    · refine (vdoes_b2 m o A c w g gt bl bg t b I L G h h1 h2 ho.val).mono ?_;rintro e w' ⟨rfl,h3,hk⟩;refine ⟨rfl,?_,hk.mono (by simp)⟩;rw [doS_b2 m o L G h2];exact ⟨gt,bl,bg,rfl,h3,rfl⟩
    · refine (vdoes_b3 m o A c w g gt bl bg t b I L G h h1 (by simpa using h2) ho.val hA ho.refs).mono ?_;rintro e w' ⟨rfl,h3,hk⟩;refine ⟨rfl,?_,hk.mono (by intro x hx;simp at hx ⊢;omega)⟩;rw [doS_b3 m o L G h2];exact ⟨gt,bl,bg,rfl,h3,rfl⟩
  | l L =>
    obtain ⟨gt,bl,rfl,h1,rfl⟩:=hs;refine (vdoes_l m o A c w g gt bl t b I L h h1 ho.key ho.val).mono ?_;rintro e w' ⟨rfl,h3,hk⟩;exact ⟨rfl,⟨gt,bl,rfl,h3,rfl⟩,hk.mono (by simp)⟩
  | m X Ov =>
    obtain ⟨gt,bl,bo,rfl,h1,rfl⟩:=hs;refine (vdoes_m m o A c w g gt bl bo t b I X Ov h h1 ho.key ho.val hA ho.refs (by have : X.length ≤ 1000:=hl;omega)).mono ?_;rintro e w' ⟨rfl,h3,hk⟩;exact ⟨rfl,⟨gt,bl,bo,rfl,h3,rfl⟩,hk.mono (by intro x hx;simp at hx ⊢;omega)⟩
  | s N G =>
    obtain ⟨gt,bn,bb,bg,rfl,h1,rfl⟩:=hs;by_cases h2 : o.k = 6
    · refine (vdoes_s6 m o A c w g gt bn bb bg t b I M N G h h1 hM h2 ho.val (by have : N.length ≤ 1000:=hl;omega)).mono ?_;rintro e w' ⟨rfl,h3,hk⟩;refine ⟨rfl,?_,hk.mono (by intro x hx;simp at hx ⊢;omega)⟩;rw [doS_s6 m o N G h2];exact ⟨gt,bn,bb,bg,rfl,h3,rfl⟩
    · refine (vdoes_s7 m o A c w g gt bn bb bg t b I M N G h h1 (by simpa using h2)).mono ?_;rintro e w' ⟨rfl,h3,hk⟩;refine ⟨rfl,?_,hk.mono (by intro x hx;simp at hx ⊢;omega)⟩;rw [doS_s7 m o N G h2];exact ⟨gt,bn,bb,bg,rfl,h3,rfl⟩
def VSt.num : VSt → Int
  | .t n=>n
  | _=>0
def VSt.pairs : VSt → List Pair
  | .t _=>[]
  | .b L _=>(listB L).map pairV
  | .l L=>L.map pairOf
  | .m X _=>listM X
  | .s N G=>listS N G
theorem vvalue (w : World) (g : Nat) (t : ByteArray) (b : Nat) (I : List Id32) (v : Value) (O M : List Nat) (s : VSt) (h : ViewAt w g t b I v) (hs : StAt w O M v s) (ht : t.size ≤ 9223372036854775807) (hk : kindB t = s.kind) (hl : s.len ≤ 1000) :
    Calls Tryz.prog 24 #[.pointer (some ⟨g,0,none⟩)] w fun e w'=>∃ A cap,e = .returned (.agg (valVC ⟨s.kind,s.num,.slice A s.pairs.length cap⟩)) ∧ Own w' w.heap.size 98 2 A s.pairs.length cap (s.pairs.map pairC) ∧ Below w.heap.size w w':=by
  cases s with
  | t n =>
    obtain ⟨gt,rfl,h1,rfl⟩:=hs;refine (vvalue_t w g gt t b I n h h1 ht hk).mono ?_;rintro e w' ⟨rfl,hb⟩;exact ⟨none,0,rfl,Own.nil _ _ _ _,hb⟩
  | b L G =>
    obtain ⟨gt,bl,bg,rfl,h1,rfl⟩:=hs;refine (vvalue_b w g gt t b I h ht hk (listB L).length ((listB L).map fun s=>pairC (pairV s)) (fun w' hb=>blist w' gt bl bg L G (h1.below hb) (by have : L.length ≤ 1000:=hl;omega))).mono ?_;rintro e w' ⟨A,cap,rfl,ho,hb⟩;have e1 : (VSt.b L G).pairs.length = (listB L).length:=by simp [VSt.pairs]
    refine ⟨A,cap,by rw [e1];rfl,?_,hb⟩;rw [e1];simpa [VSt.pairs,List.map_map,Function.comp_def] using ho
  | l L =>
    obtain ⟨gt,bl,rfl,h1,rfl⟩:=hs;refine (vvalue_l w g gt t b I h ht hk L.length (listC L) (fun w' hb=>llist w' gt bl L (h1.below hb) (by have : L.length ≤ 1000:=hl;omega))).mono ?_;rintro e w' ⟨A,cap,rfl,ho,hb⟩;have e1 : (VSt.l L).pairs.length = L.length:=by simp [VSt.pairs]
    refine ⟨A,cap,by rw [e1];rfl,?_,hb⟩;rw [e1];simpa [VSt.pairs,listC,List.map_map,Function.comp_def] using ho
  | m X Ov =>
    obtain ⟨gt,bl,bo,rfl,h1,rfl⟩:=hs;exact vvalue_m w g gt t b I h ht hk (listM X).length ((listM X).map pairC) (fun w' hb=>mlist w' gt bl bo X Ov (h1.below hb) (by have : X.length ≤ 1000:=hl;omega))
  | s N G =>
    obtain ⟨gt,bn,bb,bg,rfl,h1,rfl⟩:=hs;exact vvalue_s w g gt t b I h ht hk (listS N G).length ((listS N G).map pairC) (fun w' hb=>sqlist w' M gt bn bb bg N G (h1.below hb) (by have : N.length ≤ 1000:=hl;omega))
end
section
open Go.RowKit
abbrev MarksIn (w : World) (A : Option Addr) (n : Nat) (R : List MarkV) : Prop:=SlR w A n 34 (R.map markVC)
theorem MarksIn.get {w : World} {A : Option Addr} {n : Nat} {R : List MarkV} (h : MarksIn w A n R) {i : Nat} (hi : i < n) (hR : i < R.length) :
    ∃ g o,A = some ⟨g,o,none⟩ ∧ rowAt w g (o + i * 34) 34 = some (markVC R[i]) ∧ rowAt w g (o + i * 34) 32 = some (idC (R[i]).id) ∧ w.cell? ⟨g,o + i * 34 + 33,none⟩ = some (.string (R[i]).body):=by
  obtain ⟨g,o,e,hr⟩:=SlR.at_ h hi;rw [List.getElem_map] at hr;refine ⟨g,o,e,hr,?_,?_⟩
  · have:=rowAt_sub hr (j:=0) (m:=32) (by omega)
    rwa [markVC_e0] at this
  · have:=rowAt_cell hr (j:=33) (by omega)
    rwa [markVC_g33] at this
theorem MarksIn.len {w : World} {A : Option Addr} {n : Nat} {R : List MarkV} (h : MarksIn w A n R) : R.length = n:=by simpa using h.1
structure MarksOk (w : World) (A : Option Addr) (n : Nat) (R : List MarkV) : Prop where
  rows : MarksIn w A n R
  big : n ≤ 9223372036854775807
  each : ∀ a ∈ R,a.body.size ≤ 9223372036854775807
def FewMarks (R : List MarkV) : Prop:=R.length ≤ 30 ∧ ∀ a ∈ R,a.body.size ≤ 600
end
section
open Go.RowKit
structure VAt (w : World) (g : Nat) (t : ByteArray) (b : Nat) (O : List Nat) (I : List Id32) (v : Value) (s : VSt) : Prop where
  view : ViewAt w g t b I v
  st : StAt w O (b :: O) v s
  gM : g ∉ b :: O
  bO : b ∉ O
  lt : ∀ x ∈ b :: O,x < w.heap.size
  b0 : 0 ∉ b :: O
theorem VAt.below {w w' : World} {g : Nat} {t : ByteArray} {b : Nat} {O : List Nat} {I : List Id32} {v : Value} {s : VSt} (h : VAt w g t b O I v s) (k : Below w.heap.size w w') : VAt w' g t b O I v s :=
  ⟨h.view.below k,h.st.below k,h.gM,h.bO,fun x hx=>Nat.lt_of_lt_of_le (h.lt x hx) k.size,h.b0⟩
def VSt.new (k : Int) : VSt:=if k = 1 then .t 0 else if k = 2 then .b [] [] else if k = 3 then .l [] else if k = 4 then .m [] [] else .s [] []
theorem kindB_range (t : ByteArray) : kindB t = 0 ∨ kindB t = 1 ∨ kindB t = 2 ∨ kindB t = 3 ∨ kindB t = 4 ∨ kindB t = 5:=by
  unfold kindB kindC
  repeat' split
  all_goals simp
theorem vnew_vat {w2 w3 w' : World} {g b : Nat} {t : ByteArray} {O : List Nat} {v : Value} {s : VSt} (hv : ViewAt w' g t b [] v) (hs : StAt w3 O O v s) (hO : ∀ x ∈ O,w2.heap.size ≤ x ∧ x < w3.heap.size) (hb : Below w3.heap.size w3 w') (hg : g = w3.heap.size) (hb2 : b < w2.heap.size) (hbp : 0 < b) (hm : StAt w3 O O v s → StAt w3 O (b :: O) v s) : VAt w' g t b O [] v s:=by
  have h3:=(hm hs).below hb;refine ⟨hv,h3,?_,?_,?_,?_⟩
  · intro hx;rcases List.mem_cons.1 hx with h | h
    · exact hv.ne h
    · have:=(hO _ h).2;omega
  · intro h;have:=(hO _ h).1;omega
  · intro x hx;rcases List.mem_cons.1 hx with h | h
    · rw [h];exact hv.ids.lt
    · have:=(hO _ h).2;have:=hb.size;omega
  · intro hx;rcases List.mem_cons.1 hx with h | h
    · omega
    · have:=(hO _ h).1;omega
theorem vnew_any (t : ByteArray) (w : World) (ht : t.size ≤ 9223372036854775807) (hk0 : kindB t ≠ 0) (hw : 0 < w.heap.size) :
    Calls Tryz.prog 23 #[.string t] w fun e w'=>∃ g b O v,e = .returned (.tuple #[.pointer (some ⟨g,0,none⟩),.int .i64 0]) ∧ VAt w' g t b O [] v (VSt.new (kindB t)) ∧ (∀ x ∈ b :: O,w.heap.size ≤ x) ∧ w.heap.size ≤ g ∧ Below w.heap.size w w':=by
  rcases kindB_range t with h | h | h | h | h | h
  · exact absurd h hk0
  · have hf : ∀ w,Calls Tryz.prog 55 #[.int .i64 1] w fun e w'=>∃ gs,e = .returned (.iface 100 (.pointer (some ⟨gs,0,none⟩))) ∧ (TallyAt w' gs 0 ∧ w.heap.size ≤ gs) ∧ Below w.heap.size w w':=fun w=>(vfresh_t w).mono fun e w' ⟨h1,h2,h3⟩=>⟨_,h1,⟨h2,Nat.le_refl _⟩,h3⟩;refine (vnew t w ht 1 h (by omega) _ _ hf).mono ?_;rintro e w' ⟨g,b,gs,w2,w3,rfl,hv,⟨hz,hz2⟩,hb23,hb3,hg,hb1,hb2,hB⟩;refine ⟨g,b,[gs],.iface 100 (.pointer (some ⟨gs,0,none⟩)),rfl,?_,?_,?_,hB⟩
    · rw [h];refine vnew_vat (s:=.t 0) (w2:=w2) hv ⟨gs,rfl,hz,rfl⟩ (fun x hx=>?_) hb3 hg hb2 (by omega) (fun h=>?_)
      · obtain rfl : x = gs:=by simpa using hx
        exact ⟨hz2,hz.lt⟩
      · obtain ⟨g',e,h1,h2⟩:=h;exact ⟨g',e,h1,h2⟩
    · intro x hx;simp at hx;omega
    · have:=hb23.size;omega
  · refine (vnew t w ht 2 h (by omega) _ _ vfresh_b).mono ?_;rintro e w' ⟨g,b,gs,w2,w3,rfl,hv,⟨bl,bg,hz,z1,z2,z3⟩,hb23,hb3,hg,hb1,hb2,hB⟩;refine ⟨g,b,[gs,bl,bg],.iface 102 (.pointer (some ⟨gs,0,none⟩)),rfl,?_,?_,?_,hB⟩
    · rw [h];refine vnew_vat (s:=.b [] []) (w2:=w2) hv ⟨gs,bl,bg,rfl,hz,rfl⟩ (fun x hx=>?_) hb3 hg hb2 (by omega) (fun h=>?_)
      · have h1:=hz.lt.1;have h2:=hz.live.lt;have h3:=hz.gone.lt;simp at hx;rcases hx with rfl | rfl | rfl <;> omega
      · exact h
    · intro x hx;simp at hx;omega
    · have:=hb23.size;omega
  · refine (vnew t w ht 3 h (by omega) _ _ vfresh_l).mono ?_;rintro e w' ⟨g,b,gs,w2,w3,rfl,hv,⟨bl,hz,z1,z2⟩,hb23,hb3,hg,hb1,hb2,hB⟩;refine ⟨g,b,[gs,bl],.iface 104 (.pointer (some ⟨gs,0,none⟩)),rfl,?_,?_,?_,hB⟩
    · rw [h];refine vnew_vat (s:=.l []) (w2:=w2) hv ⟨gs,bl,rfl,hz,rfl⟩ (fun x hx=>?_) hb3 hg hb2 (by omega) (fun h=>?_)
      · have h1:=hz.lt;simp at hx;rcases hx with rfl | rfl <;> omega
      · exact h
    · intro x hx;simp at hx;omega
    · have:=hb23.size;omega
  · refine (vnew t w ht 4 h (by omega) _ _ vfresh_m).mono ?_;rintro e w' ⟨g,b,gs,w2,w3,rfl,hv,⟨bl,bg,hz,z1,z2,z3⟩,hb23,hb3,hg,hb1,hb2,hB⟩;refine ⟨g,b,[gs,bl,bg],.iface 105 (.pointer (some ⟨gs,0,none⟩)),rfl,?_,?_,?_,hB⟩
    · rw [h];refine vnew_vat (s:=.m [] []) (w2:=w2) hv ⟨gs,bl,bg,rfl,hz,rfl⟩ (fun x hx=>?_) hb3 hg hb2 (by omega) (fun h=>?_)
      · have h1:=hz.lt.1;have h2:=hz.live.lt;have h3:=hz.over.lt;simp at hx;rcases hx with rfl | rfl | rfl <;> omega
      · exact h
    · intro x hx;simp at hx;omega
    · have:=hb23.size;omega
  · refine (vnew t w ht 5 h (by omega) _ _ vfresh_s).mono ?_;rintro e w' ⟨g,b,gs,w2,w3,rfl,hv,⟨bn,bb,bg,hz,z1,z2,z3,z4⟩,hb23,hb3,hg,hb1,hb2,hB⟩;have hz0:=hz [bn,bb,bg] (by simp) (by simp) (by simp);have hm : SeqAt w3 (b :: [gs,bn,bb,bg]) gs bn bb bg [] []:=hz _ (by simp) (by simp) (by simp);refine ⟨g,b,[gs,bn,bb,bg],.iface 106 (.pointer (some ⟨gs,0,none⟩)),rfl,?_,?_,?_,hB⟩
    · rw [h];refine vnew_vat (s:=.s [] []) (w2:=w2) hv ⟨gs,bn,bb,bg,rfl,hz _ (by simp) (by simp) (by simp),rfl⟩ (fun x hx=>?_) hb3 hg hb2 (by omega) (fun _=>⟨gs,bn,bb,bg,rfl,hm,rfl⟩);have h1:=hz0.ltg;obtain ⟨_,_,hn⟩:=hz0.nodes;obtain ⟨_,_,_,hbb,_⟩:=hz0.behind;have h4:=hz0.gone.lt;have h2:=hn.lt;have h3:=hbb.lt;simp at hx;rcases hx with rfl | rfl | rfl | rfl <;> omega
    · intro x hx;simp at hx;omega
    · have:=hb23.size;omega
theorem opO_lo (l : List UInt8) (h : opE l = 0) : -2147483648 ≤ (opO l).n:=by
  have hn:=opO_ok l h;have hk : 1 ≤ numV 1 l 0 ∧ numV 1 l 0 ≤ 7:=by
    unfold opE at h;split at h
    · contradiction
    split at h
    · cases h
    · omega
  have h2:=num_take (numV 1 l 0) (rawL 1 l 0) 0 hk.1 hk.2;have e : (takeO (numV 1 l 0) (rawL 1 l 0) 0).o = opO l:=rfl;rw [e,decide_eq_true hn.2.2.2.2.2.2.2] at h2;unfold numO at h2;simp only [Bool.and_eq_true,decide_eq_true_eq] at h2;exact h2.2.2
def foldS (t : ByteArray) (m : MarkV) (s : VSt) : VSt:=if fits t m then doS m (opO m.body.data.toList) s else s
theorem foldS_kind (t : ByteArray) (m : MarkV) (s : VSt) : (foldS t m s).kind = s.kind:=by
  unfold foldS;split
  · exact doS_kind _ _ _
  · rfl
theorem foldS_len (t : ByteArray) (m : MarkV) (s : VSt) : (foldS t m s).len ≤ s.len + 1:=by
  unfold foldS;split
  · exact doS_len _ _ _
  · omega
theorem vfold_vat (m : MarkV) (w : World) (g : Nat) (t : ByteArray) (b : Nat) (O : List Nat) (I : List Id32) (v : Value) (s : VSt) (h : VAt w g t b O I v s) (hm : m.id ∉ I) (hp : PartsVar w) (hs : m.body.size ≤ 9223372036854775807) (ht : t.size ≤ 9223372036854775807) (hk : kindB t = s.kind) (hl : s.len ≤ 1000) :
    Calls Tryz.prog 26 #[.pointer (some ⟨g,0,none⟩),.agg (markVC m)] w fun e w'=>e = .returned (.bool true) ∧ VAt w' g t b O (m.id :: I) v (foldS t m s) ∧ Keep (b :: O) w w':=by
  have hgO : g ∉ O:=fun hx=>h.gM (List.mem_cons_of_mem _ hx);have hOb : ∀ x ∈ O,x ∉ [b]:=fun x hx hxb=>h.bO (by have : x = b:=by simpa using hxb
                                                                                                                rwa [← this])
  refine vfold_new m w g t b I v h.view hm hp (fun e=>h.b0 (by simp [e])) hs ht (fun w'=>VAt w' g t b O (m.id :: I) v (foldS t m s) ∧ Keep (b :: O) w w') ?_ ?_
  · intro hf w' hv hkp;have e : foldS t m s = s:=if_neg hf;rw [e];exact ⟨⟨hv,h.st.kept hkp hOb (fun x hx=>.inl (by have : x = b:=by simpa using hx
                                                                                                                   simp [this])),h.gM,h.bO,fun x hx=>Nat.lt_of_lt_of_le (h.lt x hx) hkp.size,h.b0⟩,hkp.mono (by simp)⟩
  · intro hf w1 A c hv hkp hp1 hown;have e : foldS t m s = doS m (opO m.body.data.toList) s:=if_pos hf;rw [e];have hok:=opO_ok _ hf.1;have hst : StAt w1 O (b :: O) v s:=h.st.kept hkp hOb (fun x hx=>.inl (by have : x = b:=by simpa using hx
                                                                                                                                                                                                               simp [this]))
    refine (vdoes m _ A c w1 g t b (m.id :: I) v O (b :: O) s hv hst (fun x hx=>Nat.lt_of_lt_of_le (h.lt x hx) hkp.size) ⟨hf.2.trans hk,hok.2.2.2.1,hok.2.2.2.2.1,hok.2.2.2.2.2.1,opO_lo _ hf.1,hok.2.2.2.2.2.2.2⟩ hown.slr hl).mono ?_;rintro e w' ⟨rfl,h1,hk2⟩;exact ⟨rfl,⟨hv.kept hk2 hgO h.bO,h1,h.gM,h.bO,fun x hx=>Nat.lt_of_lt_of_le (h.lt x hx) (Nat.le_trans hkp.size hk2.size),h.b0⟩,Keep.trans (hkp.mono (S':=b :: O) (by simp)) (hk2.mono (S':=b :: O) (fun x hx=>.inl (List.mem_cons_of_mem _ hx))) (fun x hx=>.inl hx)⟩
end
section
open Go.RowKit
theorem getL_cons (a : LRow) (l : List LRow) (k : ByteArray) : getL (a :: l) k = if a.1 = k then some a.2 else getL l k:=by
  unfold getL;rw [List.find?_cons];by_cases h : a.1 = k <;> simp [h]
theorem getL_ins_other : ∀ (l : List LRow) (k k' : ByteArray) (x : Setting),k ≠ k' → getL (insL l k x) k' = getL l k'
  | [],k,k',x,h=>by simp [insL,getL,h]
  | a :: l,k,k',x,h=>by
    unfold insL;split
    · rw [getL_cons,getL_cons,getL_ins_other l k k' x h]
    · split
      · rename_i he
        split
        · rw [getL_cons,getL_cons];simp only;rw [if_neg h,if_neg (fun e=>h (he.symm.trans e))]
        · rfl
      · rw [getL_cons];simp only;rw [if_neg h]
theorem getL_lt {l : List LRow} {k : ByteArray} (h : ∀ y ∈ l,cmpS k y.1 < 0) : getL l k = none:=by
  unfold getL;rw [Option.map_eq_none_iff,List.find?_eq_none];intro y hy e;have:=h y hy;have e' : y.1 = k:=by simpa using e
  rw [e'] at this;exact cmpS_irr this
theorem getL_ins_same : ∀ (l : List LRow) (k : ByteArray) (x : Setting),Rising l → getL (insL l k x) k = some (match getL l k with | none=>x | some was=>if 0 < cmpSet x was then x else was)
  | [],k,x,_=>by simp [insL,getL]
  | a :: l,k,x,hr=>by
    unfold insL;split
    · rename_i hlt
      have hne : a.1 ≠ k:=fun e=>(by rw [e] at hlt;exact cmpS_irr hlt);rw [getL_cons,getL_cons,if_neg hne,if_neg hne];exact getL_ins_same l k x hr.2
    · rename_i hnl
      split
      · rename_i he
        rw [getL_cons a l,if_pos he];split
        · rename_i h0;rw [getL_cons];simp [h0]
        · rename_i h0;rw [getL_cons,if_pos he];simp [h0]
      · rename_i he
        rw [getL_cons];simp only [if_true];rw [getL_cons,if_neg he,getL_lt];intro y hy;exact cmpS_trans _ _ _ (cmpS_ne hnl he) (hr.1 y hy)
theorem orL3_zero {a b c : Int} : orL [a,b,c] = 0 ↔ a = 0 ∧ b = 0 ∧ c = 0:=by
  simp only [orL]
  repeat' split
  all_goals simp_all
theorem cmpI_zero {a b : Int} : cmpI a b = 0 ↔ a = b:=by
  unfold cmpI
  repeat' split
  all_goals first | (simp;omega) | (constructor <;> intro h <;> omega)
theorem cmpI_anti (a b : Int) : cmpI b a = - cmpI a b:=by
  unfold cmpI
  repeat' split
  all_goals first | omega | simp
theorem cmpI_trans {a b c : Int} (h : cmpI a b < 0) (k : cmpI b c < 0) : cmpI a c < 0:=by
  have h1 : a < b:=by unfold cmpI at h;repeat' split at h
                      all_goals first | assumption | omega
  have h2 : b < c:=by unfold cmpI at k;repeat' split at k
                      all_goals first | assumption | omega
  unfold cmpI;rw [if_pos (by omega)];omega
theorem cmpSet_zero {x y : Setting} : cmpSet x y = 0 ↔ x = y:=by
  unfold cmpSet;rw [orL3_zero,cmpI_zero,cmpId_zero,cmpS_zero];constructor
  · rintro ⟨h1,h2,h3⟩;cases x;cases y;simp_all
  · rintro rfl;simp
theorem orL3_neg (a b c : Int) : orL [-a,-b,-c] = - orL [a,b,c]:=by
  simp only [orL]
  repeat' split
  all_goals first | omega | simp
theorem cmpSet_anti (x y : Setting) : cmpSet y x = - cmpSet x y:=by
  unfold cmpSet;rw [cmpI_anti,cmpId_anti,cmpS_anti,orL3_neg]
theorem orL3_lt {a b c : Int} : orL [a,b,c] < 0 ↔ a < 0 ∨ a = 0 ∧ (b < 0 ∨ b = 0 ∧ c < 0):=by
  simp only [orL]
  repeat' split
  all_goals (constructor <;> intro h <;> omega)
theorem cmpSet_trans {x y z : Setting} (h : cmpSet x y < 0) (k : cmpSet y z < 0) : cmpSet x z < 0:=by
  unfold cmpSet at *;rw [orL3_lt] at *;rcases h with h | ⟨h1,h | ⟨h2,h⟩⟩
  · rcases k with k | ⟨k1,_⟩
    · exact .inl (cmpI_trans h k)
    · rw [cmpI_zero] at k1;rw [← k1];exact .inl h
  · rw [cmpI_zero] at h1;rw [h1];rcases k with k | ⟨k1,k | ⟨k2,k⟩⟩
    · exact .inl k
    · exact .inr ⟨k1,.inl (cmpId_trans _ _ _ h k)⟩
    · rw [cmpId_zero] at k2;rw [← k2];exact .inr ⟨k1,.inl h⟩
  · rw [cmpI_zero] at h1;rw [cmpId_zero] at h2;rw [h1,h2];rcases k with k | ⟨k1,k | ⟨k2,k⟩⟩
    · exact .inl k
    · exact .inr ⟨k1,.inl k⟩
    · exact .inr ⟨k1,.inr ⟨k2,cmpS_trans _ _ _ h k⟩⟩
def maxS (o : Option Setting) (x : Setting) : Setting:=match o with | none=>x | some was=>if 0 < cmpSet x was then x else was
theorem maxS_none (x : Setting) : maxS none x = x:=rfl
theorem maxS_some (u x : Setting) : maxS (some u) x = if 0 < cmpSet x u then x else u:=rfl
theorem rising_ext : ∀ {L L' : List LRow},Rising L → Rising L' → (∀ k,getL L k = getL L' k) → L = L'
  | [],[],_,_,_=>rfl
  | [],b :: l',_,_,h=>by
    have:=h b.1;rw [getL_cons,if_pos rfl] at this;cases this
  | a :: l,[],_,_,h=>by
    have:=h a.1;rw [getL_cons,if_pos rfl] at this;cases this
  | a :: l,b :: l',h1,h2,h=>by
    have ha:=h a.1;have hb:=h b.1;rw [getL_cons,if_pos rfl] at ha;rw [getL_cons (a:=b),if_pos rfl] at hb;have hk : a.1 = b.1:=by
      by_cases hlt : cmpS a.1 b.1 < 0
      · have : getL (b :: l') a.1 = none:=getL_lt (fun y hy=>by
          rcases List.mem_cons.1 hy with e | hy
          · rw [e];exact hlt
          · exact cmpS_trans _ _ _ hlt (h2.1 y hy))
        rw [this] at ha;cases ha
      · by_cases he : a.1 = b.1
        · exact he
        · have hlt2:=cmpS_ne hlt he;have : getL (a :: l) b.1 = none:=getL_lt (fun y hy=>by
            rcases List.mem_cons.1 hy with e | hy
            · rw [e];exact hlt2
            · exact cmpS_trans _ _ _ hlt2 (h1.1 y hy))
          rw [this] at hb;cases hb
    rw [getL_cons,if_pos hk.symm] at ha;have hv : a.2 = b.2:=by injection ha
    have hab : a = b:=Prod.ext hk hv;subst hab;congr 1
    refine rising_ext h1.2 h2.2 fun k=>?_;by_cases e : a.1 = k
    · subst e;rw [getL_lt h1.1,getL_lt h2.1]
    · have:=h k
      rwa [getL_cons,getL_cons,if_neg e,if_neg e] at this
theorem getL_ins_max {l : List LRow} {k : ByteArray} {x : Setting} (h : Rising l) : getL (insL l k x) k = some (maxS (getL l k) x):=by
  rw [getL_ins_same l k x h];cases getL l k <;> rfl
end
section
open Go.RowKit
def oOf (m : MarkV) : OpV:=opO m.body.data.toList
def setOf (m : MarkV) : Setting:=⟨(oOf m).val,(oOf m).n,m.id⟩
def nodeOf (m : MarkV) : NodeV:=⟨m.id,m.h,(oOf m).ref,(oOf m).val⟩
def rowOfM (m : MarkV) : MRow:=⟨m.id,(oOf m).key,(oOf m).val⟩
def sumN (F : List MarkV) : Int:=(F.map fun m=>(oOf m).n).sum
theorem sumN_snoc (F : List MarkV) (m : MarkV) : sumN (F ++ [m]) = sumN F + (oOf m).n:=by simp [sumN]
theorem sumN_perm {F F' : List MarkV} (h : F.Perm F') : sumN F = sumN F':=by
  unfold sumN;induction h with
  | nil=>rfl
  | cons x _ ih=>simp only [List.map_cons,List.sum_cons,ih]
  | swap x y l=>simp only [List.map_cons,List.sum_cons];omega
  | trans _ _ h1 h2=>rw [h1,h2]
theorem wrap64_left (a b : Int) : wrap64 (wrap64 a + b) = wrap64 (a + b):=by unfold wrap64;omega
def Latest (F : List MarkV) (k : ByteArray) : Option Setting → Prop
  | none=>∀ m ∈ F,checkE (oOf m).key (setOf m) = 0 → (oOf m).key ≠ k
  | some s=>(∃ m ∈ F,checkE (oOf m).key (setOf m) = 0 ∧ (oOf m).key = k ∧ s = setOf m) ∧ ∀ m ∈ F,checkE (oOf m).key (setOf m) = 0 → (oOf m).key = k → ¬ 0 < cmpSet (setOf m) s
def Means (F : List MarkV) : VSt → Prop
  | .t n=>n = wrap64 (sumN F)
  | .b L G=>Ris cmpRow L ∧ Ris cmpRow G ∧ (∀ z,z ∈ G ↔ ∃ m ∈ F,(oOf m).k ≠ 2 ∧ z.val = (oOf m).val ∧ z.tag ∈ (oOf m).refs) ∧ ∀ z,z ∈ L ↔ (∃ m ∈ F,(oOf m).k = 2 ∧ z = ⟨m.id,(oOf m).val⟩) ∧ z ∉ G
  | .l L=>RowsOk L ∧ ∀ k,Latest F k (getL L k)
  | .m X O=>Ris cmpMR X ∧ Ris cmpId O ∧ (∀ z,z ∈ O ↔ ∃ m ∈ F,z ∈ (oOf m).refs) ∧ ∀ z,z ∈ X ↔ (∃ m ∈ F,z = rowOfM m) ∧ z.id ∉ O
  | .s N G=>(∀ z,z ∈ N ↔ ∃ m ∈ F,(oOf m).k = 6 ∧ z = nodeOf m ∧ nodeE z = 0) ∧ Ris cmpId G ∧ ∀ z,z ∈ G ↔ ∃ m ∈ F,(oOf m).k ≠ 6 ∧ z = (oOf m).ref
theorem ex_snoc {F : List MarkV} {m : MarkV} {P : MarkV → Prop} : (∃ a ∈ F ++ [m],P a) ↔ (∃ a ∈ F,P a) ∨ P m:=by
  constructor
  · rintro ⟨a,ha,hp⟩;rcases List.mem_append.1 ha with h | h
    · exact .inl ⟨a,h,hp⟩
    · have e : a = m:=by simpa using h
      subst e;exact .inr hp
  · rintro (⟨a,ha,hp⟩ | hp)
    · exact ⟨a,List.mem_append_left _ ha,hp⟩
    · exact ⟨m,by simp,hp⟩
theorem all_snoc {F : List MarkV} {m : MarkV} {P : MarkV → Prop} : (∀ a ∈ F ++ [m],P a) ↔ (∀ a ∈ F,P a) ∧ P m:=by
  constructor
  · intro h;exact ⟨fun a ha=>h a (List.mem_append_left _ ha),h m (by simp)⟩
  · rintro ⟨h1,h2⟩ a ha;rcases List.mem_append.1 ha with h | h
    · exact h1 a h
    · have e : a = m:=by simpa using h
      subst e;exact h2
theorem means_new (k : Int) : Means [] (VSt.new k):=by
  unfold VSt.new;split
  · show (0 : Int) = wrap64 (sumN []);decide +kernel
  split
  · exact ⟨Ris.nil,Ris.nil,by simp,by simp⟩
  split
  · exact ⟨⟨trivial,by simp⟩,fun k=>by show Latest [] k none;intro m hm;simp at hm⟩
  split
  · exact ⟨Ris.nil,Ris.nil,by simp,by simp⟩
  · exact ⟨by simp,Ris.nil,by simp⟩
theorem latest_snoc {F : List MarkV} {m : MarkV} {L : List LRow} (hr : Rising L) (h : ∀ k,Latest F k (getL L k)) (hc : checkE (oOf m).key (setOf m) = 0) (k : ByteArray) : Latest (F ++ [m]) k (getL (insL L (oOf m).key (setOf m)) k):=by
  by_cases hk : (oOf m).key = k
  · subst hk;rw [getL_ins_max hr];have h1:=h (oOf m).key;cases hg : getL L (oOf m).key with
    | none =>
      rw [hg] at h1;rw [maxS_none];refine ⟨ex_snoc.2 (.inr ⟨hc,rfl,rfl⟩),all_snoc.2 ⟨fun a ha hca e=>absurd e (h1 a ha hca),fun _ _=>?_⟩⟩;rw [(cmpSet_zero (x:=setOf m)).2 rfl];omega
    | some u =>
      rw [hg] at h1;rw [maxS_some];obtain ⟨h2,h3⟩:=h1;by_cases hu : 0 < cmpSet (setOf m) u
      · rw [if_pos hu];refine ⟨ex_snoc.2 (.inr ⟨hc,rfl,rfl⟩),all_snoc.2 ⟨fun a ha hca e hlt=>?_,fun _ _=>?_⟩⟩
        · have h4:=h3 a ha hca e;have h5:=cmpSet_anti (setOf a) (setOf m);have h6:=cmpSet_anti (setOf a) u;have h8:=cmpSet_anti (setOf m) u;by_cases h7 : cmpSet (setOf a) u = 0
          · rw [cmpSet_zero.1 h7] at hlt;omega
          · have:=cmpSet_trans (x:=u) (y:=setOf m) (z:=setOf a) (by omega) (by omega);omega
        · rw [(cmpSet_zero (x:=setOf m)).2 rfl];omega
      · rw [if_neg hu];exact ⟨ex_snoc.2 (.inl h2),all_snoc.2 ⟨h3,fun _ _=>hu⟩⟩
  · rw [getL_ins_other _ _ _ _ hk];have h1:=h k;cases hg : getL L k with
    | none=>rw [hg] at h1;exact all_snoc.2 ⟨h1,fun _=>hk⟩
    | some u =>
      rw [hg] at h1;exact ⟨ex_snoc.2 (.inl h1.1),all_snoc.2 ⟨h1.2,fun _ e=>absurd e hk⟩⟩
theorem latest_skip {F : List MarkV} {m : MarkV} {k : ByteArray} {o : Option Setting} (h : Latest F k o) (hc : checkE (oOf m).key (setOf m) ≠ 0) : Latest (F ++ [m]) k o:=by
  cases o with
  | none=>exact all_snoc.2 ⟨h,fun e=>absurd e hc⟩
  | some u=>exact ⟨ex_snoc.2 (.inl h.1),all_snoc.2 ⟨h.2,fun e=>absurd e hc⟩⟩
theorem mem_addB {L G : List BRow} {x z : BRow} (hv : x.val.size ≤ 16) (hr : Ris cmpRow L) (hl : ∀ y ∈ L,y ∉ G) : z ∈ addB L G x ↔ (z ∈ L ∨ z = x) ∧ z ∉ G:=by
  unfold addB;rw [if_neg (by omega)];split
  · rename_i h
    constructor
    · intro hz;exact ⟨.inl hz,hl z hz⟩
    · rintro ⟨h1 | h1,h2⟩
      · exact h1
      · subst h1;exact absurd h h2
  · rename_i h
    rw [mem_insC totRow];constructor
    · rintro (h1 | h1)
      · subst h1;exact ⟨.inr rfl,h⟩
      · exact ⟨.inl h1,hl z h1⟩
    · rintro ⟨h1 | h1,_⟩
      · exact .inr h1
      · exact .inl h1
theorem ris_addB {L G : List BRow} {x : BRow} (hr : Ris cmpRow L) : Ris cmpRow (addB L G x):=by
  unfold addB;split
  · exact hr
  · split
    · exact hr
    · exact ris_insC totRow hr
theorem means_fold {F : List MarkV} {m : MarkV} {s : VSt} (h : Means F s) (hv : (oOf m).val.size ≤ 16) (hid : ∀ a ∈ F,a.id ≠ m.id) : Means (F ++ [m]) (doS m (oOf m) s):=by
  cases s with
  | t n =>
    show wrap64 (n + (oOf m).n) = wrap64 (sumN (F ++ [m]));have e : n = wrap64 (sumN F):=h;rw [sumN_snoc,e,wrap64_left]
  | b L G =>
    obtain ⟨h1,h2,h3,h4⟩:=h;by_cases hk : (oOf m).k = 2
    · rw [doS_b2 m _ L G hk];refine ⟨ris_addB h1,h2,fun z=>?_,fun z=>?_⟩
      · rw [ex_snoc,← h3];exact ⟨.inl,fun h=>h.elim id fun h=>absurd hk h.1⟩
      · rw [mem_addB (x:=⟨m.id,(oOf m).val⟩) hv h1 (fun y hy=>((h4 y).1 hy).2),ex_snoc,h4];constructor
        · rintro ⟨⟨h5,_⟩ | h5,h6⟩
          · exact ⟨.inl h5,h6⟩
          · exact ⟨.inr ⟨hk,h5⟩,h6⟩
        · rintro ⟨h5 | ⟨_,h5⟩,h6⟩
          · exact ⟨.inl ⟨h5,h6⟩,h6⟩
          · exact ⟨.inr h5,h6⟩
    · rw [doS_b3 m _ L G hk];refine ⟨ris_remL h1,ris_remG h2,fun z=>?_,fun z=>?_⟩
      · rw [mem_remG,ex_snoc,h3];exact ⟨fun h=>h.elim .inl fun h=>.inr ⟨hk,h.1,h.2⟩,fun h=>h.elim .inl fun h=>.inr ⟨h.2.1,h.2.2⟩⟩
      · rw [mem_remL,mem_remG,ex_snoc,h4];constructor
        · rintro ⟨⟨h5,h6⟩,h7⟩;exact ⟨.inl h5,fun h=>h.elim h6 h7⟩
        · rintro ⟨h5 | h5,h6⟩
          · exact ⟨⟨h5,fun h=>h6 (.inl h)⟩,fun h=>h6 (.inr h)⟩
          · exact absurd h5.1 hk
  | l L =>
    obtain ⟨h1,h2⟩:=h;show RowsOk (setL L (oOf m).key (setOf m)) ∧ _;refine ⟨setL_ok h1 _ _,fun k=>?_⟩;show Latest _ k (getL (setL L (oOf m).key (setOf m)) k);unfold setL;by_cases hc : checkE (oOf m).key (setOf m) = 0
    · rw [if_pos hc];exact latest_snoc h1.1 h2 hc k
    · rw [if_neg hc];exact latest_skip (h2 k) hc
  | m X O =>
    obtain ⟨h1,h2,h3,h4⟩:=h;have hO : ∀ z,z ∈ putO O (oOf m).refs ↔ ∃ a ∈ F ++ [m],z ∈ (oOf a).refs:=fun z=>(by rw [mem_putO h2,ex_snoc,h3]);refine ⟨(ris_insC totMR h1).filter _,putO_ris h2,hO,fun z=>?_⟩;show z ∈ livR (insC cmpMR X (rowOfM m)) (putO O (oOf m).refs) ↔ _;unfold livR;rw [List.mem_filter,mem_insC totMR,ex_snoc,h4];simp only [decide_eq_true_eq];constructor
    · rintro ⟨h5 | ⟨h5,_⟩,h6⟩
      · exact ⟨.inr h5,h6⟩
      · exact ⟨.inl h5,h6⟩
    · rintro ⟨h5 | h5,h6⟩
      · exact ⟨.inr ⟨h5,fun h=>h6 ((mem_putO h2).2 (.inl h))⟩,h6⟩
      · exact ⟨.inl h5,h6⟩
  | s N G =>
    obtain ⟨h1,h2,h3⟩:=h;by_cases hk : (oOf m).k = 6
    · rw [doS_s6 m _ N G hk];refine ⟨fun z=>?_,h2,fun z=>?_⟩
      · show z ∈ addN N (nodeOf m) ↔ _;unfold addN;rw [ex_snoc,← h1];by_cases hE : nodeE (nodeOf m) = 0
        · rw [if_pos hE];have hn : (nodeOf m).id ∉ N.map NodeV.id:=fun hx=>by
            obtain ⟨a,ha,e⟩:=List.mem_map.1 hx;obtain ⟨b,hb,_,e2,_⟩:=(h1 a).1 ha;rw [e2] at e;exact hid b hb e
          rw [if_neg hn,List.mem_append,List.mem_singleton];exact ⟨fun h=>h.elim .inl fun h=>.inr ⟨hk,h,by rw [h];exact hE⟩,fun h=>h.elim .inl fun h=>.inr h.2.1⟩
        · rw [if_neg hE];exact ⟨.inl,fun h=>h.elim id fun h=>absurd (by rw [← h.2.1];exact h.2.2) hE⟩
      · rw [ex_snoc,← h3];exact ⟨.inl,fun h=>h.elim id fun h=>absurd hk h.1⟩
    · rw [doS_s7 m _ N G hk];refine ⟨fun z=>?_,ris_insC totId h2,fun z=>?_⟩
      · rw [ex_snoc,← h1];exact ⟨.inl,fun h=>h.elim id fun h=>absurd h.1 hk⟩
      · rw [mem_insC totId,ex_snoc,h3];exact ⟨fun h=>h.elim (fun h=>.inr ⟨hk,h⟩) .inl,fun h=>h.elim .inr fun h=>.inl h.2⟩
def SameS : VSt → VSt → Prop
  | .t a,.t b=>a = b
  | .b L G,.b L' G'=>L = L' ∧ G = G'
  | .l L,.l L'=>L = L'
  | .m X O,.m X' O'=>X = X' ∧ O = O'
  | .s N G,.s N' G'=>(∀ z,z ∈ N ↔ z ∈ N') ∧ G = G'
  | _,_=>False
theorem ex_mem {F F' : List MarkV} {P : MarkV → Prop} (h : ∀ m,m ∈ F ↔ m ∈ F') : (∃ a ∈ F,P a) ↔ ∃ a ∈ F',P a :=
  ⟨fun ⟨a,ha,hp⟩=>⟨a,(h a).1 ha,hp⟩,fun ⟨a,ha,hp⟩=>⟨a,(h a).2 ha,hp⟩⟩
theorem latest_uniq {F F' : List MarkV} {k : ByteArray} {o o' : Option Setting} (hm : ∀ m,m ∈ F ↔ m ∈ F') (h : Latest F k o) (h' : Latest F' k o') : o = o':=by
  cases o with
  | none =>
    cases o' with
    | none=>rfl
    | some u =>
      obtain ⟨⟨a,ha,hc,e,_⟩,_⟩:=h';exact absurd e (h a ((hm a).2 ha) hc)
  | some v =>
    obtain ⟨⟨b,hb,hcb,eb,evb⟩,hmax⟩:=h;cases o' with
    | none=>exact absurd eb (h' b ((hm b).1 hb) hcb)
    | some u =>
      obtain ⟨⟨a,ha,hc,e,ea⟩,hmax'⟩:=h';have h1:=hmax a ((hm a).2 ha) hc e;have h2:=hmax' b ((hm b).1 hb) hcb eb;have h3:=cmpSet_anti (setOf a) v;rw [← ea] at h1 h3;rw [← evb] at h2;have : cmpSet u v = 0:=by omega
      rw [cmpSet_zero.1 this]
theorem means_uniq {F F' : List MarkV} {s s' : VSt} (hp : F.Perm F') (h : Means F s) (h' : Means F' s') (hk : s.kind = s'.kind) : SameS s s':=by
  have hm : ∀ m,m ∈ F ↔ m ∈ F':=fun m=>hp.mem_iff;cases s <;> cases s' <;> simp [VSt.kind] at hk
  · show _ = _;have e1 : _ = wrap64 (sumN F):=h;have e2 : _ = wrap64 (sumN F'):=h';rw [e1,e2,sumN_perm hp]
  · obtain ⟨a1,a2,a3,a4⟩:=h;obtain ⟨b1,b2,b3,b4⟩:=h';have hG:=ris_ext totRow a2 b2 fun z=>(by rw [a3,b3];exact ex_mem hm);subst hG;exact ⟨ris_ext totRow a1 b1 fun z=>by rw [a4,b4,ex_mem hm],rfl⟩
  · obtain ⟨a1,a2⟩:=h;obtain ⟨b1,b2⟩:=h';exact rising_ext a1.1 b1.1 fun k=>latest_uniq hm (a2 k) (b2 k)
  · obtain ⟨a1,a2,a3,a4⟩:=h;obtain ⟨b1,b2,b3,b4⟩:=h';have hO:=ris_ext totId a2 b2 fun z=>(by rw [a3,b3];exact ex_mem hm);subst hO;exact ⟨ris_ext totMR a1 b1 fun z=>by rw [a4,b4,ex_mem hm],rfl⟩
  · obtain ⟨a1,a2,a3⟩:=h;obtain ⟨b1,b2,b3⟩:=h';exact ⟨fun z=>by rw [a1,b1];exact ex_mem hm,ris_ext totId a2 b2 fun z=>by rw [a3,b3];exact ex_mem hm⟩
end
section
open Go.RowKit
def dAC (x : OpP) (d : Id32) (h : Int) : Array Value:=opPC x ++ idC d ++ #[.int .i64 h]
section
variable (x : OpP) (d : Id32) (h : Int)
@[simp] theorem dAC_size : (dAC x d h).size = 70:=by simp [dAC]
@[go_sem] theorem dAC_e0 : (dAC x d h).extract 0 37 = opPC x:=by
  have e : dAC x d h = #[] ++ opPC x ++ (idC d ++ #[.int .i64 h]):=by simp [dAC,Array.append_assoc]
  rw [e];exact arr_mid _ _ _ _ _ (by simp) (by simp)
@[go_sem] theorem dAC_e37 : (dAC x d h).extract 37 69 = idC d:=arr_mid _ _ _ _ _ (by simp) (by simp)
@[go_sem] theorem dAC_all : (dAC x d h).extract 0 70 = dAC x d h:=by have:=Array.extract_size (xs:=dAC x d h);rwa [dAC_size] at this
theorem dAC_low {i : Nat} (hi : i < 37) : (dAC x d h)[i]? = (opPC x)[i]?:=by
  unfold dAC;rw [Array.append_assoc,Array.getElem?_append_left (by simp;omega)]
@[go_sem] theorem dAC_g0 : (dAC x d h)[0]? = some (.int .i64 x.k):=(dAC_low x d h (by omega)).trans (opPC_g0 x)
@[go_sem] theorem dAC_g1 : (dAC x d h)[1]? = some (.int .i64 x.n):=(dAC_low x d h (by omega)).trans (opPC_g1 x)
@[go_sem] theorem dAC_g2 : (dAC x d h)[2]? = some (.string x.key):=(dAC_low x d h (by omega)).trans (opPC_g2 x)
@[go_sem] theorem dAC_g3 : (dAC x d h)[3]? = some (.string x.val):=(dAC_low x d h (by omega)).trans (opPC_g3 x)
@[go_sem] theorem dAC_g36 : (dAC x d h)[36]? = some x.refs:=(dAC_low x d h (by omega)).trans (opPC_g36 x)
@[go_sem] theorem dAC_e4 : (dAC x d h).extract 4 36 = idC x.ref:=by
  have e : (dAC x d h).extract 4 36 = ((dAC x d h).extract 0 37).extract 4 36:=by rw [Array.extract_extract];simp
  rw [e,dAC_e0,opPC_e4]
@[go_sem] theorem dAC_g69 : (dAC x d h)[69]? = some (.int .i64 h):=by
  have e : dAC x d h = (opPC x ++ idC d) ++ #[.int .i64 h] ++ #[]:=by simp [dAC]
  rw [e];exact arr_at _ _ _ _ (by simp)
theorem dAC_one (hx : x.refs.oneCell' = true) : ∀ u ∈ (dAC x d h).toList,u.oneCell' = true:=by
  intro u hu;simp only [dAC,Array.toList_append,List.mem_append] at hu;rcases hu with (hu | hu) | hu
  · exact opPC_one x hx u hu
  · exact idC_one d u hu
  · simp at hu;subst hu;rfl
end
theorem infoAct : (Tryz.prog.info? 139).map (·.size) = some 70:=by kernel_rfl
@[go_sem ↓] theorem zeroAct_run (w : World) : (zeroValue 139).run Tryz.prog w = .ok (.agg (dAC opP0 id0 0)) w:=by
  have h : (Tryz.prog.info? 139).bind (·.zero) = some (.agg (dAC opP0 id0 0)):=by kernel_rfl
  cases hi : Tryz.prog.info? 139 with
  | none=>rw [hi] at h;cases h
  | some i =>
    rw [hi] at h;have hz : i.zero = some (.agg (dAC opP0 id0 0)):=h;simp [zeroValue,typeInfo,hi,hz]
@[go_sem ↓] theorem loadAct_rw (a : Addr) : loadVar 139 a = ldS 139 a:=rfl
@[go_sem ↓] theorem storeAct_rw (a : Addr) (v : Value) : storeVar 139 a v = stS 139 a v:=rfl
@[go_sem] theorem loadAct_run (w : World) (g o : Nat) : (ldS 139 ⟨g,o,none⟩).run Tryz.prog w = match rowAt w g o 70 with | some cs=>.ok (.agg cs) w | none=>(loadVar 139 ⟨g,o,none⟩).run Tryz.prog w :=
  run_ldS Tryz.underlying139 rfl infoAct w g o
theorem fieldsAct : Tryz.prog.underlying 139 = some (.struct (Tryz.prog.fieldsOf 139)):=by kernel_rfl
theorem placesAct (w : World) : ((Tryz.prog.fieldsOf 139).mapM fun (f : Field)=>do pure (f.offset,← sizeOf f.type)).run Tryz.prog w = .ok #[(0,37),(37,32),(69,1)] w:=by kernel_rfl
@[go_sem ↓] theorem buildAct_rw (parts : Array (Nat × Value)) : Instr.build 139 parts = bdS 139 parts:=rfl
@[go_sem] theorem buildAct (x : OpP) (d : Id32) (h : Int) (w : World) : (bdS 139 #[(0,.agg (opPC x)),(1,.agg (idC d)),(2,.int .i64 h)]).run Tryz.prog w = .ok (.agg (dAC x d h)) w:=by
  refine run_build w fieldsAct _ (zeroAct_run w) _ (placesAct w) [(0,.agg (opPC x)),(1,.agg (idC d)),(2,.int .i64 h)] _ ?_;rw [show dAC opP0 id0 0 = (#[] : Array Value) ++ opPC opP0 ++ (idC id0 ++ #[.int .i64 0]) from by simp [dAC,Array.append_assoc]];rw [fill_step (off:=0) (size:=37) rfl (by simp) (by simp) (by simp [Value.cells])];rw [show (#[] : Array Value) ++ (Value.agg (opPC x)).cells ++ (idC id0 ++ #[.int .i64 0]) = opPC x ++ idC id0 ++ #[.int .i64 0] from by simp [Value.cells,Array.append_assoc]];rw [fill_step (off:=37) (size:=32) rfl (by simp) (by simp) (by simp [Value.cells])];rw [show opPC x ++ (Value.agg (idC d)).cells ++ #[.int .i64 0] = (opPC x ++ idC d) ++ #[.int .i64 0] ++ (#[] : Array Value) from by simp [Value.cells]];rw [fill_step (off:=69) (size:=1) rfl (by simp) (by simp) (by simp [Value.cells])];simp [Instr.fill,dAC,Value.cells]
theorem einfoAct : ElemInfo Tryz.prog 89 139 70 144 :=
  .of (z:=.agg (dAC opP0 id0 0)) Tryz.underlying89 (by kernel_rfl) (by kernel_rfl) (by kernel_rfl) (dAC_size _ _ _) (by omega)
@[go_sem ↓] theorem bsAct_rw (n : Nat) (parts : Array (Nat × Value)) : Instr.buildSlice 89 n parts = bsS 89 n parts:=rfl
@[go_sem] theorem bsAct_run (w : World) (x : OpP) (d : Id32) (h : Int) : (bsS 89 1 #[(0,.agg (dAC x d h))]).run Tryz.prog w = .ok (.slice (some ⟨w.heap.size,0,none⟩) 1 1) (w.alloc (.cells (dAC x d h) 139)) :=
  run_bsS1 einfoAct (by omega) w _ (dAC_size _ _ _)
structure ActM where
  m : MarkV
  A : Option Addr
  c : Nat
def opM (a : ActM) : OpP:=⟨(oOf a.m).k,(oOf a.m).n,(oOf a.m).key,(oOf a.m).val,(oOf a.m).ref,.slice a.A (oOf a.m).refs.length a.c⟩
def actR (a : ActM) : Array Value:=dAC (opM a) a.m.id a.m.h
@[simp] theorem actR_size (a : ActM) : (actR a).size = 70:=dAC_size _ _ _
section
variable (a : ActM)
@[go_sem] theorem actR_e37 : (actR a).extract 37 69 = idC a.m.id:=dAC_e37 _ _ _
@[go_sem] theorem actR_all : (actR a).extract 0 70 = actR a:=dAC_all _ _ _
@[go_sem] theorem actR_e4 : (actR a).extract 4 36 = idC (oOf a.m).ref:=dAC_e4 _ _ _
@[go_sem] theorem actR_g0 : (actR a)[0]? = some (.int .i64 (oOf a.m).k):=dAC_g0 _ _ _
@[go_sem] theorem actR_g1 : (actR a)[1]? = some (.int .i64 (oOf a.m).n):=dAC_g1 _ _ _
@[go_sem] theorem actR_g2 : (actR a)[2]? = some (.string (oOf a.m).key):=dAC_g2 _ _ _
@[go_sem] theorem actR_g3 : (actR a)[3]? = some (.string (oOf a.m).val):=dAC_g3 _ _ _
@[go_sem] theorem actR_g36 : (actR a)[36]? = some (.slice a.A (oOf a.m).refs.length a.c):=dAC_g36 _ _ _
@[go_sem] theorem actR_g69 : (actR a)[69]? = some (.int .i64 a.m.h):=dAC_g69 _ _ _
@[go_sem] theorem actR_i0 (h : 0 < (actR a).size) : (actR a)[0] = .int .i64 (oOf a.m).k:=Option.some.inj ((Array.getElem?_eq_getElem h).symm.trans (actR_g0 a))
@[go_sem] theorem actR_i1 (h : 1 < (actR a).size) : (actR a)[1] = .int .i64 (oOf a.m).n:=Option.some.inj ((Array.getElem?_eq_getElem h).symm.trans (actR_g1 a))
@[go_sem] theorem actR_i3 (h : 3 < (actR a).size) : (actR a)[3] = .string (oOf a.m).val:=Option.some.inj ((Array.getElem?_eq_getElem h).symm.trans (actR_g3 a))
end
theorem actR_one (a : ActM) : ∀ u ∈ (actR a).toList,u.oneCell' = true:=dAC_one _ _ _ rfl
@[go_sem] theorem storeActR_run (w : World) (g : Nat) (hg : g = w.heap.size) (z : Array Value) (hz : z.size = 70) (a : ActM) (e : TypeId) : (stS 139 ⟨g,0,none⟩ (.agg (actR a))).run Tryz.prog (w.alloc (.cells z e)) = .ok () (w.alloc (.cells (actR a) e)) :=
  hg ▸ run_stS_new infoAct w z _ hz (actR_size _) (actR_one _)
@[go_sem] theorem bsActR_run (w : World) (a : ActM) : (bsS 89 1 #[(0,.agg (actR a))]).run Tryz.prog w = .ok (.slice (some ⟨w.heap.size,0,none⟩) 1 1) (w.alloc (.cells (actR a) 139)) :=
  run_bsS1 einfoAct (by omega) w _ (actR_size _)
def RefsAt (w : World) (a : ActM) : Prop:=TagsIn w a.A (oOf a.m).refs.length (oOf a.m).refs
abbrev ActsIn (w : World) (A : Option Addr) (n : Nat) (L : List ActM) : Prop:=SlR w A n 70 (L.map actR)
theorem RefsAt.below {w w' : World} {a : ActM} (h : RefsAt w a) (hb : Below w.heap.size w w') : RefsAt w' a:=SlR.below h hb
theorem ActsIn.get {w : World} {A : Option Addr} {n : Nat} {L : List ActM} (h : ActsIn w A n L) {i : Nat} (hi : i < n) (hL : i < L.length) : ∃ g o,A = some ⟨g,o,none⟩ ∧ rowAt w g (o + i * 70) 70 = some (actR L[i]):=by
  obtain ⟨g,o,e,hr⟩:=h.at_ hi;exact ⟨g,o,e,by rw [hr,List.getElem_map]⟩
theorem ActsIn.len {w : World} {A : Option Addr} {n : Nat} {L : List ActM} (h : ActsIn w A n L) : L.length = n:=by simpa using h.1
end
namespace Stb
variable {α : Type}
def swp (f : Nat → α) (i j : Nat) : Nat → α:=fun k=>if k = i then f j else if k = j then f i else f k
def Sw (a b : Nat) (f f' : Nat → α) : Prop:=∃ s t : Nat → Nat,(∀ k,f' k = f (s k)) ∧ (∀ k,t (s k) = k) ∧ (∀ k,s (t k) = k) ∧ (∀ k,k < a ∨ b ≤ k → s k = k)
theorem Sw.refl (a b : Nat) (f : Nat → α) : Sw a b f f:=⟨id,id,fun _=>rfl,fun _=>rfl,fun _=>rfl,fun _ _=>rfl⟩
theorem Sw.trans {a b : Nat} {f g h : Nat → α} (h1 : Sw a b f g) (h2 : Sw a b g h) : Sw a b f h:=by
  obtain ⟨s,t,e,p,q,o⟩:=h1;obtain ⟨s',t',e',p',q',o'⟩:=h2;exact ⟨fun k=>s (s' k),fun k=>t' (t k),fun k=>by rw [e',e],fun k=>by dsimp only;rw [p,p'],fun k=>by dsimp only;rw [q',q],fun k hk=>by dsimp only;rw [o' k hk,o k hk]⟩
theorem Sw.wide {a b a' b' : Nat} {f g : Nat → α} (h : Sw a b f g) (ha : a' ≤ a) (hb : b ≤ b') : Sw a' b' f g:=by
  obtain ⟨s,t,e,p,q,o⟩:=h;exact ⟨s,t,e,p,q,fun k hk=>o k (by omega)⟩
theorem Sw.swp {a b : Nat} (f : Nat → α) {i j : Nat} (hi : a ≤ i) (hi' : i < b) (hj : a ≤ j) (hj' : j < b) : Sw a b f (swp f i j):=by
  have h : ∀ k,(fun k=>if k = i then j else if k = j then i else k) ((fun k=>if k = i then j else if k = j then i else k) k) = k:=by
    intro k;dsimp only;repeat' split
    all_goals omega
  refine ⟨fun k=>if k = i then j else if k = j then i else k,fun k=>if k = i then j else if k = j then i else k,fun k=>?_,h,h,fun k hk=>?_⟩
  · unfold Go.Proofs.YtgfpjjppeldhbaaGreatDoor.Stb.swp;dsimp only;repeat' split
    all_goals rfl
  · dsimp only;rw [if_neg (by omega),if_neg (by omega)]
theorem Sw.out {a b : Nat} {f g : Nat → α} (h : Sw a b f g) {k : Nat} (hk : k < a ∨ b ≤ k) : g k = f k:=by
  obtain ⟨s,t,e,p,q,o⟩:=h;rw [e,o k hk]
theorem Sw.at_ {a b : Nat} {f g : Nat → α} (h : Sw a b f g) {k : Nat} (h1 : a ≤ k) (h2 : k < b) : ∃ j,a ≤ j ∧ j < b ∧ g k = f j:=by
  obtain ⟨s,t,e,p,q,o⟩:=h;refine ⟨s k,Classical.byContradiction fun hn=>?_,Classical.byContradiction fun hn=>?_,e k⟩
  · have h3:=o (s k) (.inl (by omega));have h4 : s k = k:=by rw [← p (s k),h3,p]
    omega
  · have h3:=o (s k) (.inr (by omega));have h4 : s k = k:=by rw [← p (s k),h3,p]
    omega
theorem Sw.to_ {a b : Nat} {f g : Nat → α} (h : Sw a b f g) {k : Nat} (h1 : a ≤ k) (h2 : k < b) : ∃ j,a ≤ j ∧ j < b ∧ f k = g j:=by
  obtain ⟨s,t,e,p,q,o⟩:=h;have e2 : ∀ k,f k = g (t k):=fun k=>(by rw [e,q]);have o2 : ∀ k,k < a ∨ b ≤ k → t k = k:=fun k hk=>(by have h5:=p k;rwa [o k hk] at h5);refine ⟨t k,Classical.byContradiction fun hn=>?_,Classical.byContradiction fun hn=>?_,e2 k⟩
  · have h3:=o2 (t k) (.inl (by omega));have h4 : t k = k:=by rw [← q (t k),h3,q]
    omega
  · have h3:=o2 (t k) (.inr (by omega));have h4 : t k = k:=by rw [← q (t k),h3,q]
    omega
theorem Sw.inj {a b : Nat} {f g : Nat → α} (h : Sw a b f g) (hf : ∀ i j,i < b → j < b → f i = f j → i = j) : ∀ i j,i < b → j < b → g i = g j → i = j:=by
  intro i j hi hj he;obtain ⟨s,t,e,p,q,o⟩:=h;have hb : ∀ k,k < b → s k < b:=fun k hk=>Classical.byContradiction fun hn=>by
    have h3:=o (s k) (.inr (by omega));have h4 : s k = k:=by rw [← p (s k),h3,p]
    omega
  rw [e,e] at he;have:=hf _ _ (hb i hi) (hb j hj) he;rw [← p i,this,p]
def Srt (lt : α → α → Prop) (a b : Nat) (f : Nat → α) : Prop:=∀ i j,a ≤ i → i < j → j < b → ¬ lt (f j) (f i)
def rot (f : Nat → α) (a m b : Nat) : Nat → α:=fun k=>if a ≤ k ∧ k < a + (b - m) then f (k + (m - a)) else if a + (b - m) ≤ k ∧ k < b then f (k - (b - m)) else f k
def swr (f : Nat → α) (a b n : Nat) : Nat → α:=fun k=>if a ≤ k ∧ k < a + n then f (k - a + b) else if b ≤ k ∧ k < b + n then f (k - b + a) else f k
theorem swr_zero (f : Nat → α) (a b : Nat) : swr f a b 0 = f:=by
  funext k;unfold swr;rw [if_neg (by omega),if_neg (by omega)]
theorem swr_succ (f : Nat → α) (a b n : Nat) (h : a + n < b) : swp (swr f a b n) (a + n) (b + n) = swr f a b (n + 1):=by
  funext k;unfold swp swr
  by_cases h1 : k = a + n
  · rw [if_pos h1,if_neg (by omega),if_neg (by omega),if_pos (by omega)];congr 1;omega
  · rw [if_neg h1];by_cases h2 : k = b + n
    · rw [if_pos h2,if_neg (by omega),if_neg (by omega),if_neg (by omega),if_pos (by omega)];congr 1;omega
    · rw [if_neg h2];by_cases h3 : a ≤ k ∧ k < a + n
      · rw [if_pos h3,if_pos (by omega)]
      · rw [if_neg h3,if_neg (c:=a ≤ k ∧ k < a + (n + 1)) (by omega)];by_cases h4 : b ≤ k ∧ k < b + n
        · rw [if_pos h4,if_pos (by omega)]
        · rw [if_neg h4,if_neg (by omega)]
theorem rot_left (f : Nat → α) (m i j : Nat) (hi : i ≤ m) (hj : 0 < j) (h : j < i) : rot (swr f (m - i) m j) (m - (i - j)) m (m + j) = rot f (m - i) m (m + j):=by
  funext k;unfold rot swr
  by_cases h1 : m - i ≤ k ∧ k < m - i + (m + j - m)
  · rw [if_pos h1,if_neg (by omega),if_neg (by omega),if_pos (by omega)];congr 1;omega
  · rw [if_neg h1];by_cases h2 : m - i + (m + j - m) ≤ k ∧ k < m + j
    · rw [if_pos h2];by_cases h3 : m - (i - j) ≤ k ∧ k < m - (i - j) + (m + j - m)
      · rw [if_pos h3];rw [if_neg (by omega),if_pos (by omega)];congr 1;omega
      · rw [if_neg h3,if_pos (by omega),if_neg (by omega),if_neg (by omega)]
    · rw [if_neg h2,if_neg (by omega),if_neg (by omega),if_neg (by omega),if_neg (by omega)]
theorem rot_right (f : Nat → α) (m i j : Nat) (hi : i ≤ m) (hi0 : 0 < i) (h : i < j) : rot (swr f (m - i) (m + j - i) i) (m - i) m (m + (j - i)) = rot f (m - i) m (m + j):=by
  funext k;unfold rot swr
  by_cases h1 : m - i ≤ k ∧ k < m - i + (m + j - m)
  · rw [if_pos h1];by_cases h3 : m - i ≤ k ∧ k < m - i + (m + (j - i) - m)
    · rw [if_pos h3];rw [if_neg (by omega),if_neg (by omega)]
    · rw [if_neg h3];by_cases h4 : k < m + (j - i)
      · rw [if_pos (by omega),if_pos (by omega)];congr 1;omega
      · omega
  · rw [if_neg h1];by_cases h2 : m - i + (m + j - m) ≤ k ∧ k < m + j
    · rw [if_pos h2];rw [if_neg (by omega),if_neg (by omega),if_neg (by omega),if_pos (by omega)];congr 1;omega
    · rw [if_neg h2,if_neg (by omega),if_neg (by omega),if_neg (by omega),if_neg (by omega)]
theorem rot_even (f : Nat → α) (m i : Nat) (hi : i ≤ m) : swr f (m - i) m i = rot f (m - i) m (m + i):=by
  have e : m + i - m = i:=by omega
  have e2 : m - (m - i) = i:=by omega
  funext k;unfold rot swr;rw [e,e2]
  by_cases h1 : m - i ≤ k ∧ k < m - i + i
  · rw [if_pos h1,if_pos h1];congr 1;omega
  · rw [if_neg h1,if_neg h1];by_cases h2 : m ≤ k ∧ k < m + i
    · rw [if_pos h2,if_pos (by omega)];congr 1;omega
    · rw [if_neg h2,if_neg (by omega)]
theorem Sw.swr {a b lo hi n : Nat} (f : Nat → α) (h1 : lo ≤ a) (h2 : a + n ≤ b) (h3 : b + n ≤ hi) : Sw lo hi f (swr f a b n):=by
  induction n with
  | zero=>rw [swr_zero];exact Sw.refl _ _ _
  | succ n ih =>
    rw [← swr_succ f a b n (by omega)];exact (ih (by omega) (by omega)).trans (Sw.swp _ (by omega) (by omega) (by omega) (by omega))
section
variable {lt : α → α → Prop}
structure SOrd (lt : α → α → Prop) : Prop where
  irr : ∀ x,¬ lt x x
  tr : ∀ x y z,¬ lt y x → ¬ lt z y → ¬ lt z x
  asy : ∀ x y,lt x y → ¬ lt y x
theorem Srt.le {a b : Nat} {f : Nat → α} (O : SOrd lt) (h : Srt lt a b f) {i j : Nat} (h1 : a ≤ i) (h2 : i ≤ j) (h3 : j < b) : ¬ lt (f j) (f i):=by
  rcases Nat.lt_or_eq_of_le h2 with h4 | h4
  · exact h i j h1 h4 h3
  · subst h4;exact O.irr _
theorem Srt.sub {a b a' b' : Nat} {f : Nat → α} (h : Srt lt a b f) (h1 : a ≤ a') (h2 : b' ≤ b) : Srt lt a' b' f:=fun i j hi hj hb=>h i j (by omega) hj (by omega)
theorem Srt.congr {a b : Nat} {f g : Nat → α} (h : Srt lt a b f) (e : ∀ k,a ≤ k → k < b → g k = f k) : Srt lt a b g:=fun i j hi hj hb=>by rw [e i hi (by omega),e j (by omega) hb];exact h i j hi hj hb
theorem Srt.join {a m b : Nat} {f : Nat → α} (h1 : Srt lt a m f) (h2 : Srt lt m b f) (h : ∀ i j,a ≤ i → i < m → m ≤ j → j < b → ¬ lt (f j) (f i)) : Srt lt a b f:=fun i j hi hj hb=>by
  by_cases hm : j < m
  · exact h1 i j hi hj hm
  · by_cases hm2 : m ≤ i
    · exact h2 i j hm2 hj hb
    · exact h i j hi (by omega) (by omega) hb
theorem merge_rot {a m b mid start e : Nat} {f : Nat → α} (O : SOrd lt) (h1 : Srt lt a m f) (h2 : Srt lt m b f) (ha : a ≤ start) (hs : start ≤ m) (he : m ≤ e) (heb : e ≤ b) (hm : start + (e - m) = mid)
    (hlo : a < start → e < b → ¬ lt (f e) (f (start - 1))) (hhi : m < e → start < m → lt (f (e - 1)) (f start)) :
    Srt lt a start (rot f start m e) ∧ Srt lt start mid (rot f start m e) ∧ Srt lt mid e (rot f start m e) ∧ Srt lt e b (rot f start m e) ∧
    ∀ i j,a ≤ i → i < mid → mid ≤ j → j < b → ¬ lt (rot f start m e j) (rot f start m e i):=by
  have r1 : ∀ k,k < start → rot f start m e k = f k:=fun k hk=>(by unfold rot;rw [if_neg (by omega),if_neg (by omega)]);have r2 : ∀ k,start ≤ k → k < mid → rot f start m e k = f (k + (m - start)):=fun k h hk=>(by unfold rot;rw [if_pos (by omega)]);have r3 : ∀ k,mid ≤ k → k < e → rot f start m e k = f (k - (e - m)):=fun k h hk=>(by unfold rot;rw [if_neg (by omega),if_pos (by omega)]);have r4 : ∀ k,e ≤ k → rot f start m e k = f k:=fun k hk=>(by unfold rot;rw [if_neg (by omega),if_neg (by omega)]);refine ⟨?_,?_,?_,?_,?_⟩
  · intro i j hi hj hb;rw [r1 i (by omega),r1 j (by omega)];exact h1 i j hi hj (by omega)
  · intro i j hi hj hb;rw [r2 i (by omega) (by omega),r2 j (by omega) (by omega)];exact h2 _ _ (by omega) (by omega) (by omega)
  · intro i j hi hj hb;rw [r3 i (by omega) (by omega),r3 j (by omega) (by omega)];exact h1 _ _ (by omega) (by omega) (by omega)
  · intro i j hi hj hb;rw [r4 i (by omega),r4 j (by omega)];exact h2 _ _ (by omega) (by omega) (by omega)
  · intro i j hi hm1 hm2 hj;by_cases c1 : i < start
    · rw [r1 i c1];by_cases c2 : j < e
      · rw [r3 j hm2 c2];exact h1.le O hi (by omega) (by omega)
      · rw [r4 j (by omega)];have k1:=h1.le O hi (show i ≤ start - 1 by omega) (by omega);have k2:=hlo (by omega) (by omega);have k3:=h2.le O he (show e ≤ j by omega) hj;exact O.tr _ _ _ (O.tr _ _ _ k1 k2) k3
    · rw [r2 i (by omega) hm1];by_cases c2 : j < e
      · rw [r3 j hm2 c2];have k1:=h2.le O (show m ≤ i + (m - start) by omega) (show i + (m - start) ≤ e - 1 by omega) (by omega);have k2:=O.asy _ _ (hhi (by omega) (by omega));have k3:=h1.le O ha (show start ≤ j - (e - m) by omega) (by omega);exact O.tr _ _ _ (O.tr _ _ _ k1 k2) k3
      · rw [r4 j (by omega)];exact h2.le O (by omega) (by omega) hj
theorem merge_done {a mid b : Nat} {g g1 g2 : Nat → α} (h1 : Sw a mid g g1) (h2 : Sw mid b g1 g2) (s1 : Srt lt a mid g1) (s2 : Srt lt mid b g2) (hx : ∀ i j,a ≤ i → i < mid → mid ≤ j → j < b → ¬ lt (g j) (g i)) : Srt lt a b g2:=by
  refine Srt.join (s1.congr fun k _ hk=>h2.out (.inl hk)) s2 fun i j hi hm1 hm2 hj=>?_;rw [h2.out (.inl hm1)];obtain ⟨i',i1,i2,e1⟩:=h1.at_ hi hm1;obtain ⟨j',j1,j2,e2⟩:=h2.at_ hm2 hj;rw [e1,e2,h1.out (.inr j1)];exact hx i' j' i1 i2 j1 j2
theorem rot_self (f : Nat → α) (i : Nat) : rot f i i (i + 1) = f:=by
  funext k;unfold rot
  by_cases h1 : i ≤ k ∧ k < i + (i + 1 - i)
  · rw [if_pos h1];congr 1;omega
  · rw [if_neg h1,if_neg (by omega)]
theorem rot_one (f : Nat → α) (a : Nat) : rot f a (a + 1) (a + 1) = f:=by
  funext k;unfold rot
  rw [if_neg (by omega)];by_cases h1 : a + (a + 1 - (a + 1)) ≤ k ∧ k < a + 1
  · rw [if_pos h1];congr 1;omega
  · rw [if_neg h1]
theorem rot_emptyL (f : Nat → α) (m e : Nat) : rot f m m e = f:=by
  funext k;unfold rot
  by_cases h1 : m ≤ k ∧ k < m + (e - m)
  · rw [if_pos h1];congr 1;omega
  · rw [if_neg h1,if_neg (by omega)]
theorem rot_emptyR (f : Nat → α) (s m : Nat) : rot f s m m = f:=by
  funext k;unfold rot
  rw [if_neg (by omega)];by_cases h1 : s + (m - m) ≤ k ∧ k < m
  · rw [if_pos h1];congr 1;omega
  · rw [if_neg h1]
theorem down_at (f : Nat → α) (j i : Nat) (h : j ≤ i) : rot f j i (i + 1) j = f i:=by
  unfold rot;rw [if_pos (by omega)];congr 1;omega
theorem down_below (f : Nat → α) (j i k : Nat) (h : k < j) : rot f j i (i + 1) k = f k:=by
  unfold rot;rw [if_neg (by omega),if_neg (by omega)]
theorem down_in (f : Nat → α) (j i k : Nat) (h : j < k) (hk : k ≤ i) : rot f j i (i + 1) k = f (k - 1):=by
  unfold rot;rw [if_neg (by omega),if_pos (by omega)];congr 1;omega
theorem down_above (f : Nat → α) (j i k : Nat) (h : i < k) (hj : j ≤ i) : rot f j i (i + 1) k = f k:=by
  unfold rot;rw [if_neg (by omega),if_neg (by omega)]
theorem down_step (f : Nat → α) (j i : Nat) (h : j < i) : swp (rot f (j + 1) i (i + 1)) (j + 1) j = rot f j i (i + 1):=by
  funext k;unfold swp
  by_cases h1 : k = j + 1
  · rw [if_pos h1,h1,down_below f _ _ _ (by omega),down_in f j i _ (by omega) (by omega)];rfl
  · rw [if_neg h1];by_cases h2 : k = j
    · rw [if_pos h2,h2,down_at f _ _ (by omega),down_at f _ _ (by omega)]
    · rw [if_neg h2];by_cases h3 : k < j
      · rw [down_below f _ _ _ (by omega),down_below f _ _ _ h3]
      · by_cases h4 : k ≤ i
        · rw [down_in f _ _ _ (by omega) h4,down_in f _ _ _ (by omega) h4]
        · rw [down_above f _ _ _ (by omega) (by omega),down_above f _ _ _ (by omega) (by omega)]
theorem down_srt {a i j : Nat} {f : Nat → α} (O : SOrd lt) (h : Srt lt a i f) (ha : a ≤ j) (hj : j ≤ i) (h1 : j < i → lt (f i) (f j)) (h2 : a < j → ¬ lt (f i) (f (j - 1))) : Srt lt a (i + 1) (rot f j i (i + 1)):=by
  intro x y hx hxy hy;by_cases c1 : x < j
  · rw [down_below f _ _ _ c1];have k1:=h.le O hx (show x ≤ j - 1 by omega) (by omega);by_cases c2 : y < j
    · rw [down_below f _ _ _ c2];exact h x y hx hxy (by omega)
    · by_cases c3 : y = j
      · rw [c3,down_at f _ _ hj];exact O.tr _ _ _ k1 (h2 (by omega))
      · rw [down_in f _ _ _ (by omega) (by omega)];exact h.le O hx (by omega) (by omega)
  · by_cases c2 : x = j
    · rw [c2,down_at f _ _ hj,down_in f _ _ _ (by omega) (by omega)];exact O.tr _ _ _ (O.asy _ _ (h1 (by omega))) (h.le O ha (by omega) (by omega))
    · rw [down_in f _ _ x (by omega) (by omega),down_in f _ _ y (by omega) (by omega)];exact h.le O (by omega) (by omega) (by omega)
theorem up_at (f : Nat → α) (a i : Nat) (h : a < i) : rot f a (a + 1) i (i - 1) = f a:=by
  unfold rot;rw [if_neg (by omega),if_pos (by omega)];congr 1;omega
theorem up_in (f : Nat → α) (a i k : Nat) (h : a ≤ k) (hk : k + 1 < i) : rot f a (a + 1) i k = f (k + 1):=by
  unfold rot;rw [if_pos (by omega)];congr 1;omega
theorem up_out (f : Nat → α) (a i k : Nat) (hi : a < i) (h : k < a ∨ i ≤ k) : rot f a (a + 1) i k = f k:=by
  unfold rot;rw [if_neg (by omega),if_neg (by omega)]
theorem up_step (f : Nat → α) (a k : Nat) (h : a ≤ k) : swp (rot f a (a + 1) (k + 1)) k (k + 1) = rot f a (a + 1) (k + 2):=by
  funext x;unfold swp
  by_cases h1 : x = k
  · rw [if_pos h1,h1,up_out f _ _ _ (by omega) (by omega),up_in f _ _ _ h (by omega)]
  · rw [if_neg h1];by_cases h2 : x = k + 1
    · rw [if_pos h2,h2];have e:=up_at f a (k + 1) (by omega);have e2:=up_at f a (k + 2) (by omega);rw [show k + 1 - 1 = k from rfl] at e;rw [show k + 2 - 1 = k + 1 from rfl] at e2;rw [e,e2]
    · rw [if_neg h2];by_cases h3 : a ≤ x ∧ x < k
      · rw [up_in f _ _ _ h3.1 (by omega),up_in f _ _ _ h3.1 (by omega)]
      · rw [up_out f _ _ _ (by omega) (by omega),up_out f _ _ _ (by omega) (by omega)]
theorem up_srt {a i b : Nat} {f : Nat → α} (O : SOrd lt) (h : Srt lt (a + 1) b f) (hi : a + 1 ≤ i) (hb : i ≤ b) (h1 : a + 1 < i → lt (f (i - 1)) (f a)) (h2 : i < b → ¬ lt (f i) (f a)) : Srt lt a b (rot f a (a + 1) i):=by
  intro x y hx hxy hy;by_cases c1 : x + 1 < i
  · rw [up_in f _ _ _ hx c1];have k1:=h.le O (show a + 1 ≤ x + 1 by omega) (show x + 1 ≤ i - 1 by omega) (by omega);by_cases c2 : y + 1 < i
    · rw [up_in f _ _ _ (by omega) c2];exact h.le O (by omega) (by omega) (by omega)
    · by_cases c3 : y = i - 1
      · rw [c3,up_at f _ _ (by omega)];exact O.tr _ _ _ k1 (O.asy _ _ (h1 (by omega)))
      · rw [up_out f _ _ _ (by omega) (by omega)];exact h.le O (by omega) (by omega) (by omega)
  · by_cases c2 : x = i - 1
    · rw [c2,up_at f _ _ (by omega),up_out f _ _ _ (by omega) (by omega)];exact O.tr _ _ _ (h2 (by omega)) (h.le O (by omega) (by omega) (by omega))
    · rw [up_out f _ _ x (by omega) (by omega),up_out f _ _ y (by omega) (by omega)];exact h.le O (by omega) (by omega) (by omega)
theorem Sw.rot {lo hi a m b : Nat} (f : Nat → α) (h1 : lo ≤ a) (h2 : b ≤ hi) (ha : a ≤ m) (hm : m ≤ b) : Sw lo hi f (rot f a m b):=by
  by_cases e1 : a = m
  · subst e1;rw [rot_emptyL];exact Sw.refl _ _ _
  by_cases e2 : m = b
  · subst e2;rw [rot_emptyR];exact Sw.refl _ _ _
  have main : ∀ n f m i j,i + j = n → 0 < i → 0 < j → i ≤ m → lo ≤ m - i → m + j ≤ hi → Sw lo hi f (Go.Proofs.YtgfpjjppeldhbaaGreatDoor.Stb.rot (α:=α) f (m - i) m (m + j)):=by
    intro n;induction n using Nat.strongRecOn with
    | _ n ih =>
      intro f m i j hn hi hj hm hl hh;rcases Nat.lt_trichotomy i j with h | h | h
      · rw [← rot_right f m i j hm hi h];exact (Sw.swr f (by omega) (by omega) (by omega)).trans (ih (i + (j - i)) (by omega) _ m i (j - i) rfl hi (by omega) hm hl (by omega))
      · subst h;rw [← rot_even f m i hm];exact Sw.swr f (by omega) (by omega) (by omega)
      · rw [← rot_left f m i j hm hj h];exact (Sw.swr f (by omega) (by omega) (by omega)).trans (ih (i - j + j) (by omega) _ m (i - j) j rfl (by omega) hj (by omega) (by omega) hh)
  have h:=main _ f m (m - a) (b - m) rfl (by omega) (by omega) (by omega) (by omega) (by omega);rw [show m - (m - a) = a by omega,show m + (b - m) = b by omega] at h;exact h
end
end Stb
namespace LC
open Go.RowKit Go.Proofs.YtgfpjjppeldhbaaGreatDoor
def chainOp (cv : Op → Bool) (o : Oper) : Bool :=
  match o.op with
  | .call c=>(match c.callee with | .builtin .len=>false | .builtin .cap=>false | _=>true)
  | .alloc _ | .box _ _ | .buildSlice _ _ _ | .store _ _ _ | .insert _ _ _ _ | .mapUpdate _ _ _ _ | .mapEntry _ _ _ | .entryStore _ _ _ _ | .makeMap _ _ | .makeChan _ _ | .makeSlice _ _ _ | .range _ _ | .next _ _=>true
  | op=>cv op
def chainAt (cv : Op → Bool) (ops : Array Oper) (i : Nat) : Bool:=((ops[i]?).map (chainOp cv)).getD false
def waitsB (md : Region.Mode) (ops : Array Oper) (j p : Nat) : Bool :=
  match ops[j]? with
  | some oj=>oj.after.any fun e=>Region.binds md e && e.on == p
  | none=>false
def chainB (md : Region.Mode) (cv : Op → Bool) (ops : Array Oper) : Bool :=
  (List.range ops.size).all fun j=>!chainAt cv ops j || (match (List.range j).reverse.find? (chainAt cv ops) with | some p=>waitsB md ops j p | none=>true)
section
variable {P : Program} {ops : Array Oper} {md : Region.Mode} {S : World → Prop} {cv : Op → Bool} {fb : Bool}
def looseRes (w : World) (v : Value) : Result Next → Prop
  | .ok (.value u) w'=>w' = w ∧ u = v
  | .ok .skip w'=>w' = w ∧ v = undef
  | _=>False
def chainRes (P : Program) (S : World → Prop) (K : Value → World → Prop) : Result Next → Prop
  | .ok (.value u) w'=>S w' ∧ K u w'
  | .ok .skip w'=>S w' ∧ K undef w'
  | .ok (.enter f args) w'=>Calls P f args w' (fun e w''=>∃ v,e = .returned v ∧ S w'' ∧ K v w'')
  | _=>False
theorem chainRes_mono {K K' : Value → World → Prop} {r : Result Next} (hk : ∀ v w,S w → K v w → K' v w) (h : chainRes P S K r) : chainRes P S K' r:=by
  cases r with
  | ok n w' =>
    cases n <;> simp only [chainRes] at h ⊢
    case value u=>exact ⟨h.1,hk _ _ h.1 h.2⟩
    case skip=>exact ⟨h.1,hk _ _ h.1 h.2⟩
    case enter f args=>exact h.mono fun e w'' ⟨v,he,hs,h2⟩=>⟨v,he,hs,hk _ _ hs h2⟩
  | halt x w'=>exact h.elim
theorem chainRes_weaken {S' : World → Prop} {K K' : Value → World → Prop} {r : Result Next} (hs : ∀ w,S w → S' w) (hk : ∀ v w,S w → K v w → K' v w) (h : chainRes P S K r) : chainRes P S' K' r:=by
  cases r with
  | ok n w' =>
    cases n <;> simp only [chainRes] at h ⊢
    case value u=>exact ⟨hs _ h.1,hk _ _ h.1 h.2⟩
    case skip=>exact ⟨hs _ h.1,hk _ _ h.1 h.2⟩
    case enter f args=>exact h.mono fun e w'' ⟨v,he,hs',h2⟩=>⟨v,he,hs _ hs',hk _ _ hs' h2⟩
  | halt x w'=>exact h.elim
def cls (ops : Array Oper) (S : World → Prop) (fb : Bool) (i : Nat) : World → Prop:=fun w=>S w ∨ (fb = true ∧ i + 1 = ops.size)
def endB (md : Region.Mode) (ops : Array Oper) : Bool:=decide (0 < ops.size) && Region.sinkB md ops (ops.size - 1)
def lxOp (P : Program) (ops : Array Oper) (S : World → Prop) (cv : Op → Bool) (fb : Bool) (i : Nat) (K : Act → World → Prop) (a : Act) (w : World) : Prop :=
  match ops[i]? with
  | none=>K a w
  | some o =>
    if Region.wanted o (yielded ops a.tmps) then
      (if chainOp cv o then chainRes P (cls ops S fb i) (fun v w'=>K (a.put o.dst v) w') ((execOp a.eval o).run P w)
       else ∃ v,(∀ w',S w' → looseRes w' v ((execOp a.eval o).run P w')) ∧ K (a.put o.dst v) w)
    else K (a.put o.dst undef) w
theorem lxOp_mono {i : Nat} {a : Act} {w : World} {K K' : Act → World → Prop} (hS : S w) (h : ∀ a w,cls ops S fb i w → K a w → K' a w) (hh : lxOp P ops S cv fb i K a w) : lxOp P ops S cv fb i K' a w:=by
  have hSi : cls ops S fb i w:=.inl hS;unfold lxOp at *;split
  · exact h _ _ hSi (by simpa [*] using hh)
  · rename_i o ho
    simp only [ho] at hh;split
    · rename_i hw
      rw [if_pos hw] at hh;split
      · rename_i hc;rw [if_pos hc] at hh;exact chainRes_mono (fun v w hs hk=>h _ _ hs hk) hh
      · rename_i hc;rw [if_neg hc] at hh;obtain ⟨v,h1,h2⟩:=hh;exact ⟨v,h1,h _ _ hSi h2⟩
    · rename_i hw;rw [if_neg hw] at hh;exact h _ _ hSi hh
def wpAnyX (P : Program) (md : Region.Mode) (ops : Array Oper) (S : World → Prop) (cv : Op → Bool) (fb : Bool) (Q : Act → World → Prop) : Nat → Array Bool → Act → World → Prop
  | 0,listed,a,w=>Region.ready md ops listed = [] ∧ Q a w
  | fuel + 1,listed,a,w =>
    (Region.ready md ops listed = [] → Q a w) ∧
    ∀ i ∈ Region.ready md ops listed,lxOp P ops S cv fb i (wpAnyX P md ops S cv fb Q fuel (listed.setIfInBounds i true)) a w
theorem wpOp_of_lxOp {Q' : Exit → Act → World → Prop} {i : Nat} {a : Act} {w : World} {K K' : Act → World → Prop} (hS : S w) (h : ∀ a w,cls ops S fb i w → K a w → K' a w) (hh : lxOp P ops S cv fb i K a w) : wpOp P ops Q' i K' a w:=by
  have hSi : cls ops S fb i w:=.inl hS;unfold lxOp at hh;unfold wpOp;split
  · rename_i ho;simp only [ho] at hh;exact h _ _ hSi hh
  · rename_i o ho
    simp only [ho] at hh;split
    · rename_i hw
      rw [if_pos hw] at hh;refine .inl ?_;unfold Oper.wp;split at hh
      · generalize (execOp a.eval o).run P w = r at *;cases r with
        | ok n w' =>
          cases n <;> simp only [chainRes] at hh <;> simp only [Oper.upon]
          case value u=>exact h _ _ hh.1 hh.2
          case skip=>exact h _ _ hh.1 hh.2
          case enter f args=>exact hh.mono fun e w'' ⟨v,he,hs,hk⟩=>by subst he;exact h _ _ hs hk
        | halt x w'=>exact hh.elim
      · obtain ⟨v,h1,h2⟩:=hh;have h3:=h1 w hS;generalize (execOp a.eval o).run P w = r at *;cases r with
        | ok n w' =>
          cases n <;> simp only [looseRes] at h3 <;> simp only [Oper.upon]
          case value u=>obtain ⟨e1,e2⟩:=h3;rw [e1,e2];exact h _ _ hSi h2
          case skip=>obtain ⟨e1,e2⟩:=h3;rw [e1,← e2];exact h _ _ hSi h2
        | halt x w'=>exact h3.elim
    · rename_i hw;rw [if_neg hw] at hh;exact h _ _ hSi hh
structure EndInv (md : Region.Mode) (ops : Array Oper) (fb : Bool) (listed : Array Bool) : Prop where
  inv : fb = true → endB md ops = true ∧ (HeadInv md ops (ops.size - 1) listed ∨ Region.ready md ops listed = [])
theorem EndInv.end_ {listed : Array Bool} (h : EndInv md ops fb listed) (hfb : fb = true) {i : Nat} (hi : i ∈ Region.ready md ops listed) (he : i + 1 = ops.size) : ∀ j ∈ Region.ready md ops listed,j = i:=by
  obtain ⟨hB,h1⟩:=h.inv hfb;rcases h1 with h1 | h1
  · intro j hj;simp only [endB,Bool.and_eq_true,decide_eq_true_eq] at hB;obtain ⟨hjun,oj,hoj,_⟩:=mem_ready.1 hj;have hjs : j < ops.size:=(Array.getElem?_eq_some_iff.1 hoj).1;rcases Nat.lt_or_ge j i with hlt | hge
    · exfalso
      have hch : Region.chainB md ops (ops.size - 1) = true:=by
        unfold Region.chainB;rw [List.all_eq_true];intro t ht;have:=List.mem_range.1 ht
        simp;left;omega
      exact tail_waits hB.2 hch (by omega) h1 (ops.size - 1 - j) j rfl (by omega) hjun i (by omega) hi
    · omega
  · rw [h1] at hi;cases hi
theorem EndInv.set {listed : Array Bool} (h : EndInv md ops fb listed) {i : Nat} (hi : i ∈ Region.ready md ops listed) : EndInv md ops fb (listed.setIfInBounds i true):=by
  refine ⟨fun hfb=>?_⟩;obtain ⟨hB,h1⟩:=h.inv hfb;refine ⟨hB,?_⟩;rcases h1 with h1 | h1
  · by_cases he : i + 1 = ops.size
    · right
      have hall:=h.end_ hfb hi he;apply List.eq_nil_iff_forall_not_mem.2;intro j hj;obtain ⟨hjun,oj,hoj,hallj⟩:=mem_ready.1 hj;have hjs : j < ops.size:=(Array.getElem?_eq_some_iff.1 hoj).1;have hji : j ≠ i:=by
        rintro rfl;have hsz : j < listed.size:=by rw [h1.size];exact hjs
        simp [hsz] at hjun
      simp only [endB,Bool.and_eq_true,decide_eq_true_eq] at hB;have hch : Region.chainB md ops (ops.size - 1) = true:=by
        unfold Region.chainB;rw [List.all_eq_true];intro t ht;have:=List.mem_range.1 ht
        simp;left;omega
      rw [getD_set_ne true (Ne.symm hji)] at hjun;exact tail_waits hB.2 hch (by omega) h1 (ops.size - 1 - j) j rfl (by omega) hjun i (by omega) hi
    · left
      obtain ⟨_,oi,hoi,_⟩:=mem_ready.1 hi;have his : i < ops.size:=(Array.getElem?_eq_some_iff.1 hoi).1;exact h1.set hi (by omega)
  · rw [h1] at hi;cases hi
theorem EndInv.cls {listed : Array Bool} {w : World} (h : EndInv md ops fb listed) {i j : Nat} (hi : i ∈ Region.ready md ops listed) (hj : j ∈ Region.ready md ops listed) (hji : j ≠ i) (hc : cls ops S fb j w) : S w:=by
  rcases hc with hc | ⟨hfb,he⟩
  · exact hc
  · exact absurd (h.end_ hfb hj he i hi).symm hji
theorem wpAny_of_X {Q : Act → World → Prop} {Q' : Exit → Act → World → Prop} (hQ : ∀ a w,(S w ∨ fb = true) → Q a w → Q' .normal a w) : ∀ (fuel : Nat) (listed : Array Bool) (a : Act) (w : World),EndInv md ops fb listed → (S w ∨ (fb = true ∧ Region.ready md ops listed = [])) →
    wpAnyX P md ops S cv fb Q fuel listed a w → wpAny P md ops Q' fuel listed a w
  | 0,_,_,_,_,hS,h=>⟨h.1,hQ _ _ (hS.imp id (·.1)) h.2⟩
  | fuel + 1,listed,_,_,hI,hS,h=>⟨fun h0=>hQ _ _ (hS.imp id (·.1)) (h.1 h0),fun i hi=>by
      rcases hS with hS | ⟨_,h0⟩
      · refine wpOp_of_lxOp hS (fun a' w' hS'=>wpAny_of_X hQ fuel _ a' w' (hI.set hi) ?_) (h.2 i hi);rcases hS' with hS' | ⟨hfb,he⟩
        · exact .inl hS'
        · right
          refine ⟨hfb,?_⟩;rcases ((hI.set hi).inv hfb).2 with h1 | h1
          · exfalso
            have:=h1.tail i (by omega) (by omega);have hsz : i < (listed.setIfInBounds i true).size:=by rw [h1.size];omega
            have hsz' : i < listed.size:=by simpa using hsz
            simp [hsz'] at this
          · exact h1
      · rw [h0] at hi;cases hi⟩
def YieldsX (P : Program) (ops : Array Oper) (S : World → Prop) (cv : Op → Bool) (o : Oper) (v : Value) (a : Act) : Prop :=
  (Region.wanted o (yielded ops a.tmps) = true ∧ chainOp cv o = false ∧ ∀ w,S w → looseRes w v ((execOp a.eval o).run P w)) ∨
  (Region.wanted o (yielded ops a.tmps) = false ∧ v = undef)
theorem YieldsX.lxOp {i : Nat} {o : Oper} {v : Value} {a : Act} {w : World} (hi : ops[i]? = some o) (hy : YieldsX P ops S cv o v a) {K : Act → World → Prop} (h : K (a.put o.dst v) w) : lxOp P ops S cv fb i K a w:=by
  unfold Proofs.YtgfpjjppeldhbaaGreatDoor.LC.lxOp;simp only [hi];rcases hy with ⟨hw,hc,hv⟩ | ⟨hw,rfl⟩
  · rw [if_pos hw,hc];exact ⟨v,hv,h⟩
  · rw [if_neg (by rw [hw];simp)];exact h
theorem YieldsX.of_same {o : Oper} {v : Value} {a a' : Act} (hy : YieldsX P ops S cv o v a) (he : execOp a'.eval o = execOp a.eval o)
    (hw : Region.wanted o (yielded ops a'.tmps) = Region.wanted o (yielded ops a.tmps)) : YieldsX P ops S cv o v a':=by
  unfold YieldsX at *;rw [he,hw];exact hy
theorem lxOp_put {j : Nat} {oi oj : Oper} {v : Value} (hj : ops[j]? = some oj) (hap : oi.apart ops oj = true)
    (hsi : ∀ cs b,oi.op ≠ .select cs b) (hsj : ∀ cs b,oj.op ≠ .select cs b) {K : Act → World → Prop} {a : Act} {w : World}
    (hy : YieldsX P ops S cv oi v a) (h : lxOp P ops S cv fb j K (a.put oi.dst v) w) :
    lxOp P ops S cv fb j (fun a' w'=>YieldsX P ops S cv oi v a' ∧ K (a'.put oi.dst v) w') a w:=by
  obtain ⟨h1,h2,h3⟩:=Oper.apart_spec hap;have keep : ∀ (a : Act),YieldsX P ops S cv oi v a → ∀ u,YieldsX P ops S cv oi v (a.put oj.dst u):=fun a hy u =>
    hy.of_same (execOp_put oi hsi a oj.dst u h3) (wanted_put oi a oj.dst u h3)
  unfold lxOp at *;simp only [hj] at *;rw [wanted_put oj a oi.dst v h1,execOp_put oj hsj a oi.dst v h1] at h;split
  · rename_i hw
    rw [if_pos hw] at h;split
    · rename_i hc
      rw [if_pos hc] at h;exact chainRes_mono (fun u w' _ hk=>⟨keep a hy u,by rw [← Act.put_comm a v u h2];exact hk⟩) h
    · rename_i hc
      rw [if_neg hc] at h;obtain ⟨u,hu,hk⟩:=h;exact ⟨u,hu,keep a hy u,by rw [← Act.put_comm a v u h2];exact hk⟩
  · rename_i hw
    rw [if_neg hw] at h;exact ⟨keep a hy _,by rw [← Act.put_comm a v undef h2];exact h⟩
theorem X_first_loose {Q : Act → World → Prop} {i : Nat} {oi : Oper} {v : Value} (hi : ops[i]? = some oi) (hsel : ∀ (j : Nat) (o : Oper) cs b,ops[j]? = some o → o.op ≠ .select cs b) :
    ∀ (fuel : Nat) (listed : Array Bool) (a : Act) (w : World),EndInv md ops fb listed → S w →
      (∀ j oj,ops[j]? = some oj → j ≠ i → listed.getD j true = false → (∀ e ∈ oj.after,Region.binds md e = true → e.on ≠ i) → oi.apart ops oj = true) →
      i ∈ Region.ready md ops listed → YieldsX P ops S cv oi v a →
      wpAnyX P md ops S cv fb Q fuel (listed.setIfInBounds i true) (a.put oi.dst v) w → wpAnyX P md ops S cv fb Q (fuel + 1) listed a w:=by
  intro fuel;induction fuel with
  | zero =>
    intro listed a w _ _ _ hr hy H;refine ⟨fun h=>(by rw [h] at hr;cases hr),fun j hj=>?_⟩;by_cases hji : j = i
    · subst hji;exact hy.lxOp hi H
    · have:=ready_mono hj hji;rw [H.1] at this;cases this
  | succ fuel ih =>
    intro listed a w hI hS hfree hr hy H;refine ⟨fun h=>(by rw [h] at hr;cases hr),fun j hj=>?_⟩;by_cases hji : j = i
    · subst hji;exact hy.lxOp hi H
    · have h1:=H.2 j (ready_mono hj hji);obtain ⟨hjun,oj,hoj,hall⟩:=mem_ready.1 hj;have hnot : ∀ e ∈ oj.after,Region.binds md e = true → e.on ≠ i:=fun e he hb heq=>by
        have h1:=hall e he hb;have h0:=(mem_ready.1 hr).1;rw [heq] at h1;rcases Nat.lt_or_ge i listed.size with h' | h'
        · simp [h'] at h0 h1;rw [h0] at h1;cases h1
        · simp [Array.getElem?_eq_none h'] at h1
      have h2:=lxOp_put hoj (hfree j oj hoj hji hjun hnot) (fun cs b=>hsel i oi cs b hi) (fun cs b=>hsel j oj cs b hoj) hy h1;have hfree' : ∀ k ok,ops[k]? = some ok → k ≠ i → (listed.setIfInBounds j true).getD k true = false →
          (∀ e ∈ ok.after,Region.binds md e = true → e.on ≠ i) → oi.apart ops ok = true:=fun k ok hk hki hun hno=>by
        refine hfree k ok hk hki ?_ hno;by_cases hjk : j = k
        · subst hjk;exact hjun
        · rw [getD_set_ne true hjk] at hun;exact hun
      refine lxOp_mono hS (fun a' w' hS' h3=>ih (listed.setIfInBounds j true) a' w' (hI.set hj) (hI.cls hr hj hji hS') hfree' (ready_mono hr (Ne.symm hji)) h3.1 ?_) h2;rw [Array.setIfInBounds_comm _ _ hji];exact h3.2
end
section
variable (P : Program) (S : World → Prop) (w w' : World) (v u : Value) (K : Value → World → Prop) (f : FuncId) (args : Array Value)
@[go_sem] theorem looseRes_value : LC.looseRes w v (.ok (.value u) w') = (w' = w ∧ u = v):=rfl
@[go_sem] theorem looseRes_skip : LC.looseRes w v (.ok .skip w') = (w' = w ∧ v = undef):=rfl
@[go_sem] theorem chainRes_value : LC.chainRes P S K (.ok (.value u) w') = (S w' ∧ K u w'):=rfl
@[go_sem] theorem chainRes_skip : LC.chainRes P S K (.ok .skip w') = (S w' ∧ K undef w'):=rfl
@[go_sem] theorem chainRes_enter : LC.chainRes P S K (.ok (.enter f args) w') = Calls P f args w' (fun e w''=>∃ v,e = .returned v ∧ S w'' ∧ K v w''):=rfl
end
def nthL {α : Type} : List α → Nat → Option α
  | [],_=>none
  | x :: _,0=>some x
  | _ :: l,i + 1=>nthL l i
theorem nthL_eq {α : Type} : ∀ (l : List α) (i : Nat),nthL l i = l[i]?
  | [],_=>rfl
  | _ :: _,0=>rfl
  | _ :: l,i + 1=>by simpa [nthL] using nthL_eq l i
theorem nthL_ops {ops : Array Oper} {i : Nat} {o : Oper} (h : nthL ops.toList i = some o) : ops[i]? = some o:=by
  rw [nthL_eq] at h;simpa using h
inductive Sched where
  | done : Sched
  | loose (i : Nat) (n : Sched) : Sched
  | one (i : Nat) (n : Sched) : Sched
  | two (i : Nat) (n : Sched) (j : Nat) (m : Sched) : Sched
  | three (i : Nat) (n : Sched) (j : Nat) (m : Sched) (k : Nat) (l : Sched) : Sched
def Sched.depth : Sched → Nat
  | .done=>0
  | .loose _ n=>n.depth + 1
  | .one _ n=>n.depth + 1
  | .two _ n _ m=>max n.depth m.depth + 1
  | .three _ n _ m _ l=>max (max n.depth m.depth) l.depth + 1
def Sched.ok (md : Region.Mode) (ops : Array Oper) : Sched → Array Bool → Bool
  | .done,listed=>(Region.ready md ops listed).isEmpty
  | .loose i n,listed=>(Region.ready md ops listed).contains i && Region.free md ops listed i && n.ok md ops (listed.setIfInBounds i true)
  | .one i n,listed=>(Region.ready md ops listed == [i]) && n.ok md ops (listed.setIfInBounds i true)
  | .two i n j m,listed=>(Region.ready md ops listed == [i,j]) && n.ok md ops (listed.setIfInBounds i true) && m.ok md ops (listed.setIfInBounds j true)
  | .three i n j m k l,listed=>(Region.ready md ops listed == [i,j,k]) && n.ok md ops (listed.setIfInBounds i true) && m.ok md ops (listed.setIfInBounds j true) && l.ok md ops (listed.setIfInBounds k true)
def mkSched (md : Region.Mode) (cv : Op → Bool) (ops : Array Oper) (skip : List Nat) : Nat → Array Bool → Sched
  | 0,_=>.done
  | f + 1,listed =>
    match (Region.ready md ops listed).find? (fun i=>(!chainAt cv ops i || skip.contains i) && Region.free md ops listed i) with
    | some i=>.loose i (mkSched md cv ops skip f (listed.setIfInBounds i true))
    | none =>
      match Region.ready md ops listed with
      | [i]=>.one i (mkSched md cv ops skip f (listed.setIfInBounds i true))
      | [i,j]=>.two i (mkSched md cv ops skip f (listed.setIfInBounds i true)) j (mkSched md cv ops skip f (listed.setIfInBounds j true))
      | [i,j,k]=>.three i (mkSched md cv ops skip f (listed.setIfInBounds i true)) j (mkSched md cv ops skip f (listed.setIfInBounds j true)) k (mkSched md cv ops skip f (listed.setIfInBounds k true))
      | _=>.done
section
variable {P : Program} {ops : Array Oper} {md : Region.Mode} {S : World → Prop} {cv : Op → Bool} {fb : Bool}
def stepT (P : Program) (ops : Array Oper) (S : World → Prop) (cv : Op → Bool) (fb : Bool) (i : Nat) (K : Act → World → Prop) (a : Act) (w : World) : Prop :=
  match ops[i]? with
  | none=>False
  | some o=>if Region.wanted o (yielded ops a.tmps) then chainOp cv o = true ∧ chainRes P (cls ops S fb i) (fun v w'=>K (a.put o.dst v) w') ((execOp a.eval o).run P w) else K (a.put o.dst undef) w
def wpT0 (P : Program) (ops : Array Oper) (S : World → Prop) (cv : Op → Bool) (fb : Bool) (Q : Act → World → Prop) : Sched → Act → World → Prop
  | .done,a,w=>Q a w
  | .loose i n,a,w =>
    match ops[i]? with
    | none=>False
    | some o=>if Region.wanted o (yielded ops a.tmps) then chainOp cv o = false ∧ ∃ v,(∀ w',S w' → looseRes w' v ((execOp a.eval o).run P w')) ∧ wpT0 P ops S cv fb Q n (a.put o.dst v) w else wpT0 P ops S cv fb Q n (a.put o.dst undef) w
  | .one i n,a,w=>stepT P ops S cv fb i (wpT0 P ops S cv fb Q n) a w
  | .two i n j m,a,w=>stepT P ops S cv fb i (wpT0 P ops S cv fb Q n) a w ∧ stepT P ops S cv fb j (wpT0 P ops S cv fb Q m) a w
  | .three i n j m k l,a,w=>stepT P ops S cv fb i (wpT0 P ops S cv fb Q n) a w ∧ stepT P ops S cv fb j (wpT0 P ops S cv fb Q m) a w ∧ stepT P ops S cv fb k (wpT0 P ops S cv fb Q l) a w
theorem stepT_lx {i : Nat} {K K' : Act → World → Prop} {a : Act} {w : World} (hS : S w) (hk : ∀ a w,cls ops S fb i w → K a w → K' a w) (h : stepT P ops S cv fb i K a w) : lxOp P ops S cv fb i K' a w:=by
  unfold LC.stepT at h;unfold LC.lxOp;cases ho : ops[i]? with
  | none=>rw [ho] at h;exact h.elim
  | some o =>
    simp only [ho] at h ⊢;split at h
    · rename_i hw
      rw [if_pos hw,if_pos h.1];exact chainRes_mono (fun v w' hs hk'=>hk _ _ hs hk') h.2
    · rename_i hw
      rw [if_neg hw];exact hk _ _ (.inl hS) h
theorem wpAnyX_tree {Q : Act → World → Prop} (hs : Region.noSelect ops = true) : ∀ (T : Sched) (fuel : Nat) (listed : Array Bool) (a : Act) (w : World),EndInv md ops fb listed → (S w ∨ (fb = true ∧ Region.ready md ops listed = [])) →
    T.ok md ops listed = true → T.depth ≤ fuel → wpT0 P ops S cv fb Q T a w → wpAnyX P md ops S cv fb Q fuel listed a w:=by
  have after : ∀ {i : Nat} {listed : Array Bool} {w' : World},EndInv md ops fb listed → i ∈ Region.ready md ops listed → cls ops S fb i w' → S w' ∨ (fb = true ∧ Region.ready md ops (listed.setIfInBounds i true) = []):=by
    intro i listed w' hI hi hc;rcases hc with hc | ⟨hfb,he⟩
    · exact .inl hc
    · right
      refine ⟨hfb,?_⟩;rcases ((hI.set hi).inv hfb).2 with h1 | h1
      · exfalso
        have:=h1.tail i (by omega) (by omega);have hsz : i < (listed.setIfInBounds i true).size:=by rw [h1.size];omega
        have hsz' : i < listed.size:=by simpa using hsz
        simp [hsz'] at this
      · exact h1
  have nonempty : ∀ {i : Nat} {listed : Array Bool} {w : World},i ∈ Region.ready md ops listed → (S w ∨ (fb = true ∧ Region.ready md ops listed = [])) → S w:=by
    intro i listed w hi h;rcases h with h | ⟨_,h⟩
    · exact h
    · rw [h] at hi;cases hi
  intro T;induction T with
  | done =>
    intro fuel listed a w _ _ hok _ h;have h0 : Region.ready md ops listed = []:=by simpa [Sched.ok] using hok
    cases fuel with
    | zero=>exact ⟨h0,h⟩
    | succ f=>exact ⟨fun _=>h,fun i hi=>by rw [h0] at hi;cases hi⟩
  | loose i n ih =>
    intro fuel listed a w hI hSw hok hd h;simp only [Sched.ok,Bool.and_eq_true] at hok;obtain ⟨⟨hr,hf⟩,hn⟩:=hok;have hr' : i ∈ Region.ready md ops listed:=by simpa using hr
    have hS:=nonempty hr' hSw;cases fuel with
    | zero=>simp [Sched.depth] at hd
    | succ f =>
      have hd' : n.depth ≤ f:=by simp [Sched.depth] at hd;omega
      unfold wpT0 at h;split at h
      · exact h.elim
      · rename_i o ho
        split at h
        · rename_i hw
          obtain ⟨hc,v,hv,hk⟩:=h;exact X_first_loose ho (Region.noSelect_spec hs) f listed a w hI hS (Region.free_spec ho hf) hr' (.inl ⟨hw,hc,hv⟩) (ih f _ _ w (hI.set hr') (.inl hS) hn hd' hk)
        · rename_i hw
          exact X_first_loose ho (Region.noSelect_spec hs) f listed a w hI hS (Region.free_spec ho hf) hr' (.inr ⟨by simpa using hw,rfl⟩) (ih f _ _ w (hI.set hr') (.inl hS) hn hd' h)
  | one i n ih =>
    intro fuel listed a w hI hSw hok hd h;simp only [Sched.ok,Bool.and_eq_true,beq_iff_eq] at hok;obtain ⟨hr,hn⟩:=hok;have hr' : i ∈ Region.ready md ops listed:=by rw [hr];simp
    have hS:=nonempty hr' hSw;cases fuel with
    | zero=>simp [Sched.depth] at hd
    | succ f =>
      have hd' : n.depth ≤ f:=by simp [Sched.depth] at hd;omega
      refine ⟨fun h0=>(by rw [hr] at h0;cases h0),fun x hx=>?_⟩;have hx':=hx;rw [hr] at hx';obtain rfl : x = i:=by simpa using hx'
      exact stepT_lx hS (fun a' w' hc hk=>ih f _ a' w' (hI.set hx) (after hI hx hc) hn hd' hk) h
  | two i n j m ih1 ih2 =>
    intro fuel listed a w hI hSw hok hd h;simp only [Sched.ok,Bool.and_eq_true,beq_iff_eq] at hok;obtain ⟨⟨hr,hn⟩,hm⟩:=hok;have hS:=nonempty (i:=i) (by rw [hr];simp) hSw;cases fuel with
    | zero=>simp [Sched.depth] at hd
    | succ f =>
      have hd1 : n.depth ≤ f:=by simp [Sched.depth] at hd;omega
      have hd2 : m.depth ≤ f:=by simp [Sched.depth] at hd;omega
      refine ⟨fun h0=>(by rw [hr] at h0;cases h0),fun x hx=>?_⟩;have hx':=hx;rw [hr] at hx';rcases List.mem_cons.1 hx' with rfl | hx'
      · exact stepT_lx hS (fun a' w' hc hk=>ih1 f _ a' w' (hI.set hx) (after hI hx hc) hn hd1 hk) h.1
      · obtain rfl : x = j:=by simpa using hx'
        exact stepT_lx hS (fun a' w' hc hk=>ih2 f _ a' w' (hI.set hx) (after hI hx hc) hm hd2 hk) h.2
  | three i n j m k l ih1 ih2 ih3 =>
    intro fuel listed a w hI hSw hok hd h;simp only [Sched.ok,Bool.and_eq_true,beq_iff_eq] at hok;obtain ⟨⟨⟨hr,hn⟩,hm⟩,hl⟩:=hok;have hS:=nonempty (i:=i) (by rw [hr];simp) hSw;cases fuel with
    | zero=>simp [Sched.depth] at hd
    | succ f =>
      have hd1 : n.depth ≤ f:=by simp [Sched.depth] at hd;omega
      have hd2 : m.depth ≤ f:=by simp [Sched.depth] at hd;omega
      have hd3 : l.depth ≤ f:=by simp [Sched.depth] at hd;omega
      refine ⟨fun h0=>(by rw [hr] at h0;cases h0),fun x hx=>?_⟩;have hx':=hx;rw [hr] at hx';rcases List.mem_cons.1 hx' with rfl | hx'
      · exact stepT_lx hS (fun a' w' hc hk=>ih1 f _ a' w' (hI.set hx) (after hI hx hc) hn hd1 hk) h.1
      · rcases List.mem_cons.1 hx' with rfl | hx'
        · exact stepT_lx hS (fun a' w' hc hk=>ih2 f _ a' w' (hI.set hx) (after hI hx hc) hm hd2 hk) h.2.1
        · obtain rfl : x = k:=by simpa using hx'
          exact stepT_lx hS (fun a' w' hc hk=>ih3 f _ a' w' (hI.set hx) (after hI hx hc) hl hd3 hk) h.2.2
structure wpTx (P : Program) (ops : Array Oper) (S : World → Prop) (cv : Op → Bool) (fb : Bool) (Q : Act → World → Prop) (T : Sched) (a : Act) (w : World) : Prop where
  out : wpT0 P ops S cv fb Q T a w
theorem wp_region_tree {id : Nat} {Q : Exit → Act → World → Prop} {a : Act} {w : World} {ops : Array Oper} (T : Sched) (S : World → Prop) (cv : Op → Bool) (hm : P.follows .mixedOrders = true) (hs : Region.noSelect ops = true) (hT : T.ok .any ops (Array.replicate ops.size false) = true) (hd : Nat.ble T.depth ops.size = true) (hS : S w.drew)
    (h : wpTx P ops S cv false (fun a' w'=>S w' → Q .normal a' w') T a w.drew) : (Code.region id ops true).wp P Q a w:=by
  have hI : EndInv .any ops false (Array.replicate ops.size false):=⟨by simp⟩
  exact wp_region_any hm (wpAny_of_X (S:=S) (cv:=cv) (fb:=false) (Q:=fun a' w'=>S w' → Q .normal a' w') (fun _ w' hw' h=>h (hw'.elim (fun h=>h) (by simp))) _ _ _ _ hI (.inl hS)
    (wpAnyX_tree (md:=.any) hs T _ _ a w.drew hI (.inl hS) hT (Nat.le_of_ble_eq_true hd) h.out))
variable {Q : Act → World → Prop} {a : Act} {w : World} {o : Oper} {i j k : Nat} {n m l : Sched}
theorem wpTx_done (h : Q a w) : wpTx P ops S cv fb Q .done a w:=⟨h⟩
theorem wpTx_loose (ho' : nthL ops.toList i = some o) (hc : chainOp cv o = false)
    (h : ∀ K : Act → Prop,(∀ a,wpTx P ops S cv fb Q n a w → K a) → if Region.wanted o (yielded ops a.tmps) then (∃ v,(∀ x : Subtype S,looseRes x.1 v ((execOp a.eval o).run P x.1)) ∧ K (a.put o.dst v)) else K (a.put o.dst undef)) : wpTx P ops S cv fb Q (.loose i n) a w:=by
  have ho:=nthL_ops ho';have:=h _ (fun _ h=>h);refine ⟨?_⟩;unfold wpT0;simp only [ho];split
  · rename_i hw
    rw [if_pos hw] at this;obtain ⟨v,hv,hk⟩:=this;exact ⟨hc,v,fun w' hs=>hv ⟨w',hs⟩,hk.out⟩
  · rename_i hw;rw [if_neg hw] at this;exact this.out
theorem wpTx_one (hS : S w) (ho' : nthL ops.toList i = some o) (hc : chainOp cv o = true)
    (h : ∀ K : Act → World → Prop,(∀ a w,wpTx P ops S cv fb Q n a w → K a w) → if Region.wanted o (yielded ops a.tmps) then chainRes P S (fun v w'=>K (a.put o.dst v) w') ((execOp a.eval o).run P w) else K (a.put o.dst undef) w) : wpTx P ops S cv fb Q (.one i n) a w:=by
  have ho:=nthL_ops ho';have:=h _ (fun _ _ h=>h);refine ⟨?_⟩;unfold wpT0 stepT;simp only [ho];split
  · rename_i hw;rw [if_pos hw] at this;exact ⟨hc,chainRes_weaken (fun _ h=>.inl h) (fun _ _ _ h=>h.out) this⟩
  · rename_i hw;rw [if_neg hw] at this;exact this.out
theorem wpTx_two (h1 : wpTx P ops S cv fb Q (.one i n) a w) (h2 : wpTx P ops S cv fb Q (.one j m) a w) : wpTx P ops S cv fb Q (.two i n j m) a w:=⟨⟨h1.out,h2.out⟩⟩
end
def cvOf (n : TypeId) (op : Op) : Bool:=match op with | .load t _=>t == n | _=>false
end LC
section
open Go.RowKit Stb
def rowsF (f : Nat → MarkV) (n : Nat) : List (Array Value):=(List.range n).map fun k=>markVC (f k)
theorem rowsF_set (f : Nat → MarkV) (n i : Nat) (x : MarkV) : (rowsF f n).set i (markVC x) = rowsF (fun k=>if k = i then x else f k) n:=by
  unfold rowsF;apply List.ext_getElem?;intro k;rw [List.getElem?_set];simp only [List.getElem?_map,List.length_map,List.length_range];by_cases hk : k < n
  · rw [List.getElem?_range hk];by_cases h : i = k
    · subst h;simp [hk]
    · rw [if_neg h];simp [Ne.symm h]
  · rw [List.getElem?_eq_none (by simpa using hk)];by_cases h : i = k
    · subst h;simp [hk]
    · rw [if_neg h];rfl
theorem swp_two (f : Nat → MarkV) (i j : Nat) : (fun k=>if k = j then f i else (fun k=>if k = i then f j else f k) k) = swp f i j:=by
  funext k;unfold Stb.swp
  by_cases h1 : k = i <;> by_cases h2 : k = j <;> simp [h1,h2]
  all_goals (try subst h1);(try subst h2);simp_all
theorem einfoMark : ElemInfo Tryz.prog 22 41 34 56 :=
  .of (z:=.agg (markVC markV0)) Tryz.underlying22 (by kernel_rfl) (by kernel_rfl) (by kernel_rfl) (markVC_size _) (by omega)
abbrev OwnF (w : World) (B g n cap : Nat) (f : Nat → MarkV) : Prop:=Own w B 41 34 (some ⟨g,0,none⟩) n cap (rowsF f n)
theorem OwnF.row {w : World} {B g n cap : Nat} {f : Nat → MarkV} (h : OwnF w B g n cap f) {i : Nat} (hi : i < n) : rowAt w g (i * 34) 34 = some (markVC (f i)):=by
  obtain ⟨q,o,e,hr⟩:=h.slr.at_ hi;injection e with e;injection e with e1 e2
  subst e1;subst e2;rw [Nat.zero_add] at hr;rw [hr];simp [rowsF]
theorem OwnF.store {w : World} {B g n cap : Nat} {f : Nat → MarkV} (h : OwnF w B g n cap f) {i : Nat} (hi : i < n) (x : MarkV) :
    ∃ w',(stS 41 ⟨g,i * 34,none⟩ (.agg (markVC x))).run Tryz.prog w = .ok () w' ∧ OwnF w' B g n cap (fun k=>if k = i then x else f k) ∧ Keep [g] w w':=by
  obtain ⟨w',h1,h2,h3⟩:=own_store einfoMark h hi (markVC_size x) (markVC_one x);exact ⟨w',h1,by rw [rowsF_set] at h2;exact h2,h3⟩
set_option maxRecDepth 100000 in
set_option maxHeartbeats 4000000 in
theorem swapRange_any (w : World) (B g n cap : Nat) (f : Nat → MarkV) (a b m : Nat) (fv : Value) (hown : OwnF w B g n cap f) (hab : a + m ≤ b) (hb : b + m ≤ n) (hn : n ≤ 1000000) :
    Calls Tryz.prog 279 #[.slice (some ⟨g,0,none⟩) n cap,.int .i64 a,.int .i64 b,.int .i64 m,fv] w fun e w'=>e = .returned (.tuple #[]) ∧ OwnF w' B g n cap (swr f a b m) ∧ Keep [g] w w':=by
  go_enter Tryz.func279,Tryz.ntmps279
  (go_wp2_with fail);go_loopw [10] (fun iv wr=>∃ i : Nat,i ≤ m ∧ iv = .int .i64 i ∧ OwnF wr B g n cap (swr f a b i) ∧ Keep [g] w wr) (fun iv _=>m - (intOf iv).toNat)
  case atStart=>exact ⟨0,Nat.zero_le _,rfl,by rw [swr_zero];exact hown,Keep.refl _ _⟩
  case round =>
    obtain ⟨i,hi,rfl,ho,hk⟩:=hrel;by_cases hlt : i < m
    · have ha1 : ((a : Int) + (i : Int)) = ((a + i : Nat) : Int):=by omega
      have hb1 : ((b : Int) + (i : Int)) = ((b + i : Nat) : Int):=by omega
      have hsw:=swr_succ f a b i (by omega);have Hsw:=Lib.hid hsw;obtain ⟨x,hx⟩ : ∃ x,a + i = x:=⟨_,rfl⟩
      obtain ⟨y,hy⟩ : ∃ y,b + i = y:=⟨_,rfl⟩
      rw [hx] at ha1;rw [hy] at hb1;have hw1 : IntKind.i64.wrap (x : Int) = (x : Int):=IntWalk.i64_in _ (by omega);have hw2 : IntKind.i64.wrap (y : Int) = (y : Int):=IntWalk.i64_in _ (by omega);have hxn : x < n:=by omega
      have hyn : y < n:=by omega
      have Hx:=Lib.hid hx;have Hy:=Lib.hid hy;obtain ⟨f',hf'⟩ : ∃ f',swr f a b i = f':=⟨_,rfl⟩
      rw [hf'] at ho;have Hf':=Lib.hid hf';clear hsw hx hy hf';go_upto_region 3 with fail
      have hod : OwnF wr.drew B g n cap f':=Own.below ho (Below.refl _ _).drew;refine LC.wp_region_tree (.loose 0 (.loose 1 (.loose 2 (.loose 3 (.loose 4 (.loose 5 (.loose 6 (.loose 7 (.loose 8 (.loose 9 (.loose 10 (.loose 11 (.loose 12 (.loose 14 (.loose 15 (.loose 16 (.loose 17 (.loose 18 (.two 13 (.one 19 (.loose 20 (.one 21 (.loose 22 (.one 23 .done))))) 19 (.one 13 (.loose 20 (.one 21 (.loose 22 (.one 23 .done)))))))))))))))))))))))) (Kp ([g]) wr) (LC.cvOf 41) (by kernel_rfl) (by kernel_rfl) (by kernel_rfl) (by kernel_rfl) (kp_drew ([g]) wr) ?_;have hne:=kp_some ([g]) wr;have hS:=kp_drew ([g]) wr;obtain ⟨W,hW⟩ : ∃ W,wr.drew = W:=⟨_,rfl⟩
      rw [hW] at hod hS ⊢;have hrx:=hod.row hxn;have hry:=hod.row hyn;clear hW;repeat (refine LC.wpTx_loose rfl ?_ ?_;(focus (first | (simp only [LC.chainOp,LC.cvOf];done) | rfl));intro K hK;go_simp;refine hK _ ?_;clear hK K)
      refine LC.wpTx_two ?_ ?_
      · skip;refine LC.wpTx_one ?_ rfl ?_ ?_;(focus (exact hS));focus (first | (simp only [LC.chainOp,LC.cvOf];done) | rfl)
        intro K hK;go_simp;refine hK _ _ ?_;clear hK K;refine LC.wpTx_one ?_ rfl ?_ ?_;(focus (exact hS));focus (first | (simp only [LC.chainOp,LC.cvOf];done) | rfl)
        intro K hK;go_simp;refine hK _ _ ?_;clear hK K;repeat (refine LC.wpTx_loose rfl ?_ ?_;(focus (first | (simp only [LC.chainOp,LC.cvOf];done) | rfl));intro K hK;go_simp;refine hK _ ?_;clear hK K)
        refine LC.wpTx_one ?_ rfl ?_ ?_;(focus (exact hS));focus (first | (simp only [LC.chainOp,LC.cvOf];done) | rfl)
        intro K hK;go_simp;obtain ⟨w2,hst2,ho2,hk2⟩:=hod.store hxn (f' y);rw [hst2];go_simp;have hS2 : Kp [g] wr w2:=Keep.trans hS hk2 (by simp);refine ⟨hS2,hK _ _ ?_⟩;clear hK K hS hk2 hst2;have hS:=hS2;clear hS2;repeat (refine LC.wpTx_loose rfl ?_ ?_;(focus (first | (simp only [LC.chainOp,LC.cvOf];done) | rfl));intro K hK;go_simp;refine hK _ ?_;clear hK K)
        refine LC.wpTx_one ?_ rfl ?_ ?_;(focus (exact hS));focus (first | (simp only [LC.chainOp,LC.cvOf];done) | rfl)
        intro K hK;go_simp;obtain ⟨w3,hst3,ho3,hk3⟩:=ho2.store hyn (f' x);rw [hst3];go_simp;have hS2 : Kp [g] wr w3:=Keep.trans hS hk3 (by simp);refine ⟨hS2,hK _ _ ?_⟩;clear hK K hS hk3 hst3;have hS:=hS2;clear hS2;refine LC.wpTx_done ?_;intro hS;rw [swp_two f' x y] at ho3;have hkz : Keep [g] w w3:=Keep.trans hk hS (by simp);clear hS hne hk ho2 hod ho hrx hry;(go_wp2_with fail);go_roundw
        case rel=>exact ⟨i + 1,by omega,by go_num,by rw [← Hsw.out,Hf'.out,Hx.out,Hy.out];exact ho3,hkz⟩
        case measure=>simp [intOf];omega
      · skip;refine LC.wpTx_one ?_ rfl ?_ ?_;(focus (exact hS));focus (first | (simp only [LC.chainOp,LC.cvOf];done) | rfl)
        intro K hK;go_simp;refine hK _ _ ?_;clear hK K;refine LC.wpTx_one ?_ rfl ?_ ?_;(focus (exact hS));focus (first | (simp only [LC.chainOp,LC.cvOf];done) | rfl)
        intro K hK;go_simp;refine hK _ _ ?_;clear hK K;repeat (refine LC.wpTx_loose rfl ?_ ?_;(focus (first | (simp only [LC.chainOp,LC.cvOf];done) | rfl));intro K hK;go_simp;refine hK _ ?_;clear hK K)
        refine LC.wpTx_one ?_ rfl ?_ ?_;(focus (exact hS));focus (first | (simp only [LC.chainOp,LC.cvOf];done) | rfl)
        intro K hK;go_simp;obtain ⟨w2,hst2,ho2,hk2⟩:=hod.store hxn (f' y);rw [hst2];go_simp;have hS2 : Kp [g] wr w2:=Keep.trans hS hk2 (by simp);refine ⟨hS2,hK _ _ ?_⟩;clear hK K hS hk2 hst2;have hS:=hS2;clear hS2;repeat (refine LC.wpTx_loose rfl ?_ ?_;(focus (first | (simp only [LC.chainOp,LC.cvOf];done) | rfl));intro K hK;go_simp;refine hK _ ?_;clear hK K)
        refine LC.wpTx_one ?_ rfl ?_ ?_;(focus (exact hS));focus (first | (simp only [LC.chainOp,LC.cvOf];done) | rfl)
        intro K hK;go_simp;obtain ⟨w3,hst3,ho3,hk3⟩:=ho2.store hyn (f' x);rw [hst3];go_simp;have hS2 : Kp [g] wr w3:=Keep.trans hS hk3 (by simp);refine ⟨hS2,hK _ _ ?_⟩;clear hK K hS hk3 hst3;have hS:=hS2;clear hS2;refine LC.wpTx_done ?_;intro hS;rw [swp_two f' x y] at ho3;have hkz : Keep [g] w w3:=Keep.trans hk hS (by simp);clear hS hne hk ho2 hod ho hrx hry;(go_wp2_with fail);go_roundw
        case rel=>exact ⟨i + 1,by omega,by go_num,by rw [← Hsw.out,Hf'.out,Hx.out,Hy.out];exact ho3,hkz⟩
        case measure=>simp [intOf];omega
    · obtain rfl : i = m:=by omega
      (go_wp2_with fail);refine bodyPost_end (results_none rfl _ _ _) rfl ?_;exact ⟨rfl,ho,hk⟩
end
section
open Go.RowKit Stb
set_option maxRecDepth 100000 in
set_option maxHeartbeats 4000000 in
theorem rotate_any (w : World) (B g n cap : Nat) (f : Nat → MarkV) (a m b : Nat) (fv : Value) (hown : OwnF w B g n cap f) (ham : a < m) (hmb : m < b) (hb : b ≤ n) (hn : n ≤ 1000000) :
    Calls Tryz.prog 240 #[.slice (some ⟨g,0,none⟩) n cap,.int .i64 a,.int .i64 m,.int .i64 b,fv] w fun e w'=>e = .returned (.tuple #[]) ∧ OwnF w' B g n cap (rot f a m b) ∧ Keep [g] w w':=by
  go_enter Tryz.func240,Tryz.ntmps240
  obtain ⟨i0,hi0⟩ : ∃ i0,m - a = i0:=⟨_,rfl⟩
  obtain ⟨j0,hj0⟩ : ∃ j0,b - m = j0:=⟨_,rfl⟩
  have hs1 : ((m : Int) - (a : Int)) = (i0 : Int):=by omega
  have hs2 : ((b : Int) - (m : Int)) = (j0 : Int):=by omega
  have hw1 : IntKind.i64.wrap (i0 : Int) = (i0 : Int):=IntWalk.i64_in _ (by omega);have hw2 : IntKind.i64.wrap (j0 : Int) = (j0 : Int):=IntWalk.i64_in _ (by omega);(go_wp2_with fail);clear hs1 hs2 hw1 hw2;go_loopw [10,11] (fun iv jv wr=>∃ (i j : Nat) (f' : Nat → MarkV),iv = .int .i64 i ∧ jv = .int .i64 j ∧ 0 < i ∧ 0 < j ∧ i ≤ i0 ∧ j ≤ j0 ∧ OwnF wr B g n cap f' ∧ Hid (rot f' (m - i) m (m + j) = rot f a m b) ∧ Keep [g] w wr) (fun iv jv _=>(intOf iv).toNat + (intOf jv).toNat)
  case atStart =>
    refine ⟨i0,j0,f,rfl,rfl,by omega,by omega,Nat.le_refl _,Nat.le_refl _,hown,Lib.hid ?_,Keep.refl _ _⟩;rw [show m - i0 = a by omega,show m + j0 = b by omega]
  case round =>
    obtain ⟨i,j,f',rfl,rfl,hi,hj,hii,hjj,ho,Hr,hk⟩:=hrel;obtain ⟨p,hp⟩ : ∃ p,m - i = p:=⟨_,rfl⟩
    have hp1 : ((m : Int) - (i : Int)) = (p : Int):=by omega
    have hw1 : IntKind.i64.wrap (p : Int) = (p : Int):=IntWalk.i64_in _ (by omega);rcases Nat.lt_trichotomy i j with hlt | heq | hgt
    · obtain ⟨s,hs⟩ : ∃ s,m + j = s:=⟨_,rfl⟩
      obtain ⟨q,hq⟩ : ∃ q,s - i = q:=⟨_,rfl⟩
      obtain ⟨r,hr⟩ : ∃ r,j - i = r:=⟨_,rfl⟩
      have hs1 : ((m : Int) + (j : Int)) = (s : Int):=by omega
      have hq1 : ((s : Int) - (i : Int)) = (q : Int):=by omega
      have hr1 : ((j : Int) - (i : Int)) = (r : Int):=by omega
      have hw2 : IntKind.i64.wrap (s : Int) = (s : Int):=IntWalk.i64_in _ (by omega);have hw3 : IntKind.i64.wrap (q : Int) = (q : Int):=IntWalk.i64_in _ (by omega);have hw4 : IntKind.i64.wrap (r : Int) = (r : Int):=IntWalk.i64_in _ (by omega);have c1:=fun w' (h' : OwnF w' B g n cap f')=>swapRange_any w' B g n cap f' p q i fv h' (by omega) (by omega) hn;go_wp2_with fail
      all_goals (first | (exfalso;omega) | skip)
      refine (c1 _ ho).mono ?_;rintro e w1 ⟨rfl,ho1,hk1⟩;have hkz : Keep [g] w w1:=Keep.trans hk hk1 (by simp);clear ho hk hk1 c1;(go_wp2_with fail);go_roundw
      case rel =>
        refine ⟨i,r,_,by go_num,by go_num,hi,by omega,hii,by omega,ho1,Lib.hid ?_,hkz⟩;rw [← Hr.out,← rot_right f' m i j (by omega) hi hlt,hs,hq,hr,hp]
      case measure=>simp [intOf];omega
    · subst heq;have c1:=fun w' (h' : OwnF w' B g n cap f')=>swapRange_any w' B g n cap f' p m i fv h' (by omega) (by omega) hn;go_wp2_with fail
      all_goals (first | (exfalso;omega) | skip)
      refine (c1 _ ho).mono ?_;rintro e w1 ⟨rfl,ho1,hk1⟩;have hkz : Keep [g] w w1:=Keep.trans hk hk1 (by simp);clear ho hk hk1 c1;(go_wp2_with fail);refine bodyPost_end (results_none rfl _ _ _) rfl ?_;refine ⟨rfl,?_,hkz⟩;rw [← Hr.out,← rot_even f' m i (by omega),hp];exact ho1
    · obtain ⟨r,hr⟩ : ∃ r,i - j = r:=⟨_,rfl⟩
      have hr1 : ((i : Int) - (j : Int)) = (r : Int):=by omega
      have hw4 : IntKind.i64.wrap (r : Int) = (r : Int):=IntWalk.i64_in _ (by omega);have c1:=fun w' (h' : OwnF w' B g n cap f')=>swapRange_any w' B g n cap f' p m j fv h' (by omega) (by omega) hn;go_wp2_with fail
      all_goals (first | (exfalso;omega) | skip)
      refine (c1 _ ho).mono ?_;rintro e w1 ⟨rfl,ho1,hk1⟩;have hkz : Keep [g] w w1:=Keep.trans hk hk1 (by simp);clear ho hk hk1 c1;(go_wp2_with fail);go_roundw
      case rel =>
        refine ⟨r,j,_,by go_num,by go_num,by omega,hj,by omega,hjj,ho1,Lib.hid ?_,hkz⟩;rw [← Hr.out,← rot_left f' m i j (by omega) hj hgt,hr,hp]
      case measure=>simp [intOf];omega
end
section
open Go.RowKit Stb
def markLtB (x y : MarkV) : Bool:=aheadB x.h x.id y.h y.id
def markLt (x y : MarkV) : Prop:=markLtB x y = true
def ordI (x y : MarkV) : Int:=if markLtB x y then -1 else if markLtB y x then 1 else 0
theorem ordI_neg (x y : MarkV) : decide (ordI x y < 0) = markLtB x y:=by
  unfold ordI;split
  · rename_i h;rw [h];rfl
  · rename_i h
    rw [Bool.not_eq_true] at h;rw [h];split <;> rfl
theorem ordI_range (x y : MarkV) : -1 ≤ ordI x y ∧ ordI x y ≤ 1:=by
  unfold ordI;repeat' split
  all_goals omega
theorem markLt_iff (x y : MarkV) : markLt x y ↔ x.h < y.h ∨ (x.h = y.h ∧ cmpId x.id y.id < 0):=by
  unfold markLt markLtB aheadB;split
  · rename_i h;simp [h]
  · rename_i h;simp [h]
theorem sordMark : SOrd markLt where
  irr x:=by rw [markLt_iff,cmpId_self];omega
  asy x y:=by
    rw [markLt_iff,markLt_iff,cmpId_anti x.id y.id];omega
  tr x y z:=by
    rw [markLt_iff,markLt_iff,markLt_iff];intro h1 h2 h3;by_cases e1 : z.h = x.h
    · have hyx : y.h = x.h:=by
        rcases h3 with h3 | h3 <;> omega
      have k1 : ¬ cmpId y.id x.id < 0:=fun h=>h1 (.inr ⟨hyx,h⟩);have k2 : ¬ cmpId z.id y.id < 0:=fun h=>h2 (.inr ⟨by omega,h⟩);have k3 : cmpId z.id x.id < 0:=by rcases h3 with h3 | h3;omega;exact h3.2
      have a1:=cmpId_anti x.id y.id;have a2:=cmpId_anti y.id z.id;by_cases z1 : cmpId x.id y.id = 0
      · rw [(cmpId_zero _ _).1 z1] at k3;exact k2 k3
      · by_cases z2 : cmpId y.id z.id = 0
        · rw [← (cmpId_zero _ _).1 z2] at k3;exact k1 k3
        · have:=cmpId_trans x.id y.id z.id (by omega) (by omega);have:=cmpId_anti x.id z.id;omega
    · have : z.h < x.h:=by rcases h3 with h3 | h3;exact h3;exact absurd h3.1 e1
      by_cases e2 : y.h < x.h
      · exact h1 (.inl e2)
      · exact h2 (.inl (by omega))
theorem markLt_conn (x y : MarkV) (h : ¬ markLt x y) (h' : ¬ markLt y x) : x.id = y.id:=by
  rw [markLt_iff] at h h';have a:=cmpId_anti x.id y.id;have e : x.h = y.h:=by omega
  apply (cmpId_zero _ _).1;have : ¬ cmpId x.id y.id < 0:=fun h1=>h (.inr ⟨e,h1⟩);have : ¬ cmpId y.id x.id < 0:=fun h1=>h' (.inr ⟨e.symm,h1⟩);omega
set_option maxRecDepth 100000 in
set_option maxHeartbeats 4000000 in
theorem dorder_any (x y : MarkV) (w : World) :
    Calls Tryz.prog 52 #[.agg (markVC x),.agg (markVC y)] w fun e w'=>e = .returned (.int .i64 (ordI x y)) ∧ Below w.heap.size w w':=by
  have hB : Below w.heap.size w ((w.alloc (.cells (markVC x) 41)).alloc (.cells (markVC y) 41)):=((Below.refl _ _).alloc (Nat.le_refl _) _).alloc (by simp) _;have r1 : rowAt ((w.alloc (.cells (markVC x) 41)).alloc (.cells (markVC y) 41)) w.heap.size 0 34 = some (markVC x):=by simp [go_sem]
  have r2 : rowAt ((w.alloc (.cells (markVC x) 41)).alloc (.cells (markVC y) 41)) (w.heap.size + 1) 0 34 = some (markVC y):=by simp [go_sem]
  obtain ⟨W,hW⟩ : ∃ W,(w.alloc (.cells (markVC x) 41)).alloc (.cells (markVC y) 41) = W:=⟨_,rfl⟩
  go_enter Tryz.func52,Tryz.ntmps52
  go_upto_region 1 with fail
  rw [hW] at hB r1 r2;obtain ⟨g1,hg1⟩ : ∃ g1,w.heap.size = g1:=⟨_,rfl⟩
  obtain ⟨g2,hg2⟩ : ∃ g2,g1 + 1 = g2:=⟨_,rfl⟩
  rw [hg1,hg2] at r2;have hs0 : g1 ≤ W.heap.size:=by rw [← hg1];exact hB.size
  rw [hg1] at r1 hB;rw [hg1,hg2];have a1 : rowAt W g1 0 32 = some (idC x.id):=by have:=rowAt_sub r1 (j:=0) (m:=32) (by omega);rwa [markVC_e0] at this
  have a2 : rowAt W g2 0 32 = some (idC y.id):=by have:=rowAt_sub r2 (j:=0) (m:=32) (by omega);rwa [markVC_e0] at this
  have b1 : W.cell? ⟨g1,32,none⟩ = some (.int .i64 x.h):=by have:=rowAt_cell r1 (j:=32) (by omega);rwa [markVC_g32,Nat.zero_add] at this
  have b2 : W.cell? ⟨g2,32,none⟩ = some (.int .i64 y.h):=by have:=rowAt_cell r2 (j:=32) (by omega);rwa [markVC_g32,Nat.zero_add] at this
  have c1:=hahead x.h x.id y.h y.id W;have ho : ordI x y = if markLtB x y then -1 else if markLtB y x then 1 else 0:=rfl;have e1 : aheadB x.h x.id y.h y.id = markLtB x y:=rfl;have e2 : aheadB y.h y.id x.h x.id = markLtB y x:=rfl;rw [e1] at c1;have c2:=fun w=>hahead y.h y.id x.h x.id w;rw [e2] at c2;obtain ⟨t1,ht1⟩ : ∃ t1,markLtB x y = t1:=⟨_,rfl⟩
  obtain ⟨t2,ht2⟩ : ∃ t2,markLtB y x = t2:=⟨_,rfl⟩
  rw [ht1] at c1 ho;rw [ht2] at c2 ho;have Ho:=Lib.hid ho;have Hg:=Lib.hid hg1;clear e1 e2 ho ht1 ht2 hW r1 r2 hg1 hg2;(go_wp2_with fail);refine c1.mono ?_;rintro e w1 ⟨rfl,hb1⟩;have a3 : rowAt w1 g1 0 32 = some (idC x.id):=(rowAt_of_block (hb1.block _ (rowAt_lt a1)) _ _).trans a1;have a4 : rowAt w1 g2 0 32 = some (idC y.id):=(rowAt_of_block (hb1.block _ (rowAt_lt a2)) _ _).trans a2;have b3 : w1.cell? ⟨g1,32,none⟩ = some (.int .i64 x.h):=by rw [hb1.cell (rowAt_lt a1)];exact b1
  have b4 : w1.cell? ⟨g2,32,none⟩ = some (.int .i64 y.h):=by rw [hb1.cell (rowAt_lt a2)];exact b2
  have hB1 : Below g1 w w1:=hB.trans (hb1.mono hs0);have hs1 : g1 ≤ w1.heap.size:=Nat.le_trans hs0 hb1.size;clear c1 a1 a2 b1 b2 hb1 hB hs0;cases t1 with
  | true =>
    (go_wp2_with fail);go_ret;exact ⟨by rw [Ho.out];rfl,by rw [Hg.out];exact hB1⟩
  | false =>
    (go_wp2_with fail);refine (c2 _).mono ?_;rintro e w2 ⟨rfl,hb2⟩;have hB2 : Below g1 w w2:=hB1.trans (hb2.mono hs1);clear c2 a3 a4 b3 b4 hb2 hB1;cases t2 with
    | true =>
      (go_wp2_with fail);go_ret;exact ⟨by rw [Ho.out];rfl,by rw [Hg.out];exact hB2⟩
    | false =>
      (go_wp2_with fail);go_ret;exact ⟨by rw [Ho.out];rfl,by rw [Hg.out];exact hB2⟩
end
section
open Go.RowKit Stb
set_option maxRecDepth 100000 in
set_option maxHeartbeats 4000000 in
theorem insSort_any (w : World) (B g n cap : Nat) (f : Nat → MarkV) (a b : Nat) (hown : OwnF w B g n cap f) (hab : a ≤ b) (hb : b ≤ n) (hn : n ≤ 1000000) :
    Calls Tryz.prog 191 #[.slice (some ⟨g,0,none⟩) n cap,.int .i64 a,.int .i64 b,.func (.func 52) #[] #[]] w fun e w'=>e = .returned (.tuple #[]) ∧ (∃ f',OwnF w' B g n cap f' ∧ Sw a b f f' ∧ Srt markLt a b f') ∧ Keep [g] w w':=by
  go_enter Tryz.func191,Tryz.ntmps191
  obtain ⟨i0,hi0⟩ : ∃ i0,a + 1 = i0:=⟨_,rfl⟩
  have hs1 : ((a : Int) + 1) = (i0 : Int):=by omega
  have hw1 : IntKind.i64.wrap (i0 : Int) = (i0 : Int):=IntWalk.i64_in _ (by omega);(go_wp2_with fail);clear hs1 hw1;go_loopw [8] (fun iv wr=>∃ (i : Nat) (f' : Nat → MarkV),iv = .int .i64 i ∧ i0 ≤ i ∧ (i ≤ b ∨ i = i0) ∧ OwnF wr B g n cap f' ∧ Hid (Sw a b f f' ∧ Srt markLt a i f') ∧ Keep [g] w wr) (fun iv _=>b - (intOf iv).toNat)
  case atStart =>
    exact ⟨i0,f,rfl,Nat.le_refl _,.inr rfl,hown,Lib.hid ⟨Sw.refl _ _ _,fun i j h1 h2 h3=>by omega⟩,Keep.refl _ _⟩
  case round =>
    obtain ⟨i,f',rfl,hi1,hi2,ho,HH,hk⟩:=hrel;by_cases hlt : i < b
    · obtain ⟨i2,hi2⟩ : ∃ i2,i + 1 = i2:=⟨_,rfl⟩
      have hs2 : ((i : Int) + 1) = (i2 : Int):=by omega
      have hw2 : IntKind.i64.wrap (i2 : Int) = (i2 : Int):=IntWalk.i64_in _ (by omega);have Hi2:=Lib.hid hi2;(go_wp2_with fail);go_loopw [9] (fun jv wj=>∃ (j : Nat),jv = .int .i64 j ∧ a ≤ j ∧ j ≤ i ∧ OwnF wj B g n cap (rot f' j i (i + 1)) ∧ Hid (j < i → markLt (f' i) (f' j)) ∧ Keep [g] w wj) (fun jv _=>(intOf jv).toNat)
      case atStart =>
        exact ⟨i,rfl,by omega,Nat.le_refl _,by rw [rot_self];exact ho,Lib.hid (fun h=>absurd h (by omega)),hk⟩
      case round =>
        clear ho hk;obtain ⟨j,rfl,hja,hji,ho,HJ,hk⟩:=hrel;obtain ⟨F,hF⟩ : ∃ F,rot f' j i (i + 1) = F:=⟨_,rfl⟩
        rw [hF] at ho;have HF:=Lib.hid hF;have Hfin:=Lib.hid (show (a < j → ¬ markLt (f' i) (f' (j - 1))) → Sw a b f F ∧ Srt markLt a i2 F from fun h2=>by
          rw [← hF,← Hi2.out];exact ⟨HH.out.1.trans (Sw.rot f' hja (by omega) hji (by omega)),down_srt sordMark HH.out.2 hja hji HJ.out h2⟩)
        clear hF;by_cases hgt : a < j
        · obtain ⟨q,hq⟩ : ∃ q,j - 1 = q:=⟨_,rfl⟩
          have hq1 : ((j : Int) - 1) = (q : Int):=by omega
          have hw3 : IntKind.i64.wrap (q : Int) = (q : Int):=IntWalk.i64_in _ (by omega);have hjn : j < n:=by omega
          have hqn : q < n:=by omega
          have Hq:=Lib.hid hq;have c2:=dorder_any (F j) (F q) wr.drew;have hd:=ordI_neg (F j) (F q);obtain ⟨t,ht⟩ : ∃ t,markLtB (F j) (F q) = t:=⟨_,rfl⟩
          rw [ht] at hd;obtain ⟨O,hO⟩ : ∃ O,ordI (F j) (F q) = O:=⟨_,rfl⟩
          rw [hO] at hd c2;have Ht:=Lib.hid (show markLtB (f' i) (f' q) = t by rw [← ht,← HF.out,down_at f' j i hji,down_below f' j i q (by omega)]);have hor : -1 ≤ O ∧ O ≤ 1:=by rw [← hO];exact ordI_range _ _
          clear ht hO hq;go_upto_region 4 with fail
          refine wp_region_lex (Bel wr) false (by kernel_rfl) (by kernel_rfl) (by kernel_rfl) (bel_drew wr) ?_;have hne:=bel_some wr;have hS:=bel_drew wr;have b1:=sub_row (ho.row hjn);have b2:=sub_row (ho.row hqn);repeat (refine wpLx_loose ?_ ?_;(focus (simp only [chainOp];done));intro K hK;go_simp;refine hK _ ?_;clear hK K)
          refine wpLx_chain ?_ ?_ ?_;(focus (exact hS));(focus (simp only [chainOp];done));intro K hK;go_simp;refine (c2).mono ?_;rintro e w' ⟨rfl,hb⟩;replace hS:=bel_next hS hb;refine ⟨_,rfl,hS,hK _ _ ?_⟩;clear hK K hb;repeat (refine wpLx_loose ?_ ?_;(focus (simp only [chainOp];done));intro K hK;go_simp;refine hK _ ?_;clear hK K)
          refine wpLx_nil ?_;intro hS;have hS' : Below wr.heap.size wr w':=hS;have ho' : OwnF w' B g n cap F:=Own.below ho hS';have hk' : Keep [g] w w':=Keep.trans hk (Keep.of_below hS') (by simp);clear b1 b2 hne hS c2 hS' ho hk;cases t with
          | true =>
            go_upto_region 6 with fail
            have hk:=hk';have ho:=ho';have hod : OwnF w'.drew B g n cap F:=Own.below ho ((Below.refl _ _).drew);refine LC.wp_region_tree (.loose 0 (.loose 1 (.loose 2 (.loose 3 (.loose 4 (.loose 5 (.loose 6 (.loose 7 (.loose 8 (.loose 10 (.loose 11 (.loose 12 (.two 9 (.one 13 (.loose 14 (.one 15 (.loose 16 (.one 17 .done))))) 13 (.one 9 (.loose 14 (.one 15 (.loose 16 (.one 17 .done)))))))))))))))))) (Kp ([g]) w') (LC.cvOf 41) (by kernel_rfl) (by kernel_rfl) (by kernel_rfl) (by kernel_rfl) (kp_drew ([g]) w') ?_;have hne:=kp_some ([g]) w';have hS:=kp_drew ([g]) w';obtain ⟨W,hW⟩ : ∃ W,w'.drew = W:=⟨_,rfl⟩
            rw [hW] at hod hS ⊢;have hrx:=hod.row hjn;have hry:=hod.row hqn;clear hW hk' ho';repeat (refine LC.wpTx_loose rfl ?_ ?_;(focus (first | (simp only [LC.chainOp,LC.cvOf];done) | rfl));intro K hK;go_simp;refine hK _ ?_;clear hK K)
            refine LC.wpTx_two ?_ ?_
            · skip;refine LC.wpTx_one ?_ rfl ?_ ?_;(focus (exact hS));focus (first | (simp only [LC.chainOp,LC.cvOf];done) | rfl)
              intro K hK;go_simp;refine hK _ _ ?_;clear hK K;refine LC.wpTx_one ?_ rfl ?_ ?_;(focus (exact hS));focus (first | (simp only [LC.chainOp,LC.cvOf];done) | rfl)
              intro K hK;go_simp;refine hK _ _ ?_;clear hK K;repeat (refine LC.wpTx_loose rfl ?_ ?_;(focus (first | (simp only [LC.chainOp,LC.cvOf];done) | rfl));intro K hK;go_simp;refine hK _ ?_;clear hK K)
              refine LC.wpTx_one ?_ rfl ?_ ?_;(focus (exact hS));focus (first | (simp only [LC.chainOp,LC.cvOf];done) | rfl)
              intro K hK;go_simp;obtain ⟨w2,hst2,ho2,hk2⟩:=hod.store hjn (F q);rw [hst2];go_simp;have hS2 : Kp [g] w' w2:=Keep.trans hS hk2 (by simp);refine ⟨hS2,hK _ _ ?_⟩;clear hK K hS hk2 hst2;have hS:=hS2;clear hS2;repeat (refine LC.wpTx_loose rfl ?_ ?_;(focus (first | (simp only [LC.chainOp,LC.cvOf];done) | rfl));intro K hK;go_simp;refine hK _ ?_;clear hK K)
              refine LC.wpTx_one ?_ rfl ?_ ?_;(focus (exact hS));focus (first | (simp only [LC.chainOp,LC.cvOf];done) | rfl)
              intro K hK;go_simp;obtain ⟨w3,hst3,ho3,hk3⟩:=ho2.store hqn (F j);rw [hst3];go_simp;have hS2 : Kp [g] w' w3:=Keep.trans hS hk3 (by simp);refine ⟨hS2,hK _ _ ?_⟩;clear hK K hS hk3 hst3;have hS:=hS2;clear hS2;refine LC.wpTx_done ?_;intro hS;rw [swp_two F j q] at ho3;have hkz : Keep [g] w w3:=Keep.trans hk hS (by simp);clear hS hne hk ho2 hod ho hrx hry;(go_wp2_with fail);go_roundw
              case rel =>
                have hsw : swp F j q = rot f' q i (i + 1):=by
                  rw [← HF.out,← down_step f' q i (by omega)];rw [show q + 1 = j by omega]
                rw [hsw] at ho3;exact ⟨q,by go_num,by omega,by omega,ho3,Lib.hid (fun _=>Ht.out),hkz⟩
              case measure=>simp [intOf];omega
            · skip;refine LC.wpTx_one ?_ rfl ?_ ?_;(focus (exact hS));focus (first | (simp only [LC.chainOp,LC.cvOf];done) | rfl)
              intro K hK;go_simp;refine hK _ _ ?_;clear hK K;refine LC.wpTx_one ?_ rfl ?_ ?_;(focus (exact hS));focus (first | (simp only [LC.chainOp,LC.cvOf];done) | rfl)
              intro K hK;go_simp;refine hK _ _ ?_;clear hK K;repeat (refine LC.wpTx_loose rfl ?_ ?_;(focus (first | (simp only [LC.chainOp,LC.cvOf];done) | rfl));intro K hK;go_simp;refine hK _ ?_;clear hK K)
              refine LC.wpTx_one ?_ rfl ?_ ?_;(focus (exact hS));focus (first | (simp only [LC.chainOp,LC.cvOf];done) | rfl)
              intro K hK;go_simp;obtain ⟨w2,hst2,ho2,hk2⟩:=hod.store hjn (F q);rw [hst2];go_simp;have hS2 : Kp [g] w' w2:=Keep.trans hS hk2 (by simp);refine ⟨hS2,hK _ _ ?_⟩;clear hK K hS hk2 hst2;have hS:=hS2;clear hS2;repeat (refine LC.wpTx_loose rfl ?_ ?_;(focus (first | (simp only [LC.chainOp,LC.cvOf];done) | rfl));intro K hK;go_simp;refine hK _ ?_;clear hK K)
              refine LC.wpTx_one ?_ rfl ?_ ?_;(focus (exact hS));focus (first | (simp only [LC.chainOp,LC.cvOf];done) | rfl)
              intro K hK;go_simp;obtain ⟨w3,hst3,ho3,hk3⟩:=ho2.store hqn (F j);rw [hst3];go_simp;have hS2 : Kp [g] w' w3:=Keep.trans hS hk3 (by simp);refine ⟨hS2,hK _ _ ?_⟩;clear hK K hS hk3 hst3;have hS:=hS2;clear hS2;refine LC.wpTx_done ?_;intro hS;rw [swp_two F j q] at ho3;have hkz : Keep [g] w w3:=Keep.trans hk hS (by simp);clear hS hne hk ho2 hod ho hrx hry;(go_wp2_with fail);go_roundw
              case rel =>
                have hsw : swp F j q = rot f' q i (i + 1):=by
                  rw [← HF.out,← down_step f' q i (by omega)];rw [show q + 1 = j by omega]
                rw [hsw] at ho3;exact ⟨q,by go_num,by omega,by omega,ho3,Lib.hid (fun _=>Ht.out),hkz⟩
              case measure=>simp [intOf];omega
          | false =>
            (go_wp2_with fail);go_roundw
            case rel =>
              refine ⟨i2,F,by go_num,by omega,.inl (by omega),ho',Lib.hid (Hfin.out fun _=>?_),hk'⟩;unfold markLt;rw [Hq.out,Ht.out];simp
            case measure=>simp [intOf];omega
        · go_upto_region 4 with fail
          refine wp_region_lex (Bel wr) false (by kernel_rfl) (by kernel_rfl) (by kernel_rfl) (bel_drew wr) ?_;have hne:=bel_some wr;have hS:=bel_drew wr;repeat (refine wpLx_loose ?_ ?_;(focus (simp only [chainOp];done));intro K hK;go_simp;refine hK _ ?_;clear hK K)
          refine wpLx_chain ?_ ?_ ?_;(focus (exact hS));(focus (simp only [chainOp];done));intro K hK;go_simp;refine hK _ _ ?_;clear hK K;repeat (refine wpLx_loose ?_ ?_;(focus (simp only [chainOp];done));intro K hK;go_simp;refine hK _ ?_;clear hK K)
          refine wpLx_nil ?_;intro hS;have hS' : Below wr.heap.size wr wr.drew:=hS;have ho' : OwnF wr.drew B g n cap F:=Own.below ho hS';have hk' : Keep [g] w wr.drew:=Keep.trans hk (Keep.of_below hS') (by simp);clear hne hS hS' ho hk;(go_wp2_with fail);go_roundw
          case rel=>exact ⟨i2,F,by go_num,by omega,.inl (by omega),ho',Lib.hid (Hfin.out fun h=>absurd h hgt),hk'⟩
          case measure=>simp [intOf];omega
    · (go_wp2_with fail);refine bodyPost_end (results_none rfl _ _ _) rfl ?_;exact ⟨rfl,⟨f',ho,HH.out.1,HH.out.2.sub (Nat.le_refl _) (by omega)⟩,hk⟩
end
end Go.Proofs.YtgfpjjppeldhbaaGreatDoor
