/- KeeperZero: the walk. -/
import Derived.Test.YtplpiicfkbpkaaaGreatDoorMk13
namespace Go.Proofs.YtplpiicfkbpkaaaGreatDoor
open Go.RowKit
open List hiding and get max min or set
open Go.Proofs.Tryz
open World
set_option maxRecDepth 100000
set_option maxHeartbeats 8000000
variable {W w:World}{a:Nat}{x:EntX}{o:OpP}
theorem zIdb(w:World):∃w',(stS 23 ⟨w.heap.size,0,none⟩ (.agg (idC id0))).run prog (w.alloc (.cells (idC id0) 23))=.ok () w'/\Below w.heap.size w w':=by
 have hb:Below w.heap.size w (w.alloc (.cells (idC id0) 23)):=bA;obtain⟨w1,h1,_,k1⟩:=idbox (heap_alloc_new w (.cells (idC id0) 23)) id0;exact⟨w1,h1,hb.trans (k1.below (B:=w.heap.size) hb.size sI)⟩
structure KS(w W:World)(a:Nat)(x:EntX)(o:OpP):Prop where
 e:rowAt W a 0 35=some (entR x)
 o:rowAt W (a+1) 0 37=some (opPC o)
 z:W.cell? ⟨a+2,3,none⟩=some (.pointer none)
 b:Below w.heap.size w W
theorem KS.bel{W':World}(h:KS w W a x o)(hb:Below W.heap.size W W'):KS w W' a x o :=
 ⟨((Keep.of_below hb).row (rowAt_lt h.e) sI _ _).trans h.e,((Keep.of_below hb).row (rowAt_lt h.o) sI _ _).trans h.o,(hb.cell (p:=⟨a+2,3,none⟩) (block_lt_of_cell? W _ h.z)).trans h.z,bel2 h.b hb⟩
theorem KS.nob(h:KS w W a x o):KNo W (some ⟨a+2,0,none⟩):=.inr ⟨_,rfl,h.z⟩
theorem KS.body(h:KS w W a x o):W.cell? ⟨a,2,none⟩=some (.string x.b):=by
 have:=rowAt_cell h.e (j:=2) oM;rw[Nat.zero_add]at this;rw[this];exact entC_g2 _
theorem keeperZero_any(x:EntX)(t:ByteArray)(ok on:Int)(j f:ByteArray)(g:Id32)(A:Option Addr)(n c:Nat)(w:World)(hv:Vars w)(hc:CrcVar w):Calls prog 3 #[.agg (entR x),.string t,.agg (opPC ⟨ok,on,j,f,g,.slice A n c⟩)] w λe w'=>e=.returned (.bool true)/\Below w.heap.size w w':=by
 obtain⟨o,ho⟩:∃o:OpP,o=⟨ok,on,j,f,g,.slice A n c⟩:=⟨_,rfl⟩
 obtain⟨V,hV⟩:=eR ((w.alloc (.cells (entR x) 25)).alloc (.cells (opPC ⟨ok,on,j,f,g,.slice A n c⟩) 28))
 obtain⟨W,hW⟩:=eR (V.alloc (.cells (kprC kpr0) 34))
 obtain⟨ga,y⟩:=eX w.heap.size
 have r:Below w.heap.size w V:=by
  rw[hV];exact(bA).alloc sI _
 have hS:KS w W ga x o:=by
  subst hW hV y ho;exact⟨by simp[go_sem];omega,by simp[go_sem],by simp[go_sem];rfl,(((bA).alloc sI _).alloc sO _)⟩
 have cA:=awake34 V (hv.below r) (hc.below r);have Hv:=dH hv;have Hc:=dH hc;have HV:=dH hV;have HW:=dH hW;have L:=dH y;have F:=dH r;have Ho:=dH ho;clear hv hc hV hW y r ho;go_enter func3,ntmps3
 go_wp2_with fail
 ·rw[<-HV.out];refine cA.mono ?_;rintro e w1 ⟨rfl,d⟩;(go_wp2_with fail);go_ret;exact⟨rfl,bel2 F.out d⟩
 rotate_left
 ·rw[<-HV.out];refine cA.mono ?_;rintro e w1 ⟨rfl,d⟩;(go_wp2_with fail);go_ret;exact⟨rfl,bel2 F.out d⟩
 clear cA;rw[<-HV.out,<-HW.out,L.out];(go_wp2_with fail);refine(kz_publish _ none (.inl rfl) t _).mono ?_;rintro e w1 ⟨rfl,d⟩;replace hS:=hS.bel d;clear d;obtain⟨w2,s,E⟩:=zIdb w1;replace hS:=hS.bel E;clear E;have B:=hS.o;rw[Ho.out]at B;(go_wp2_with fail);refine(kz_publish _ _ hS.nob t _).mono ?_;rintro e w1 ⟨rfl,d⟩;replace hS:=hS.bel d;clear d;clear s;obtain⟨w3,s,D⟩:=zIdb w1;replace hS:=hS.bel D;clear D B;(go_wp2_with fail);refine(kz_files _ none (.inl rfl)).mono ?_;rintro e w1 ⟨rfl,d⟩;replace hS:=hS.bel d;clear d;clear s;have m:=hS.e;have k:=hS.body;(go_wp2_with fail);refine(kz_commit _ none (.inl rfl) x).mono ?_;rintro e w1 ⟨rfl,d⟩;replace hS:=hS.bel d;clear d;replace m:=hS.e;replace k:=hS.body;(go_wp2_with fail);refine(kz_commit _ _ hS.nob x).mono ?_;rintro e w1 ⟨rfl,d⟩;replace hS:=hS.bel d;clear d;replace m:=hS.e;replace k:=hS.body;(go_wp2_with fail);refine(kz_insert _ none (.inl rfl) x.b).mono ?_;rintro e w1 ⟨rfl,d⟩;replace hS:=hS.bel d;clear d;replace m:=hS.e;replace k:=hS.body;(go_wp2_with fail);refine(kz_insert _ _ hS.nob x.b).mono ?_;rintro e w1 ⟨rfl,d⟩;replace hS:=hS.bel d;clear d;clear m k;(go_wp2_with fail);refine(kz_crash _ none (.inl rfl) 1).mono ?_;rintro e w1 ⟨rfl,d⟩;replace hS:=hS.bel d;clear d;(go_wp2_with fail);refine(kz_crash _ _ hS.nob 1).mono ?_;rintro e w1 ⟨rfl,d⟩;replace hS:=hS.bel d;clear d;(go_wp2_with fail);refine(kz_snap _ none (.inl rfl)).mono ?_;rintro e w1 ⟨rfl,d⟩;replace hS:=hS.bel d;clear d;(go_wp2_with fail);refine(kz_snap _ _ hS.nob).mono ?_;rintro e w1 ⟨rfl,d⟩;replace hS:=hS.bel d;clear d;(go_wp2_with fail);refine(kz_die _ none (.inl rfl) 1).mono ?_;rintro e w1 ⟨rfl,d⟩;replace hS:=hS.bel d;clear d;(go_wp2_with fail);refine(kz_die _ _ hS.nob 1).mono ?_;rintro e w1 ⟨rfl,d⟩;replace hS:=hS.bel d;clear d;(go_wp2_with fail);refine(kz_sync _ none (.inl rfl)).mono ?_;rintro e w1 ⟨rfl,d⟩;replace hS:=hS.bel d;clear d;(go_wp2_with fail);refine(kz_sync _ _ hS.nob).mono ?_;rintro e w1 ⟨rfl,d⟩;replace hS:=hS.bel d;clear d;(go_wp2_with fail);refine(kz_size _ none (.inl rfl)).mono ?_;rintro e w1 ⟨rfl,d⟩;replace hS:=hS.bel d;clear d;have I:((⟨#[]⟩:ByteArray)++⟨#[]⟩).toList = []:=by rw[ByteArray.toList_eq];rfl
 (go_wp2_with fail);refine(kz_size _ _ hS.nob).mono ?_;rintro e w1 ⟨rfl,d⟩;replace hS:=hS.bel d;clear d;(go_wp2_with fail);refine(kz_state _ none (.inl rfl)).mono ?_;rintro e w1 ⟨rfl,d⟩;replace hS:=hS.bel d;clear d;(go_wp2_with fail);refine(kz_state _ _ hS.nob).mono ?_;rintro e w1 ⟨rfl,d⟩;replace hS:=hS.bel d;clear d;clear I;have G:=buildEZ w1;(go_wp2_with fail);refine(check14_0 _).mono ?_;rintro e w1 ⟨rfl,d⟩;replace hS:=hS.bel d;clear d;clear G;have H:=buildHZ w1;(go_wp2_with fail);refine(check08_0 _).mono ?_;rintro e w1 ⟨rfl,d⟩;replace hS:=hS.bel d;clear d;clear H;have cA:=awake34 w1 (Hv.out.below hS.b) (Hc.out.below hS.b);(go_wp2_with fail);refine cA.mono ?_;rintro e w4 ⟨rfl,J⟩;replace hS:=hS.bel J;(go_wp2_with fail);go_ret;exact⟨rfl,hS.b⟩
end Go.Proofs.YtplpiicfkbpkaaaGreatDoor
