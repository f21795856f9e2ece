/- Part 10 of the texts that lead to this claim: the walks of the functions and the plain law, in order. -/
import Derived.Test.YtgfpjjppeldhbaaGreatDoorMv9
namespace Go.Proofs.YtgfpjjppeldhbaaGreatDoor
open Go.RowKit
set_option maxRecDepth 100000
set_option maxHeartbeats 8000000
theorem rmset6(xr:xW)(B:Option Addr)(m mc:Nat)(T:List zE)(w:World)(g:Nat)(cs:Array Value)(AX:Option Addr)(nX cX:Nat)(X:List xW)(OA:Option Addr)(no oc:Nat)(G:List zE)
  (hg:w.heap[g]?=some (.cells cs 69 (0,0)))(b5:cs[6]?=some (.slice AX nX cX))(b4:cs[7]?=some (.slice OA no oc))(d5:gH w AX nX X)(f1:AX=none->cX=0)(d3:zY w OA no G)(c8:g∉blk OA)(d4:zY w B m T)(c9:g∉blk B)
  (O:xr.key.size<=16)(d8:xr.val.size<=16)(hn:nX<=100000)(d9:no<=100000)(hm:m<=100000) :
  Calls Tryz.prog 147 #[.pointer (some ⟨g,6,none⟩),.agg (zF xr),.slice B m mc] w λe w'=>∃A3 d A9 y,e=.returned (.int .i64 0)/\w'.heap[g]?=some (.cells ((cs.setIfInBounds 6 (.slice A3 (nX+1) d)).setIfInBounds 7 (.slice A9 (yB zI (G++T)).length y)) 69 (0,0))/\Own w' w.heap.size 210 34 A3 (nX+1) d ((X ++ [xr]).map zF)/\ZC w' A9 (yB zI (G++T)).length y (yB zI (G++T))/\(∀x∈blk A9,w.heap.size<=x)/\z6 [g] w w':=by
 have Y:Below w.heap.size w (w.alloc (.cells (zF xr) 210)):=bA;have c3:g<w.heap.size:=(aG hg).1;have a6:=(Y.block g c3).trans hg;have h1:=SlR.below d5 Y;have hO:=SlR.below d3 Y;have hB:=SlR.below d4 Y;have b6:z7 (w.alloc (.cells (zF xr) 210)) w.heap.size 0 34=some (zF xr):=by simp[go_sem]
 have a4:w.heap.size<=(w.alloc (.cells (zF xr) 210)).heap.size:=sI;go_enter Tryz.func147,Tryz.ntmps147
 go_upto_region 3 with fail
 obtain⟨gx,c2⟩:=eX w.heap.size
 obtain⟨W,hW⟩:=eX (w.alloc (.cells (zF xr) 210))
 rw[hW]at Y a6 h1 hO hB b6 a4;rw[hW];have HW:=dH a4;rw[c2]at b6 |-;have b7:g<W.heap.size:=oM;have c7:W.cell? ⟨g,6,none⟩=some (.slice AX nX cX):=by rw[cell_of_row W g 6 _ _ _ a6];exact b5
 have b1:=zP c7 (S:=[]) sI;have b2:=y9 b6 (S:=[]) sI;clear hW c2 a4 d5 d3 d4 c3;refine d6 (.loose 0 (.loose 2 (.loose 3 (.loose 4 (.loose 5 (.loose 7 (.two 1 (.two 6 (.one 8 (.one 9 (.loose 10 (.loose 11 (.one 12 .done))))) 8 (.one 6 (.one 9 (.loose 10 (.loose 11 (.one 12 .done)))))) 8 (.one 1 (.one 6 (.one 9 (.loose 10 (.loose 11 (.one 12 .done))))))))))))) (Kp [] W) false kR kR kR kR kR (bN [] W) ?_;have e0:=nC [] W;have hS:=bN [] W;refine tZ ?_;refine tJ ?_ ?_
 ·
  refine tH ?_;intro K hK;refine zG (xP hS _) (λA=>?_);refine hK _ _ ?_;clear hK K;replace hS:=A;clear A;refine tJ ?_ ?_
  ·have c0:SlR (W.drew.alloc (.cells #[] 210)) AX nX 34 (X.map zF):=h1.kept hS sI;refine dL v6 rfl rfl (Own.empty W.drew W.heap.size 210 34 lR) rfl c0 f1 (BH X) oM oM sI ?_;intro A2 c6 w2 j a3 L;simp only[Nat.zero_add,List.nil_append]at j |-;refine zG (z6.trans hS a3 (by simp[blk])) (λA=>?_);replace hS:=A;clear A;refine tH ?_;intro K hK;refine zG (xP hS _) (λA=>?_);refine hK _ _ ?_;clear hK K;replace hS:=A;clear A;have d7:Below w2.heap.size w2 (w2.alloc (.cells (zF xr) 210)):=bA;have F:=j.below d7;have M:z7 (w2.alloc (.cells (zF xr) 210)) w2.heap.size 0 34=some (zF xr):=by simp[go_sem]
   have b8:=hS.size;refine b9 v6 rfl rfl F rfl M (j3 _) oM oM b8 ?_;intro A3 d w3 t a5 J;refine zG (z6.trans hS a5 (λx hx=>.inr ((j.at_base hx).1))) (λA=>?_);replace hS:=A;clear A;refine tZ ?_;have N:w3.heap[g]?=some (.cells cs 69 (0,0)):=(hS.block g b7 sI).trans a6;have c5:w3.cell? ⟨g,6,none⟩=some (.slice AX nX cX):=by rw[cell_of_row w3 g 6 _ _ _ N];exact b5
   have c4:w3.frozen? ⟨g,6,none⟩=false:=by simp[World.frozen?,N]
   refine fE rfl ?_ kR ?_;(focus(simp only[yO];done));intro K hK;go_simp;refine hK _ _ ?_;clear hK K;have E:=t.kept (z6.setCell w3 ⟨g,6,none⟩ (.slice A3 (nX+1) d)) (λx hx=>oS ((t.at_base hx).1));have D:(w3.setCell ⟨g,6,none⟩ (.slice A3 (nX+1) d)).heap[g]?=some (.cells (cs.setIfInBounds 6 (.slice A3 (nX+1) d)) 69 (0,0)):=zA N 6 _;have r:(X.map zF) ++ [zF xr]=(X ++ [xr]).map zF:=sI;have s:Own (w3.setCell ⟨g,6,none⟩ (.slice A3 (nX+1) d)) W.heap.size 210 34 A3 (nX+1) d ((X ++ [xr]).map zF):=by rw[<-r];exact E
   have f:z6 [g] W (w3.setCell ⟨g,6,none⟩ (.slice A3 (nX+1) d)):=z6.trans (hS.mono (S':=[g]) sI) (z6.setCell w3 ⟨g,6,none⟩ _) sI;clear E t j F hS N c5 c4 a5 a3 J L r;have a0:z6 [g] w (w3.setCell ⟨g,6,none⟩ (.slice A3 (nX+1) d)):=z6.trans ((z6.of_below Y).mono (S':=[g]) sI) f iL;obtain⟨V,hV⟩:=eX (w3.setCell ⟨g,6,none⟩ (.slice A3 (nX+1) d))
   rw[hV]at D s f a0 |-;have a9:zY V OA no G:=hO.kept (f) (λx hx hm=>c8 (by simp at hm;subst hm;exact hx));have b0:zY V B m T:=hB.kept (f) (λx hx hm=>c9 (by simp at hm;subst hm;exact hx));have a8:V.cell? ⟨g,7,none⟩=some (.slice OA no oc):=by rw[cell_of_row V g 7 _ _ _ D];simp[b4]
   have H:=dH s;clear hV b5 hO hB a6 f s c7 b6 b1 b2 Y b7 h1;have cb:=rboth V OA B no m oc mc G T a9 b0 oM oM;(go_wp2_with fail);refine cb.mono ?_;rintro e w9 ⟨A9,y,rfl,b3,U,k⟩;have a7:w9.heap[g]?=some (.cells (cs.setIfInBounds 6 (.slice A3 (nX+1) d)) 69 (0,0)):=(k.block g (aG D).1).trans D;have d1:w9.cell? ⟨g,7,none⟩=some (.slice OA no oc):=(k.cell (p:=⟨g,7,none⟩) (World.block_lt_of_cell? V _ a8)).trans a8;have d0:w9.frozen? ⟨g,7,none⟩=false:=by simp[World.frozen?,a7]
   have I:=zA a7 7 (.slice A9 (yB zI (G++T)).length y);have O:=z6.setCell w9 ⟨g,7,none⟩ (.slice A9 (yB zI (G++T)).length y);have c3:g<w.heap.size:=(aG hg).1;have d2:=a0.size;have a4:w.heap.size<=W.heap.size:=HW.out;have a2:=b3.kept O (λx hx hm=>by have:=U x hx;simp at hm;omega);have a1:=((H.out).below k).kept O (λx hx hm=>by have:=(H.out.at_base hx).1;simp at hm;omega);have c1:z6 [g] w (w9.setCell ⟨g,7,none⟩ (.slice A9 (yB zI (G++T)).length y)):=z6.trans (z6.trans a0 (z6.of_below k) sI) O iL;have Z:∀x∈blk A9,w.heap.size<=x:=λx hx=>(oH (U x hx));clear b3 U cb a9 b0;(go_wp2_with fail);go_ret;exact⟨A3,d,A9,y,rfl,I,a1.mono a4,a2,Z,c1⟩
  ·
   refine tH ?_;intro K hK;refine zG (xP hS _) (λA=>?_);refine hK _ _ ?_;clear hK K;replace hS:=A;clear A;have c0:SlR ((W.drew.alloc (.cells #[] 210)).alloc (.cells (zF xr) 210)) AX nX 34 (X.map zF):=h1.kept hS sI;have R:=(Own.empty W.drew W.heap.size 210 34 lR).below ((Below.refl _ _).alloc lR (.cells (zF xr) 210));refine dL v6 rfl rfl R rfl c0 f1 (BH X) oM oM sO ?_;intro A2 c6 w2 j a3 L;simp only[Nat.zero_add,List.nil_append]at j |-;refine zG (z6.trans hS a3 (by simp[blk])) (λA=>?_);replace hS:=A;clear A;have F:=j;have M:z7 w2 (W.heap.size+1) 0 34=some (zF xr):=(a3.row sI (by simp[blk]) 0 34).trans (by simp[go_sem]);have b8:=hS.size;refine b9 v6 rfl rfl F rfl M (j3 _) oM oM b8 ?_;intro A3 d w3 t a5 J;refine zG (z6.trans hS a5 (λx hx=>.inr ((j.at_base hx).1))) (λA=>?_);replace hS:=A;clear A;refine tZ ?_;have N:w3.heap[g]?=some (.cells cs 69 (0,0)):=(hS.block g b7 sI).trans a6;have c5:w3.cell? ⟨g,6,none⟩=some (.slice AX nX cX):=by rw[cell_of_row w3 g 6 _ _ _ N];exact b5
   have c4:w3.frozen? ⟨g,6,none⟩=false:=by simp[World.frozen?,N]
   refine fE rfl ?_ kR ?_;(focus(simp only[yO];done));intro K hK;go_simp;refine hK _ _ ?_;clear hK K;have E:=t.kept (z6.setCell w3 ⟨g,6,none⟩ (.slice A3 (nX+1) d)) (λx hx=>oS ((t.at_base hx).1));have D:(w3.setCell ⟨g,6,none⟩ (.slice A3 (nX+1) d)).heap[g]?=some (.cells (cs.setIfInBounds 6 (.slice A3 (nX+1) d)) 69 (0,0)):=zA N 6 _;have r:(X.map zF) ++ [zF xr]=(X ++ [xr]).map zF:=sI;have s:Own (w3.setCell ⟨g,6,none⟩ (.slice A3 (nX+1) d)) W.heap.size 210 34 A3 (nX+1) d ((X ++ [xr]).map zF):=by rw[<-r];exact E
   have f:z6 [g] W (w3.setCell ⟨g,6,none⟩ (.slice A3 (nX+1) d)):=z6.trans (hS.mono (S':=[g]) sI) (z6.setCell w3 ⟨g,6,none⟩ _) sI;clear E t j F hS N c5 c4 a5 a3 J L r;have a0:z6 [g] w (w3.setCell ⟨g,6,none⟩ (.slice A3 (nX+1) d)):=z6.trans ((z6.of_below Y).mono (S':=[g]) sI) f iL;obtain⟨V,hV⟩:=eX (w3.setCell ⟨g,6,none⟩ (.slice A3 (nX+1) d))
   rw[hV]at D s f a0 |-;have a9:zY V OA no G:=hO.kept (f) (λx hx hm=>c8 (by simp at hm;subst hm;exact hx));have b0:zY V B m T:=hB.kept (f) (λx hx hm=>c9 (by simp at hm;subst hm;exact hx));have a8:V.cell? ⟨g,7,none⟩=some (.slice OA no oc):=by rw[cell_of_row V g 7 _ _ _ D];simp[b4]
   have H:=dH s;clear hV b5 hO hB a6 f s c7 b6 b1 b2 Y b7 h1;have cb:=rboth V OA B no m oc mc G T a9 b0 oM oM;(go_wp2_with fail);refine cb.mono ?_;rintro e w9 ⟨A9,y,rfl,b3,U,k⟩;have a7:w9.heap[g]?=some (.cells (cs.setIfInBounds 6 (.slice A3 (nX+1) d)) 69 (0,0)):=(k.block g (aG D).1).trans D;have d1:w9.cell? ⟨g,7,none⟩=some (.slice OA no oc):=(k.cell (p:=⟨g,7,none⟩) (World.block_lt_of_cell? V _ a8)).trans a8;have d0:w9.frozen? ⟨g,7,none⟩=false:=by simp[World.frozen?,a7]
   have I:=zA a7 7 (.slice A9 (yB zI (G++T)).length y);have O:=z6.setCell w9 ⟨g,7,none⟩ (.slice A9 (yB zI (G++T)).length y);have c3:g<w.heap.size:=(aG hg).1;have d2:=a0.size;have a4:w.heap.size<=W.heap.size:=HW.out;have a2:=b3.kept O (λx hx hm=>by have:=U x hx;simp at hm;omega);have a1:=((H.out).below k).kept O (λx hx hm=>by have:=(H.out.at_base hx).1;simp at hm;omega);have c1:z6 [g] w (w9.setCell ⟨g,7,none⟩ (.slice A9 (yB zI (G++T)).length y)):=z6.trans (z6.trans a0 (z6.of_below k) sI) O iL;have Z:∀x∈blk A9,w.heap.size<=x:=λx hx=>(oH (U x hx));clear b3 U cb a9 b0;(go_wp2_with fail);go_ret;exact⟨A3,d,A9,y,rfl,I,a1.mono a4,a2,Z,c1⟩
 ·
  refine tH ?_;intro K hK;refine zG (xP hS _) (λA=>?_);refine hK _ _ ?_;clear hK K;replace hS:=A;clear A;refine tH ?_;intro K hK;refine zG (xP hS _) (λA=>?_);refine hK _ _ ?_;clear hK K;replace hS:=A;clear A;have c0:SlR ((W.drew.alloc (.cells (zF xr) 210)).alloc (.cells #[] 210)) AX nX 34 (X.map zF):=h1.kept hS sI;have R:Own ((W.drew.alloc (.cells (zF xr) 210)).alloc (.cells #[] 210)) W.heap.size 210 34 (some ⟨W.heap.size+1,0,none⟩) 0 0 []:=by
   have:=Own.empty (W.drew.alloc (.cells (zF xr) 210)) W.heap.size 210 34 sI;simpa using this
  refine dL v6 rfl rfl R rfl c0 f1 (BH X) oM oM sO ?_;intro A2 c6 w2 j a3 L;simp only[Nat.zero_add,List.nil_append]at j |-;refine zG (z6.trans hS a3 (by simp[blk])) (λA=>?_);replace hS:=A;clear A;have F:=j;have M:z7 w2 W.heap.size 0 34=some (zF xr):=(a3.row sO (by simp[blk]) 0 34).trans (by simp[go_sem]);have b8:=hS.size;refine b9 v6 rfl rfl F rfl M (j3 _) oM oM b8 ?_;intro A3 d w3 t a5 J;refine zG (z6.trans hS a5 (λx hx=>.inr ((j.at_base hx).1))) (λA=>?_);replace hS:=A;clear A;refine tZ ?_;have N:w3.heap[g]?=some (.cells cs 69 (0,0)):=(hS.block g b7 sI).trans a6;have c5:w3.cell? ⟨g,6,none⟩=some (.slice AX nX cX):=by rw[cell_of_row w3 g 6 _ _ _ N];exact b5
  have c4:w3.frozen? ⟨g,6,none⟩=false:=by simp[World.frozen?,N]
  refine fE rfl ?_ kR ?_;(focus(simp only[yO];done));intro K hK;go_simp;refine hK _ _ ?_;clear hK K;have E:=t.kept (z6.setCell w3 ⟨g,6,none⟩ (.slice A3 (nX+1) d)) (λx hx=>oS ((t.at_base hx).1));have D:(w3.setCell ⟨g,6,none⟩ (.slice A3 (nX+1) d)).heap[g]?=some (.cells (cs.setIfInBounds 6 (.slice A3 (nX+1) d)) 69 (0,0)):=zA N 6 _;have r:(X.map zF) ++ [zF xr]=(X ++ [xr]).map zF:=sI;have s:Own (w3.setCell ⟨g,6,none⟩ (.slice A3 (nX+1) d)) W.heap.size 210 34 A3 (nX+1) d ((X ++ [xr]).map zF):=by rw[<-r];exact E
  have f:z6 [g] W (w3.setCell ⟨g,6,none⟩ (.slice A3 (nX+1) d)):=z6.trans (hS.mono (S':=[g]) sI) (z6.setCell w3 ⟨g,6,none⟩ _) sI;clear E t j F hS N c5 c4 a5 a3 J L r;have a0:z6 [g] w (w3.setCell ⟨g,6,none⟩ (.slice A3 (nX+1) d)):=z6.trans ((z6.of_below Y).mono (S':=[g]) sI) f iL;obtain⟨V,hV⟩:=eX (w3.setCell ⟨g,6,none⟩ (.slice A3 (nX+1) d))
  rw[hV]at D s f a0 |-;have a9:zY V OA no G:=hO.kept (f) (λx hx hm=>c8 (by simp at hm;subst hm;exact hx));have b0:zY V B m T:=hB.kept (f) (λx hx hm=>c9 (by simp at hm;subst hm;exact hx));have a8:V.cell? ⟨g,7,none⟩=some (.slice OA no oc):=by rw[cell_of_row V g 7 _ _ _ D];simp[b4]
  have H:=dH s;clear hV b5 hO hB a6 f s c7 b6 b1 b2 Y b7 h1;have cb:=rboth V OA B no m oc mc G T a9 b0 oM oM;(go_wp2_with fail);refine cb.mono ?_;rintro e w9 ⟨A9,y,rfl,b3,U,k⟩;have a7:w9.heap[g]?=some (.cells (cs.setIfInBounds 6 (.slice A3 (nX+1) d)) 69 (0,0)):=(k.block g (aG D).1).trans D;have d1:w9.cell? ⟨g,7,none⟩=some (.slice OA no oc):=(k.cell (p:=⟨g,7,none⟩) (World.block_lt_of_cell? V _ a8)).trans a8;have d0:w9.frozen? ⟨g,7,none⟩=false:=by simp[World.frozen?,a7]
  have I:=zA a7 7 (.slice A9 (yB zI (G++T)).length y);have O:=z6.setCell w9 ⟨g,7,none⟩ (.slice A9 (yB zI (G++T)).length y);have c3:g<w.heap.size:=(aG hg).1;have d2:=a0.size;have a4:w.heap.size<=W.heap.size:=HW.out;have a2:=b3.kept O (λx hx hm=>by have:=U x hx;simp at hm;omega);have a1:=((H.out).below k).kept O (λx hx hm=>by have:=(H.out.at_base hx).1;simp at hm;omega);have c1:z6 [g] w (w9.setCell ⟨g,7,none⟩ (.slice A9 (yB zI (G++T)).length y)):=z6.trans (z6.trans a0 (z6.of_below k) sI) O iL;have Z:∀x∈blk A9,w.heap.size<=x:=λx hx=>(oH (U x hx));clear b3 U cb a9 b0;(go_wp2_with fail);go_ret;exact⟨A3,d,A9,y,rfl,I,a1.mono a4,a2,Z,c1⟩
theorem radd3(d:zE)(v:ByteArray)(w:World)(g:Nat)(cs:Array Value)(A:Option Addr)(n cap:Nat)(X:List yH)(hg:w.heap[g]?=some (.cells cs 69 (0,0)))(Y:cs[3]?=some (.slice A n cap))(a3:y7 w A n X)(f1:A=none->cap=0)(a6:g∉blk A)(hv:v.size<=16)(hX:X.length<=100000) :
  Calls Tryz.prog 145 #[.pointer (some ⟨g,3,none⟩),.agg (idC d),.string v] w λe w'=>∃A' cap',e=.returned (.int .i64 0)/\w'.heap[g]?=some (.cells (cs.setIfInBounds 3 (.slice A' (n+1) cap')) 69 (0,0))/\Own w' w.heap.size 218 33 A' (n+1) cap' ((X ++ [(⟨d,v⟩:yH)]).map zH)/\z6 [g] w w':=by
 have J:Below w.heap.size w (w.alloc (.cells (idC d) 39)):=bA;have a0:g<w.heap.size:=(aG hg).1;have O:=(J.block g a0).trans hg;have h1:y7 _ A n X:=SlR.below a3 J;have U:z7 (w.alloc (.cells (idC d) 39)) w.heap.size 0 32=some (idC d):=by simp[go_sem]
 go_enter Tryz.func145,Tryz.ntmps145
 go_upto_region 3 with fail
 obtain⟨W,hW⟩:=eR (w.alloc (.cells (idC d) 39))
 rw[<-hW]at O h1 U J |-;clear hW;have hn:=h1.len;have Hn:=dH hn;have a5:n<=100000:=oM;clear hn;have a1:W.cell? ⟨g,3,none⟩=some (.slice A n cap):=by rw[cell_of_row W g 3 _ _ _ O];exact Y
 have Z:g<W.heap.size:=oH J.size;refine d6 (.loose 0 (.loose 2 (.loose 3 (.loose 4 (.loose 5 (.loose 7 (.loose 8 (.loose 9 (.two 1 (.two 6 (.one 10 (.one 11 (.loose 12 (.loose 13 (.one 14 .done))))) 10 (.one 6 (.one 11 (.loose 12 (.loose 13 (.one 14 .done)))))) 10 (.one 1 (.one 6 (.one 11 (.loose 12 (.loose 13 (.one 14 .done))))))))))))))) (Kp [] W) false kR kR kR kR kR (bN [] W) ?_;have a4:=nC [] W;have hS:=bN [] W;have b1:=zP a1 (S:=[]) sI;have b2:=y9 U (S:=[]) sI;refine tZ ?_;refine tJ ?_ ?_
 ·
  refine tH ?_;intro K hK;refine zG (xP hS _) (λm=>?_);refine hK _ _ ?_;clear hK K;replace hS:=m;clear m;refine tJ ?_ ?_
  ·have N:y7 (W.drew.alloc (.cells #[] 218)) A n X:=h1.kept hS sI;refine dL q5 rfl rfl (Own.empty W.drew W.heap.size 218 33 lR) rfl N f1 (YP X) oM oM sI ?_;intro A2 V w2 f I y;simp only[Nat.zero_add,List.nil_append]at f |-;refine zG (z6.trans hS I (by simp[blk])) (λm=>?_);replace hS:=m;clear m;refine tH ?_;intro K hK;refine zG (xP hS _) (λm=>?_);refine hK _ _ ?_;clear hK K;replace hS:=m;clear m;have a2:Below w2.heap.size w2 (w2.alloc (.cells (zH ⟨d,v⟩) 218)):=bA;have s:=f.below a2;have B:z7 (w2.alloc (.cells (zH ⟨d,v⟩) 218)) w2.heap.size 0 33=some (zH ⟨d,v⟩):=by simp[go_sem]
   have M:=hS.size;refine b9 q5 rfl rfl s rfl B (j5 _) oM oM M ?_;intro A3 k w3 j L t;refine zG (z6.trans hS L (λx hx=>.inr ((f.at_base hx).1))) (λm=>?_);replace hS:=m;clear m;refine tZ ?_;have F:w3.heap[g]?=some (.cells cs 69 (0,0)):=(hS.block g Z sI).trans O;have T:w3.cell? ⟨g,3,none⟩=some (.slice A n cap):=by rw[cell_of_row w3 g 3 _ _ _ F];exact Y
   have R:w3.frozen? ⟨g,3,none⟩=false:=by simp[World.frozen?,F]
   refine fE rfl ?_ kR ?_;(focus(simp only[yO];done));intro K hK;go_simp;refine hK _ _ ?_;clear hK K;have r:=j.kept (z6.setCell w3 ⟨g,3,none⟩ (.slice A3 (n+1) k)) (λx hx=>oS ((j.at_base hx).1));have H:(w3.setCell ⟨g,3,none⟩ (.slice A3 (n+1) k)).heap[g]?=some (.cells (cs.setIfInBounds 3 (.slice A3 (n+1) k)) 69 (0,0)):=zA F 3 _;have D:=r.mono (show w.heap.size<=W.heap.size from J.size);have E:z6 [g] w (w3.setCell ⟨g,3,none⟩ (.slice A3 (n+1) k)):=z6.trans ((z6.trans (z6.of_below J) hS sI).mono (S':=[g]) sI) (z6.setCell w3 ⟨g,3,none⟩ _) sI;clear r j f s hS F T R L I t y;(go_wp2_with fail);go_ret;exact⟨A3,k,rfl,H,by simpa using D,E⟩
  ·
   refine tH ?_;intro K hK;refine zG (xP hS _) (λm=>?_);refine hK _ _ ?_;clear hK K;replace hS:=m;clear m;have N:y7 ((W.drew.alloc (.cells #[] 218)).alloc (.cells (zH ⟨d,v⟩) 218)) A n X:=h1.kept hS sI;have G:=(Own.empty W.drew W.heap.size 218 33 lR).below ((Below.refl _ _).alloc lR (.cells (zH ⟨d,v⟩) 218));refine dL q5 rfl rfl G rfl N f1 (YP X) oM oM sO ?_;intro A2 V w2 f I y;simp only[Nat.zero_add,List.nil_append]at f |-;refine zG (z6.trans hS I (by simp[blk])) (λm=>?_);replace hS:=m;clear m;have s:=f;have B:z7 w2 (W.heap.size+1) 0 33=some (zH ⟨d,v⟩):=(I.row sI (by simp[blk]) 0 33).trans (by simp[go_sem]);have M:=hS.size;refine b9 q5 rfl rfl s rfl B (j5 _) oM oM M ?_;intro A3 k w3 j L t;refine zG (z6.trans hS L (λx hx=>.inr ((f.at_base hx).1))) (λm=>?_);replace hS:=m;clear m;refine tZ ?_;have F:w3.heap[g]?=some (.cells cs 69 (0,0)):=(hS.block g Z sI).trans O;have T:w3.cell? ⟨g,3,none⟩=some (.slice A n cap):=by rw[cell_of_row w3 g 3 _ _ _ F];exact Y
   have R:w3.frozen? ⟨g,3,none⟩=false:=by simp[World.frozen?,F]
   refine fE rfl ?_ kR ?_;(focus(simp only[yO];done));intro K hK;go_simp;refine hK _ _ ?_;clear hK K;have r:=j.kept (z6.setCell w3 ⟨g,3,none⟩ (.slice A3 (n+1) k)) (λx hx=>oS ((j.at_base hx).1));have H:(w3.setCell ⟨g,3,none⟩ (.slice A3 (n+1) k)).heap[g]?=some (.cells (cs.setIfInBounds 3 (.slice A3 (n+1) k)) 69 (0,0)):=zA F 3 _;have D:=r.mono (show w.heap.size<=W.heap.size from J.size);have E:z6 [g] w (w3.setCell ⟨g,3,none⟩ (.slice A3 (n+1) k)):=z6.trans ((z6.trans (z6.of_below J) hS sI).mono (S':=[g]) sI) (z6.setCell w3 ⟨g,3,none⟩ _) sI;clear r j f s hS F T R L I t y;(go_wp2_with fail);go_ret;exact⟨A3,k,rfl,H,by simpa using D,E⟩
 ·
  refine tH ?_;intro K hK;refine zG (xP hS _) (λm=>?_);refine hK _ _ ?_;clear hK K;replace hS:=m;clear m;refine tH ?_;intro K hK;refine zG (xP hS _) (λm=>?_);refine hK _ _ ?_;clear hK K;replace hS:=m;clear m;have N:y7 ((W.drew.alloc (.cells (zH ⟨d,v⟩) 218)).alloc (.cells #[] 218)) A n X:=h1.kept hS sI;have G:Own ((W.drew.alloc (.cells (zH ⟨d,v⟩) 218)).alloc (.cells #[] 218)) W.heap.size 218 33 (some ⟨W.heap.size+1,0,none⟩) 0 0 []:=by
   have:=Own.empty (W.drew.alloc (.cells (zH ⟨d,v⟩) 218)) W.heap.size 218 33 sI;simpa using this
  refine dL q5 rfl rfl G rfl N f1 (YP X) oM oM sO ?_;intro A2 V w2 f I y;simp only[Nat.zero_add,List.nil_append]at f |-;refine zG (z6.trans hS I (by simp[blk])) (λm=>?_);replace hS:=m;clear m;have s:=f;have B:z7 w2 W.heap.size 0 33=some (zH ⟨d,v⟩):=(I.row sO (by simp[blk]) 0 33).trans (by simp[go_sem]);have M:=hS.size;refine b9 q5 rfl rfl s rfl B (j5 _) oM oM M ?_;intro A3 k w3 j L t;refine zG (z6.trans hS L (λx hx=>.inr ((f.at_base hx).1))) (λm=>?_);replace hS:=m;clear m;refine tZ ?_;have F:w3.heap[g]?=some (.cells cs 69 (0,0)):=(hS.block g Z sI).trans O;have T:w3.cell? ⟨g,3,none⟩=some (.slice A n cap):=by rw[cell_of_row w3 g 3 _ _ _ F];exact Y
  have R:w3.frozen? ⟨g,3,none⟩=false:=by simp[World.frozen?,F]
  refine fE rfl ?_ kR ?_;(focus(simp only[yO];done));intro K hK;go_simp;refine hK _ _ ?_;clear hK K;have r:=j.kept (z6.setCell w3 ⟨g,3,none⟩ (.slice A3 (n+1) k)) (λx hx=>oS ((j.at_base hx).1));have H:(w3.setCell ⟨g,3,none⟩ (.slice A3 (n+1) k)).heap[g]?=some (.cells (cs.setIfInBounds 3 (.slice A3 (n+1) k)) 69 (0,0)):=zA F 3 _;have D:=r.mono (show w.heap.size<=W.heap.size from J.size);have E:z6 [g] w (w3.setCell ⟨g,3,none⟩ (.slice A3 (n+1) k)):=z6.trans ((z6.trans (z6.of_below J) hS sI).mono (S':=[g]) sI) (z6.setCell w3 ⟨g,3,none⟩ _) sI;clear r j f s hS F T R L I t y;(go_wp2_with fail);go_ret;exact⟨A3,k,rfl,H,by simpa using D,E⟩
theorem rrem3(v:ByteArray)(B:Option Addr)(m c:Nat)(T:List zE)(w:World)(g:Nat)(cs:Array Value)(A':Option Addr)(n' cap':Nat)(G:List yH)(hg:w.heap[g]?=some (.cells cs 69 (0,0)))(a1:cs[4]?=some (.slice A' n' cap'))(h2:y7 w A' n' G)(f2:A'=none->cap'=0)(hT:zY w B m T)(hv:v.size<=16)(hG:G.length<=100000)(hm:m<=100000) :
  Calls Tryz.prog 146 #[.pointer (some ⟨g,3,none⟩),.string v,.slice B m c] w λe w'=>∃A3 f,e=.returned (.int .i64 0)/\w'.heap[g]?=some (.cells (cs.setIfInBounds 4 (.slice A3 (n'+m) f)) 69 (0,0))/\Own w' w.heap.size 218 33 A3 (n'+m) f ((G++T.map λt=>(⟨t,v⟩:yH)).map zH)/\z6 [g] w w':=by
 have a9:g<w.heap.size:=(aG hg).1;have hn:=h2.len;have Hn:=dH hn;have b3:n'<=100000:=oM;have a4:=hT.len;have HT:=dH a4;clear hn a4;have b0:w.cell? ⟨g,4,none⟩=some (.slice A' n' cap'):=by rw[cell_of_row w g 4 _ _ _ hg];exact a1
 have a3:Below w.heap.size w (w.alloc (.cells #[] 218)):=bA;have A:=Own.empty w w.heap.size 218 33 lR;have Z:y7 (w.alloc (.cells #[] 218)) A' n' G:=SlR.below h2 a3;go_enter Tryz.func146,Tryz.ntmps146
 go_upto_region 4 with(at_builtin;refine yD q5 rfl A rfl Z f2 (YP G) oM oM sI ?_;intro A2 X w2 r a0 D)
 simp only[Nat.zero_add,List.nil_append]at r;have b2:Below w.heap.size w w2:=a3.trans (a0.below sI (by simp[blk]));clear A Z a0 D b0;(go_wp2_with fail);go_loopw [7,8] (λl i wr=>∃(k:Nat) (A3:Option Addr) (f:Nat),k<=m/\i=.int .i64 k/\l=.slice A3 (n'+k) f/\Own wr w.heap.size 218 33 A3 (n'+k) f ((G++(T.take k).map λt=>(⟨t,v⟩:yH)).map zH)/\Below w.heap.size w wr) (λ_ i _=>m-(intOf i).toNat)
 case atStart=>exact⟨0,A2,X,zL,rfl,rfl,by simpa using r,b2⟩
 case round =>
  obtain⟨k,A3,f,hk,rfl,rfl,j,hb⟩:=hrel;by_cases J:k<m
  ·obtain⟨q,o,rfl,hr⟩:=zY.get (SlR.below hT hb) J (by rw[HT.out];exact J);have N:T.take (k+1)=T.take k ++ [T[k]'(by rw[HT.out];exact J)]:=by rw[List.take_add_one,List.getElem?_eq_getElem (by rw[HT.out];exact J)];rfl
   obtain⟨d,hd⟩:=eX (T[k]'(by rw[HT.out];exact J))
   rw[hd]at hr N;have s:(G++(T.take (k+1)).map λt=>(⟨t,v⟩:yH)).map zH=(G++(T.take k).map λt=>(⟨t,v⟩:yH)).map zH ++ [zH ⟨d,v⟩]:=by rw[N];simp
   have M:=dH s;clear hd N s;have a5:=hb.size;have a2:Below wr.heap.size wr (wr.alloc (.cells (zH ⟨d,v⟩) 218)):=bA;have I:=j.below a2;have E:z7 (wr.alloc (.cells (zH ⟨d,v⟩) 218)) wr.heap.size 0 33=some (zH ⟨d,v⟩):=by simp[go_sem]
   go_wp2_with (at_builtin;refine yM q5 rfl I rfl E (j5 _) oM oM sO ?_;intro A4 V w4 F a8 Y)
   have b1:Below w.heap.size w w4:=hb.trans ((a2.mono a5).trans (a8.below (B:=w.heap.size) sO λy hy=>(j.at_base hy).1));(go_wp2_with fail);go_roundw
   case rel=>exact⟨k+1,A4,V,oM,by go_num,by rw[Nat.add_assoc],by rw[M.out,<-Nat.add_assoc];exact F,b1⟩
   case measure=>exact sZ
  ·have a6:k=m:=oM;subst a6;have U:T.take k=T:=List.take_of_length_le (by rw[HT.out];omega);rw[U]at j;have O:wr.heap[g]?=some (.cells cs 69 (0,0)):=(hb.block g a9).trans hg;have b5:wr.cell? ⟨g,4,none⟩=some (.slice A' n' cap'):=by rw[cell_of_row wr g 4 _ _ _ O];exact a1
   have b4:wr.frozen? ⟨g,4,none⟩=false:=by simp[World.frozen?,O]
   have H:=j.kept (z6.setCell wr ⟨g,4,none⟩ (.slice A3 (n'+k) f)) (λx hx=>oS ((j.at_base hx).1));have a7:z6 [] w wr:=z6.of_below hb;have R:(wr.setCell ⟨g,4,none⟩ (.slice A3 (n'+k) f)).heap[g]?=some (.cells (cs.setIfInBounds 4 (.slice A3 (n'+k) f)) 69 (0,0)):=zA O 4 _;have L:z6 [g] w (wr.setCell ⟨g,4,none⟩ (.slice A3 (n'+k) f)):=z6.trans (a7.mono (S':=[g]) sI) (z6.setCell wr ⟨g,4,none⟩ _) sI;clear j U r;(go_wp2_with fail);go_ret;exact⟨A3,f,rfl,R,H,L⟩
abbrev OwnW(w:World)(B:Nat)(A:Option Addr)(cap:Nat)(R:List ByteArray):Prop:=Own w B 98 2 A R.length cap (R.map fI)
theorem OwnW.get{w:World}{A:Option Addr}{n:Nat}{R:List ByteArray}(h:SlR w A n 2 (R.map fI)){i:Nat}(hi:i<n)(hR:i<R.length) :
  ∃g o,A=some ⟨g,o,none⟩/\w.cell? ⟨g,o+i*2,none⟩=some (.string R[i]):=by
 obtain⟨g,o,e,hr⟩:=SlR.at_ h hi;rw[List.getElem_map]at hr;refine⟨g,o,e,?_⟩;have:=z8 hr (j:=0) oM;unfold fI at this
 rwa [rG]at this
def RefI3(w:World)(g:Nat)(X G:List yH):Prop :=
 ∃A n cap A' n' cap',w.cell? ⟨g,3,none⟩=some (.slice A n cap)/\w.cell? ⟨g,4,none⟩=some (.slice A' n' cap')/\y7 w A n X/\y7 w A' n' G
theorem rlive3(w:World)(g:Nat)(X G:List yH)(h:RefI3 w g X G)(hX:X.length<=100000)(hG:G.length<=100000) :
  Calls Tryz.prog 150 #[.pointer (some ⟨g,3,none⟩)] w λe w'=>∃A cap,e=.returned (.slice A (wJ X G).length cap)/\OwnR w' w.heap.size A cap (wJ X G)/\Below w.heap.size w w':=by
 obtain⟨A,n,cap,A',n',cap',a8,T,h1,h2⟩:=h;have hn:=h1.len;have a0:=h2.len;have a5:(yB yG X).length<=100000:=Nat.le_trans (xF X) hX;have c1:=rsorted w A n cap X h1 oM;have R:wJ X G=(yB yG X).filter λx=>decide (x∉G):=rfl;obtain⟨Z,hZ⟩:=eX (yB yG X)
 rw[hZ]at c1 a5 R;have b4:=dH R;have b8:=dH a0;have b7:n'<=100000:=oM;clear R hZ hn a0;go_enter Tryz.func150,Tryz.ntmps150
 (go_wp2_with fail);refine c1.mono ?_;rintro e w1 ⟨ZA,zc,rfl,r,M⟩;have N:y7 w1 ZA Z.length Z:=r.slr;have a2:w1.cell? ⟨g,4,none⟩=some (.slice A' n' cap'):=(M.cell (p:=⟨g,4,none⟩) (World.block_lt_of_cell? w _ T)).trans T;have b3:y7 w1 A' n' G:=SlR.below h2 M;clear r c1 a8 T;(go_wp2_with fail);go_loopw [3,5] (λout i wr=>∃(k:Nat) (A1:Option Addr) (j:Nat),k<=Z.length/\i=.int .i64 k/\out=.slice A1 ((Z.take k).filter λx=>decide (x∉G)).length j/\OwnR wr w1.heap.size A1 j ((Z.take k).filter λx=>decide (x∉G))/\Below w1.heap.size w1 wr) (λ_ i _=>Z.length-(intOf i).toNat)
 case atStart=>exact⟨0,none,0,zL,rfl,rfl,Own.nil _ _ _ _,Below.refl _ _⟩
 case round =>
  obtain⟨k,A1,j,hk,rfl,rfl,d,hb⟩:=hrel;by_cases J:k<Z.length
  ·obtain⟨q,o,rfl,hr,_,_⟩:=y7.get (SlR.below N hb) J J;have L:wr.cell? ⟨g,4,none⟩=some (.slice A' n' cap'):=(hb.cell (p:=⟨g,4,none⟩) (World.block_lt_of_cell? w1 _ a2)).trans a2;have b0:y7 wr A' n' G:=SlR.below b3 hb;have m:=VN (λx=>decide (x∉G)) Z k J;have a7:((Z.take k).filter λx=>decide (x∉G)).length<=100000:=by
    have:=List.length_filter_le (λx=>decide (x∉G)) (Z.take k);rw[List.length_take]at this;omega
   obtain⟨x,hx⟩:=eX (Z[k]'J)
   rw[hx]at hr m;obtain⟨F,hF⟩:∃F,(Z.take k).filter (λx=>decide (x∉G))=F:=⟨_,rfl⟩
   rw[hF]at d a7 m |-;have HF:=dH hF;clear hx hF;have b5:=hb.size;have c2:=rin wr.drew A' n' cap' G x b0 oM;by_cases t:x∈G
   ·rw[decide_eq_true t]at c2;rw[if_neg (by simp[t])]at m;have I:=dH m;clear m t;go_upto_region 6 with fail
    refine lX wr ?_;intro O hS;have b1:=zU hr;have b2:=zJ L;refine lZ ?_;refine lC (c2) ?_;clear hS;intro w' hS;refine lZ ?_;refine zC ?_;intro hS;have s:Below wr.heap.size wr w':=hS;have V:=yE hb s;have f:=d.below s;clear b1 b2 O hS c2 hr L d;(go_wp2_with fail);go_roundw
    case rel=>exact⟨k+1,A1,j,oM,by go_num,by rw[I.out],by rw[I.out];exact f,V⟩
    case measure=>exact sZ
   ·rw[decide_eq_false t]at c2;rw[if_pos (by simp[t])]at m;have I:=dH m;clear m t;go_upto_region 6 with fail
    refine lX wr ?_;intro O hS;have b1:=zU hr;have b2:=zJ L;refine lZ ?_;refine lC (c2) ?_;clear hS;intro w' hS;refine lZ ?_;refine zC ?_;intro hS;have s:Below wr.heap.size wr w':=hS;have V:=yE hb s;have f:=d.below s;have b6:z7 w' q (o+k*33) 33=some (zH x):=(z9 (s.block q (zD hr)) _ _).trans hr;have a4:=s.size;clear b1 b2 O hS c2 hr L d;have a3:Below w'.heap.size w' (w'.alloc (.cells (zH x) 218)):=bA;have H:=f.below a3;have D:z7 (w'.alloc (.cells (zH x) 218)) w'.heap.size 0 33=some (zH x):=by simp[go_sem]
    go_wp2_with (at_builtin;refine yM q5 rfl H rfl D (j5 _) oM oM sO ?_;intro A2 Y w2 E a6 U)
    have a9:Below w1.heap.size w1 w2:=V.trans ((a3.mono oM).trans (a6.below (B:=w1.heap.size) sO λy hy=>(f.at_base hy).1));(go_wp2_with fail);go_roundw
    case rel=>exact⟨k+1,A2,Y,oM,by go_num,by rw[I.out];simp,by rw[I.out];show Own _ _ _ _ _ _ _ _;rw[List.map_append,List.length_append];exact E,a9⟩
    case measure=>exact sZ
  ·have a1:Z.take k=Z:=List.take_of_length_le oM;rw[a1,<-b4.out]at d |-;clear a1;obtain⟨F,hF⟩:=eX (wJ X G)
   rw[hF]at d |-;have HF:=dH hF;clear hF;(go_wp2_with fail);go_ret;exact⟨A1,j,by rw[HF.out];rfl,by rw[HF.out];exact d.mono M.size,yE M hb⟩
theorem rlist3(w:World)(g:Nat)(X G:List yH)(h:RefI3 w g X G)(hX:X.length<=100000)(hG:G.length<=100000) :
  Calls Tryz.prog 74 #[.pointer (some ⟨g,3,none⟩)] w λe w'=>∃A cap,e=.returned (.slice A (vG (wJ X G)).length cap)/\OwnW w' w.heap.size A cap (vG (wJ X G))/\Below w.heap.size w w':=by
 have c1:=rlive3 w g X G h hX hG;have f5:=jk X G;obtain⟨Z,hZ⟩:=eX (wJ X G)
 rw[hZ]at c1 f5 |-;clear hZ h;go_enter Tryz.func74,Tryz.ntmps74
 (go_wp2_with fail);refine c1.mono ?_;rintro e w1 ⟨RA,rc,rfl,c8,f2⟩;have d6:y7 w1 RA Z.length Z:=c8.slr;clear c8 c1;(go_wp2_with fail);go_loopw [3,5] (λout i wr=>∃(k:Nat) (A1:Option Addr) (s:Nat),k<=Z.length/\i=.int .i64 k/\out=.slice A1 (vG (Z.take k)).length s/\OwnW wr w1.heap.size A1 s (vG (Z.take k))/\Below w1.heap.size w1 wr) (λ_ i _=>Z.length-(intOf i).toNat)
 case atStart=>exact⟨0,none,0,zL,rfl,rfl,Own.nil _ _ _ _,Below.refl _ _⟩
 case round =>
  obtain⟨k,A1,s,hk,rfl,rfl,D,hb⟩:=hrel;by_cases d1:k<Z.length
  ·obtain⟨q,o,rfl,_,_,d8⟩:=y7.get (SlR.below d6 hb) d1 d1;have d4:=BQ Z k d1;have f4:(vG (Z.take k)).length<=1000000:=by have:=sQ (Z.take k);simp at this;omega
   have c9:Ris xY (vG (Z.take k)):=xJ sA _;obtain⟨O,hO⟩:=eX (vG (Z.take k))
   obtain⟨x,hx⟩:=eX ((Z[k]'d1).val)
   rw[hx]at d8 d4;rw[hO]at d4 f4 D c9 |-;have c2:=dH d4;clear hx hO d4;obtain⟨WR,rfl⟩:∃WR,WR=wr:=⟨wr,rfl⟩
   have d7:SlR WR A1 O.length 2 (O.map fI):=D.slr;(go_wp2_with fail);go_loopw [6] (λj wj=>∃m:Nat,m<=O.length/\j=.int .i64 m/\Hid (∀i (hi:i<O.length),i<m->xY O[i] x<0)/\Below WR.heap.size WR wj) (λj _=>O.length-(intOf j).toNat)
   case atStart=>exact⟨0,zL,rfl,(show ∀i (hi:i<O.length),i<0->_ from λi _ h=>absurd h oM),Below.refl _ _⟩
   case round =>
    obtain⟨m,c0,rfl,b5,a4⟩:=hrel;have a0:wr.cell? ⟨q,o+k*33+32,none⟩=some (.string x):=(a4.cell (p:=⟨q,o+k*33+32,none⟩) (World.block_lt_of_cell? WR _ d8)).trans d8;by_cases R:m<O.length
    ·obtain⟨g2,og,rfl,a3⟩:=OwnW.get (SlR.below d7 a4) R R;obtain rfl:og=0:=by
      rcases D.addr with e | ⟨g',e⟩
      ·cases e
      ·injection e with e;injection e
     rw[Nat.zero_add]at a3;have b4:O[m]∈O:=List.getElem_mem _;obtain⟨y,hy⟩:=eX (O[m]'R)
     rw[hy]at a3 b4;have Hy:=dH hy;have e9:=dH b4;clear hy b4;cases hbl:Z6 y x with
     | true =>
      have a1:Op.bytesLess y.toList x.toList=true:=hbl;have c3:xY y x<0:=by have:=kD y x;rw[hbl]at this;simpa using this.symm
      have f7:=dH c3;clear c3 hbl;go_upto_region 7 with fail
      refine lX wr ?_;intro N hS;have b1:=zJ a0;have b2:=zJ a3;refine lZ ?_;refine zC ?_;intro hS;clear b1 b2 N hS a1;(go_wp2_with fail);go_roundw
      case rel =>
       refine⟨m+1,oM,by go_num,(show ∀i (hi:i<O.length),i<m+1->xY O[i] x<0 from λi hi d1=>?_),a4.drew⟩;by_cases e:i=m
       ·subst e;rw[Hy.out];exact f7.out
       ·exact b5.out i hi oM
      case measure=>exact sZ
     | false =>
      have a1:Op.bytesLess y.toList x.toList=false:=hbl;have c3:¬xY y x<0:=by have:=kD y x;rw[hbl]at this;simpa using this.symm
      by_cases he:y=x
      ·have a5:=tV sA c9 (x:=x) (by rw[<-he];exact e9.out);have a6:=dH a5;have h1:(y.toList==x.toList)=true:=by rw[he];simp
       clear a5 c3 he hbl;go_upto_region 7 with fail
       refine lX wr ?_;intro N hS;have b1:=zJ a0;have b2:=zJ a3;refine lZ ?_;refine zC ?_;intro hS;clear b1 b2 N hS a1;go_upto_region 9 with fail
       refine lX wr.drew ?_;intro N hS;have b1:=zJ (W:=wr.drew) a0;have b2:=zJ (W:=wr.drew) a3;refine lZ ?_;refine zC ?_;intro hS;clear b1 b2 N hS h1;have U:=a4.drew.drew;have d0:=D.below U;have f6:=hb.trans (U.mono hb.size);(go_wp2_with fail);go_roundw
       case rel=>exact⟨k+1,_,s,oM,by go_num,by rw[c2.out,a6.out],by rw[c2.out,a6.out];exact d0,f6⟩
       case measure=>exact sZ
      ·have a5:=vE (c:=xY) O x m c0 b5.out (λf1=>by
        rw[Hy.out];have h1:xY y x≠0:=λe=>he ((sA.zero _ _).1 e);omega)
       have a6:=dH a5;have h1:(y.toList==x.toList)=false:=by rw[beq_eq_false_iff_ne];exact λe=>he (toList_inj.1 e)
       clear a5 c3 he hbl;go_upto_region 7 with fail
       refine lX wr ?_;intro N hS;have b1:=zJ a0;have b2:=zJ a3;refine lZ ?_;refine zC ?_;intro hS;clear b1 b2 N hS a1;go_upto_region 9 with fail
       refine lX wr.drew ?_;intro N hS;have b1:=zJ (W:=wr.drew) a0;have b2:=zJ (W:=wr.drew) a3;refine lZ ?_;refine zC ?_;intro hS;clear b1 b2 N hS h1;have U:=a4.drew.drew;have d:=D.below U;have a2:=hb.trans (U.mono hb.size);have b3:wr.drew.drew.cell? ⟨q,o+k*33+32,none⟩=some (.string x):=a0;clear a3 a0 a4 U d7 D;obtain⟨W,hW⟩:=eX wr.drew.drew
       rw[hW]at d a2 b3 |-;clear hW;obtain⟨A1,f3⟩:=eX (some ⟨g2,0,none⟩:Option Addr)
       rw[f3]at d |-;clear f3;have I:=Own.empty W W.heap.size 98 2 lR;have b7:Below W.heap.size W (W.alloc (.cells #[] 98)):=bA;have J:=d.cap_le;have d9:∀w0:World,(slS 23 (.slice A1 O.length s) none (some (.int .i64 m)) none).run Tryz.prog w0=.ok (.slice A1 m s) w0:=λw0=>dY yP w0 A1 O.length s m oM;obtain⟨Ah,ch,e4,e3,e5⟩:=d.hi (P:=Tryz.prog) yP (m:=m) c0;have T:SlR (W.alloc (.cells #[] 98)) A1 m 2 ((O.map fI).take m):=(d.below b7).slr.take_ c0;have e6:A1=none->s=0:=λe=>(J.2 e).2;have V:∀r∈(O.map fI).take m,∀u∈r.toList,u.oneCell'=true:=λr hr=>(by obtain⟨y',_,rfl⟩:=List.mem_map.1 (List.mem_of_mem_take hr);exact n8 _);have M:∀r∈(O.map fI).drop m,∀u∈r.toList,u.oneCell'=true:=λr hr=>(by obtain⟨y',_,rfl⟩:=List.mem_map.1 (List.mem_of_mem_drop hr);exact n8 _);go_upto_region 11 with(at_builtin;refine yD yP rfl I rfl T e6 V oM oM sI ?_;intro A2 e8 w2 f e2 c6)
       simp only[Nat.zero_add,List.nil_append]at f;have a8:Below W.heap.size W w2:=b7.trans (e2.below sI (by simp[blk]));have b0:w2.cell? ⟨q,o+k*33+32,none⟩=some (.string x):=(a8.cell (p:=⟨q,o+k*33+32,none⟩) (World.block_lt_of_cell? W _ b3)).trans b3;have b8:Below w2.heap.size w2 (w2.alloc (.cells (zS ⟨x,⟨#[]⟩⟩) 98)):=bA;have H:=f.below b8;have E:z7 (w2.alloc (.cells (zS ⟨x,⟨#[]⟩⟩) 98)) w2.heap.size 0 2=some (zS ⟨x,⟨#[]⟩⟩):=by simp[go_sem]
       have a9:=a8.size;go_upto_region 12 with(at_builtin;refine yM yP rfl H rfl E (qD _) oM oM sO ?_;intro A4 e7 w4 B e1 c5)
       have L:Below W.heap.size W w4:=(a8.trans (b8.mono a9)).trans (e1.below sO (λx hx=>(f.at_base hx).1));have c7:=e3 w4 ((d.below L).slr);have d5:=L.size;clear H E b8 I b7 T b0 d9 J;go_upto_region 13 with(at_builtin;refine yD yP rfl B rfl c7 e5 M oM oM oM ?_;intro A5 b9 w5 t e0 c4)
       have a7:Below W.heap.size W w5:=L.trans (e0.below oM (λx hx=>(B.at_base hx).1));have b6:=a2.trans (a7.mono a2.size);have d2:(O.map fI).take m ++ [zS ⟨x,⟨#[]⟩⟩]++(O.map fI).drop m=(vG (Z.take (k+1))).map fI:=by rw[c2.out,a6.out];simp[List.map_take,List.map_drop,fI,nY]
       have d3:(vG (Z.take (k+1))).length=m+1+(O.length-m):=by rw[c2.out,a6.out];simp;omega
       rw[d2]at t;have Y:=t.mono a2.size;have HL:=dH d3;clear t B f d2 d3 c7 e4;(go_wp2_with fail);go_roundw
       case rel=>exact⟨k+1,A5,b9,oM,by go_num,(by rw[HL.out]),(show Own _ _ _ _ _ _ _ _ by rw[HL.out];exact Y),b6⟩
       case measure=>exact sZ
    ·have hd:decide (m<O.length)=false:=by simpa using R
     have a5:=vE (c:=xY) O x m c0 b5.out (λf1=>absurd f1 R);have a6:=dH a5;clear a5;go_upto_region 7 with fail
     refine lX wr ?_;intro N hS;refine lZ ?_;refine zC ?_;intro hS;clear N hS;go_upto_region 9 with fail
     refine lX wr.drew ?_;intro N hS;refine lZ ?_;refine zC ?_;intro hS;clear N hS hd;have U:=a4.drew.drew;have d:=D.below U;have a2:=hb.trans (U.mono hb.size);have b3:wr.drew.drew.cell? ⟨q,o+k*33+32,none⟩=some (.string x):=a0;clear a0 a4 U d7 D R;obtain⟨W,hW⟩:=eX wr.drew.drew
     rw[hW]at d a2 b3 |-;clear hW;have I:=Own.empty W W.heap.size 98 2 lR;have b7:Below W.heap.size W (W.alloc (.cells #[] 98)):=bA;have J:=d.cap_le;have d9:∀w0:World,(slS 23 (.slice A1 O.length s) none (some (.int .i64 m)) none).run Tryz.prog w0=.ok (.slice A1 m s) w0:=λw0=>dY yP w0 A1 O.length s m oM;obtain⟨Ah,ch,e4,e3,e5⟩:=d.hi (P:=Tryz.prog) yP (m:=m) c0;have T:SlR (W.alloc (.cells #[] 98)) A1 m 2 ((O.map fI).take m):=(d.below b7).slr.take_ c0;have e6:A1=none->s=0:=λe=>(J.2 e).2;have V:∀r∈(O.map fI).take m,∀u∈r.toList,u.oneCell'=true:=λr hr=>(by obtain⟨y',_,rfl⟩:=List.mem_map.1 (List.mem_of_mem_take hr);exact n8 _);have M:∀r∈(O.map fI).drop m,∀u∈r.toList,u.oneCell'=true:=λr hr=>(by obtain⟨y',_,rfl⟩:=List.mem_map.1 (List.mem_of_mem_drop hr);exact n8 _);go_upto_region 11 with(at_builtin;refine yD yP rfl I rfl T e6 V oM oM sI ?_;intro A2 e8 w2 f e2 c6)
     simp only[Nat.zero_add,List.nil_append]at f;have a8:Below W.heap.size W w2:=b7.trans (e2.below sI (by simp[blk]));have b0:w2.cell? ⟨q,o+k*33+32,none⟩=some (.string x):=(a8.cell (p:=⟨q,o+k*33+32,none⟩) (World.block_lt_of_cell? W _ b3)).trans b3;have b8:Below w2.heap.size w2 (w2.alloc (.cells (zS ⟨x,⟨#[]⟩⟩) 98)):=bA;have H:=f.below b8;have E:z7 (w2.alloc (.cells (zS ⟨x,⟨#[]⟩⟩) 98)) w2.heap.size 0 2=some (zS ⟨x,⟨#[]⟩⟩):=by simp[go_sem]
     have a9:=a8.size;go_upto_region 12 with(at_builtin;refine yM yP rfl H rfl E (qD _) oM oM sO ?_;intro A4 e7 w4 B e1 c5)
     have L:Below W.heap.size W w4:=(a8.trans (b8.mono a9)).trans (e1.below sO (λx hx=>(f.at_base hx).1));have c7:=e3 w4 ((d.below L).slr);have d5:=L.size;clear H E b8 I b7 T b0 d9 J;go_upto_region 13 with(at_builtin;refine yD yP rfl B rfl c7 e5 M oM oM oM ?_;intro A5 b9 w5 t e0 c4)
     have a7:Below W.heap.size W w5:=L.trans (e0.below oM (λx hx=>(B.at_base hx).1));have b6:=a2.trans (a7.mono a2.size);have d2:(O.map fI).take m ++ [zS ⟨x,⟨#[]⟩⟩]++(O.map fI).drop m=(vG (Z.take (k+1))).map fI:=by rw[c2.out,a6.out];simp[List.map_take,List.map_drop,fI,nY]
     have d3:(vG (Z.take (k+1))).length=m+1+(O.length-m):=by rw[c2.out,a6.out];simp;omega
     rw[d2]at t;have Y:=t.mono a2.size;have HL:=dH d3;clear t B f d2 d3 c7 e4;(go_wp2_with fail);go_roundw
     case rel=>exact⟨k+1,A5,b9,oM,by go_num,(by rw[HL.out]),(show Own _ _ _ _ _ _ _ _ by rw[HL.out];exact Y),b6⟩
     case measure=>exact sZ
  ·have f0:Z.take k=Z:=List.take_of_length_le oM;rw[f0]at D |-;clear f0;obtain⟨F,hF⟩:=eX (vG Z)
   rw[hF]at D |-;have HF:=dH hF;clear hF;(go_wp2_with fail);go_ret;exact⟨A1,s,by rw[HF.out];rfl,by rw[HF.out];exact D.mono f2.size,yE f2 hb⟩
section
open Go.RowKit
def wR(m:yW)(o:OpV)(x:RV):RV :=
 if o.k=1 then { x with tal:=wrap64 (x.tal+o.n) }
 else if o.k=2 then { x with adds:=x.adds ++ [⟨m.id,o.val⟩] }
 else if o.k=3 then { x with gone:=x.gone++o.refs.map λt=>⟨t,o.val⟩ }
 else if o.k=4 then { x with last:=x.last ++ [⟨o.key,o.val,o.n,m.id⟩] }
 else if o.k=5 then { x with mL:=x.mL ++ [⟨m.id,o.key,o.val⟩],mO:=yB zI (x.mO++o.refs) }
 else if o.k=6 then { x with sL:=mJ x.sL ⟨m.id,m.h,o.ref,o.val⟩ }
 else { x with sG:=xS zI x.sG o.ref }
theorem zn(m:yW)(x:RV):iJ m x=wR m (oOf m) x:=rfl
def RV.len(x:RV):Nat:=x.adds.length+x.gone.length+x.last.length+x.mL.length+x.mO.length+x.sL.length+x.sG.length
theorem insN_len(N:List zO)(n:zO):(mJ N n).length<=N.length+1:=by
 unfold mJ;have:=jV (c:=tY) N n
 repeat' split
 all_goals omega
theorem rdoO_len(m:yW)(o:OpV)(x:RV)(h:o.refs.length<=8):(wR m o x).len<=x.len+9:=by
 unfold wR;split
 ·exact Nat.le_add_right _ _
 split
 ·unfold RV.len;simp;omega
 split
 ·unfold RV.len;simp;omega
 split
 ·unfold RV.len;simp;omega
 split
 ·have:=xF (c:=zI) (x.mO++o.refs);unfold RV.len;simp at this |-;omega
 split
 ·have:=insN_len x.sL ⟨m.id,m.h,o.ref,o.val⟩;unfold RV.len;simp only;omega
 ·have:=jV (c:=zI) x.sG o.ref;unfold RV.len;simp only;omega
structure mV(x:RV):Prop where
 adds:∀r∈x.adds,small r
 gone:∀r∈x.gone,small r
 last:∀r∈x.last,qC r.key (vL r)=0
 mL:∀r∈x.mL,r.key.size<=16/\r.val.size<=16
 mO:Ris zI x.mO
 sL:jZ x.sL
 sG:Ris zI x.sG
theorem rvOk0:mV rv0:=⟨by simp[rv0],by simp[rv0],by simp[rv0],by simp[rv0],Ris.nil,jZ.nil,Ris.nil⟩
theorem rdoS_ok{m:yW}{x:RV}(h:mV x)(he:opE m.body.data.toList=0):mV (iJ m x):=by
 have ho:wF (oOf m)/\1<=(oOf m).k/\(oOf m).k<=7/\(oOf m).key.size<=16/\(oOf m).val.size<=16/\(oOf m).refs.length<=8/\vO (oOf m).refs=true/\(oOf m).n<2147483648:=lM _ he;have hv:=ho.2.2.2.2.1;unfold iJ;split
 ·exact⟨h.adds,h.gone,h.last,h.mL,h.mO,h.sL,h.sG⟩
 split
 ·exact⟨λr hr=>by
   rcases List.mem_append.1 hr with hr | hr
   ·exact h.adds r hr
   ·have e:r=⟨m.id,(oOf m).val⟩:=by simpa using hr
    rw[e];exact hv,h.gone,h.last,h.mL,h.mO,h.sL,h.sG⟩
 split
 ·exact⟨h.adds,λr hr=>by
   rcases List.mem_append.1 hr with hr | hr
   ·exact h.gone r hr
   ·obtain⟨t,_,rfl⟩:=List.mem_map.1 hr;exact hv,h.last,h.mL,h.mO,h.sL,h.sG⟩
 split
 ·rename_i h4
  exact⟨h.adds,h.gone,λr hr=>by
   rcases List.mem_append.1 hr with hr | hr
   ·exact h.last r hr
   ·have e:r=XZ m:=by simpa using hr
    rw[e];exact X8 he h4,h.mL,h.mO,h.sL,h.sG⟩
 split
 ·exact⟨h.adds,h.gone,h.last,λr hr=>by
   rcases List.mem_append.1 hr with hr | hr
   ·exact h.mL r hr
   ·have e:r=iD m:=by simpa using hr
    rw[e];exact⟨ho.2.2.2.1,hv⟩,xJ q6 _,h.sL,h.sG⟩
 split
 ·exact⟨h.adds,h.gone,h.last,h.mL,h.mO,h.sL.ins _,h.sG⟩
 ·exact⟨h.adds,h.gone,h.last,h.mL,h.mO,h.sL,vA q6 h.sG⟩
theorem qh{t:ByteArray}{m:yW}{x:RV}(h:mV x):mV (fW t m x):=by
 unfold fW;split
 ·rename_i hf;exact rdoS_ok h hf.1
 ·exact h
theorem B2(t:ByteArray)(m:yW)(x:RV):(fW t m x).len<=x.len+9:=by
 unfold fW;split
 ·rename_i hf;rw[zn];exact rdoO_len _ _ _ (lM _ hf.1).2.2.2.2.2.1
 ·omega
def SlX(w:World)(g:Nat)(s:Sl)(k:Nat)(R:List (Array Value)):Prop:=SlW w s.A s.n s.c k R/\g∉blk s.A
theorem SlX.below{w w':World}{g:Nat}{s:Sl}{k:Nat}{R:List (Array Value)}(h:SlX w g s k R)(hb:Below w.heap.size w w'):SlX w' g s k R:=⟨h.1.below hb,h.2⟩
theorem SlX.keep{w w':World}{g:Nat}{s:Sl}{k:Nat}{R:List (Array Value)}(h:SlX w g s k R)(hk:z6 [g] w w'):SlX w' g s k R:=⟨h.1.kept hk (λx hx hm=>h.2 (by simp at hm;rw[<-hm];exact hx)),h.2⟩
def rvC(t:ByteArray)(si:Sl)(tal:Int)(sa sg sl sm so ss sd:Sl):Array Value:=#[.string t,slV si,.int .i64 tal,slV sa,slV sg,slV sl,slV sm,slV so,slV ss,slV sd]
structure nJ(w:World)(g:Nat)(t:ByteArray)(I:List zE)(x:RV)(si sa sg sl sm so ss sd:Sl):Prop where
 hp:w.heap[g]?=some (.cells (rvC t si x.tal sa sg sl sm so ss sd) 69 (0,0))
 ids:SlX w g si 32 (I.map idC)
 adds:SlX w g sa 33 (x.adds.map zH)
 gone:SlX w g sg 33 (x.gone.map zH)
 last:SlX w g sl 35 (x.last.map y4)
 mL:SlX w g sm 34 (x.mL.map zF)
 mO:SlX w g so 32 (x.mO.map idC)
 sL:SlX w g ss 66 (x.sL.map yL)
 sG:SlX w g sd 32 (x.sG.map idC)
def qV(w:World)(g:Nat)(t:ByteArray)(I:List zE)(x:RV):Prop:=∃si sa sg sl sm so ss sd,nJ w g t I x si sa sg sl sm so ss sd
section
variable {w w':World} {g:Nat} {t:ByteArray} {I:List zE} {x:RV} {si sa sg sl sm so ss sd:Sl}
theorem nJ.lt(h:nJ w g t I x si sa sg sl sm so ss sd):g<w.heap.size:=(aG h.hp).1
theorem nJ.below(h:nJ w g t I x si sa sg sl sm so ss sd)(k:Below w.heap.size w w'):nJ w' g t I x si sa sg sl sm so ss sd :=
 ⟨(k.block g h.lt).trans h.hp,h.ids.below k,h.adds.below k,h.gone.below k,h.last.below k,h.mL.below k,h.mO.below k,h.sL.below k,h.sG.below k⟩
theorem nJ.cell(h:nJ w g t I x si sa sg sl sm so ss sd)(j:Nat){v:Value}(hv:(rvC t si x.tal sa sg sl sm so ss sd)[j]?=some v):w.cell? ⟨g,j,none⟩=some v:=by
 rw[cell_of_row w g j _ _ _ h.hp];exact hv
theorem qV.below(h:qV w g t I x)(k:Below w.heap.size w w'):qV w' g t I x:=by
 obtain⟨si,sa,sg,sl,sm,so,ss,sd,h⟩:=h;exact⟨si,sa,sg,sl,sm,so,ss,sd,h.below k⟩
theorem qV.lt(h:qV w g t I x):g<w.heap.size:=by
 obtain⟨si,sa,sg,sl,sm,so,ss,sd,h⟩:=h;exact h.lt
theorem nJ.lens(h:nJ w g t I x si sa sg sl sm so ss sd):x.adds.length=sa.n/\x.gone.length=sg.n/\x.last.length=sl.n/\x.mL.length=sm.n/\x.mO.length=so.n/\x.sL.length=ss.n/\x.sG.length=sd.n:=by
 refine⟨?_,?_,?_,?_,?_,?_,?_⟩
 ·simpa using h.adds.1.len
 ·simpa using h.gone.1.len
 ·simpa using h.last.1.len
 ·simpa using h.mL.1.len
 ·simpa using h.mO.1.len
 ·simpa using h.sL.1.len
 ·simpa using h.sG.1.len
theorem nJ.set{x':RV}{d sa' sg' sl' sm' so' ss' sd':Sl}(h:nJ w g t I x si sa sg sl sm so ss sd)(hk:z6 [g] w w')
  (hp:w'.heap[g]?=some (.cells (rvC t d x'.tal sa' sg' sl' sm' so' ss' sd') 69 (0,0)))(hi:SlX w g si 32 (I.map idC)->SlX w' g d 32 (I.map idC))
  (h1:(SlX w g sa 33 (x.adds.map zH)->SlX w' g sa' 33 (x'.adds.map zH)))(h2:(SlX w g sg 33 (x.gone.map zH)->SlX w' g sg' 33 (x'.gone.map zH)))
  (h3:(SlX w g sl 35 (x.last.map y4)->SlX w' g sl' 35 (x'.last.map y4)))(h4:(SlX w g sm 34 (x.mL.map zF)->SlX w' g sm' 34 (x'.mL.map zF)))
  (h5:(SlX w g so 32 (x.mO.map idC)->SlX w' g so' 32 (x'.mO.map idC)))(h6:(SlX w g ss 66 (x.sL.map yL)->SlX w' g ss' 66 (x'.sL.map yL)))
  (h7:(SlX w g sd 32 (x.sG.map idC)->SlX w' g sd' 32 (x'.sG.map idC))):qV w' g t I x' :=
 ⟨d,sa',sg',sl',sm',so',ss',sd',hp,hi h.ids,h1 h.adds,h2 h.gone,h3 h.last,h4 h.mL,h5 h.mO,h6 h.sL,h7 h.sG⟩
end
end
theorem qU:xH Tryz.prog 61 207 35 72 :=
 .of (z:=.agg (y4 m5)) Tryz.underlying61 kR kR kR (tO _) oM
@[go_sem ↓] theorem bsRow_rw(n:Nat)(parts:Array (Nat×Value)):Instr.buildSlice 61 n parts=bsS 61 n parts:=rfl
@[go_sem] theorem bsRow_run(w:World)(x:Row):(bsS 61 1 #[(0,.agg (y4 x))]).run Tryz.prog w=.ok (.slice (some ⟨w.heap.size,0,none⟩) 1 1) (w.alloc (.cells (y4 x) 207)) :=
 bF qU oM w (y4 x) (tO x)
@[go_sem] theorem bsRow0_run(w:World):(bsS 61 0 #[]).run Tryz.prog w=.ok (.slice (some ⟨w.heap.size,0,none⟩) 0 0) (w.alloc (.cells #[] 207)):=dZ qU w
abbrev OwnLR(w:World)(B:Nat)(A:Option Addr)(cap:Nat)(R:List Row):Prop:=Own w B 207 35 A R.length cap (R.map y4)
theorem rlatest(w:World)(A:Option Addr)(n cap:Nat)(R:List Row)(h:v3 w A n R)(hn:n<=1000000) :
  Calls Tryz.prog 151 #[.slice A n cap] w λe w'=>∃A' cap',e=.returned (.slice A' (q9 R).length cap')/\OwnLR w' w.heap.size A' cap' (q9 R)/\Below w.heap.size w w':=by
 have g2:=v3.len h;go_enter Tryz.func151,Tryz.ntmps151
 (go_wp2_with fail);go_loopw [3,4] (λout i wr=>∃(k:Nat) (A1:Option Addr) (H:Nat),k<=n/\i=.int .i64 k/\out=.slice A1 (q9 (R.take k)).length H/\OwnLR wr w.heap.size A1 H (q9 (R.take k))/\Below w.heap.size w wr) (λ_ i _=>n-(intOf i).toNat)
 case atStart=>exact⟨0,none,0,zL,rfl,rfl,Own.nil _ _ _ _,Below.refl _ _⟩
 case round =>
  obtain⟨k,A1,H,hk,rfl,rfl,T,hb⟩:=hrel;by_cases f0:k<n
  ·obtain⟨q,o,rfl,hr,c7,_,_,_⟩:=v3.get (SlR.below h hb) f0 oM;have e6:q9 (R.take (k+1))=lN (q9 (R.take k)) R[k]:=by
    rw[List.take_add_one,List.getElem?_eq_getElem oM,Option.toList_some,rN]
   have f8:(q9 (R.take k)).length<=1000000:=by have:=mH (R.take k);simp at this;omega
   obtain⟨O,hO⟩:=eX (q9 (R.take k))
   obtain⟨x,hx⟩:=eX (R[k]'oM)
   rw[hx]at hr c7 e6;rw[hO]at e6 f8 T |-;have a8:=dH e6;clear hx hO e6;obtain⟨WR,rfl⟩:∃WR,WR=wr:=⟨wr,rfl⟩
   have f6:v3 WR A1 O.length O:=T.slr;(go_wp2_with fail);go_loopw [5] (λj wj=>∃m:Nat,m<=O.length/\j=.int .i64 m/\Hid (∀i (hi:i<O.length),i<m->xY (O[i]).key x.key<0)/\Below WR.heap.size WR wj) (λj _=>O.length-(intOf j).toNat)
   case atStart=>exact⟨0,zL,rfl,(show ∀i (hi:i<O.length),i<0->_ from λi _ h=>absurd h oM),Below.refl _ _⟩
   case round =>
    obtain⟨m,hm,rfl,c6,e3⟩:=hrel;have V:=(e3.cell (p:=⟨q,o+k*35,none⟩) (World.block_lt_of_cell? WR _ c7)).trans c7;by_cases Y:m<O.length
    ·obtain⟨g,og,rfl,e7,c8,_,_,_⟩:=v3.get (SlR.below f6 e3) Y oM;obtain rfl:og=0:=by
      rcases T.addr with e | ⟨g',e⟩
      ·cases e
      ·injection e with e;injection e
     rw[Nat.zero_add]at e7 c8;obtain⟨y,hy⟩:=eX (O[m]'Y)
     rw[hy]at c8 e7;have Hy:=dH hy;clear hy;cases hbl:Z6 y.key x.key with
     | true =>
      have d4:Op.bytesLess y.key.toList x.key.toList=true:=hbl;go_upto_region 6 with fail
      refine lX wr ?_;intro a7 hS;have b1:=zJ V;have b2:=zJ c8;refine lZ ?_;refine zC ?_;intro hS;clear b1 b2 a7 hS;have e4:xY y.key x.key<0:=by have:=kD y.key x.key;rw[hbl]at this;simpa using this.symm
      have g7:=dH e4;clear e4 hbl d4;(go_wp2_with fail);go_roundw
      case rel =>
       refine⟨m+1,oM,by go_num,(show ∀i (hi:i<O.length),i<m+1->xY (O[i]).key x.key<0 from λi hi f0=>?_),e3.drew⟩;by_cases e:i=m
       ·subst e;rw[Hy.out];exact g7.out
       ·exact c6.out i hi oM
      case measure=>exact sZ
     | false =>
      have d4:Op.bytesLess y.key.toList x.key.toList=false:=hbl;have f3:¬xY y.key x.key<0:=by have:=kD y.key x.key;rw[hbl]at this;simpa using this.symm
      have g8:=dH f3;go_upto_region 6 with fail
      refine lX wr ?_;intro a7 hS;have b1:=zJ V;have b2:=zJ c8;refine lZ ?_;refine zC ?_;intro hS;clear b1 b2 a7 hS f3 hbl d4;have d5:=e3.drew;have b9:=QH O x m oM c6.out (λf2=>by rw[Hy.out];exact g8.out);cases heq:(y.key.toList==x.key.toList)with
      | true =>
       go_upto_region 8 with fail
       refine lX wr.drew ?_;intro a7 hS;have b1:=zJ (W:=wr.drew) V;have b2:=zJ (W:=wr.drew) c8;refine lZ ?_;refine zC ?_;intro hS;clear b1 b2 a7 hS;have f7:z7 wr q (o+k*35) 35=some (y4 x):=(z9 (e3.block q (zD hr)) _ _).trans hr;have c9:=rlater x y wr.drew.drew.drew;go_upto_region 9 with fail
       refine lX wr.drew.drew ?_;intro a7 hS;have b1:=zU (W:=wr.drew.drew) f7;have b2:=zU (W:=wr.drew.drew) e7;refine lZ ?_;refine lC (c9) ?_;clear hS;intro w' hS;refine lZ ?_;refine zC ?_;intro hS;have g5:Below wr.drew.drew.heap.size wr.drew.drew w':=hS;have M:Below WR.heap.size WR w':=d5.drew.trans (g5.mono d5.size);have e5:(O[m]?).map (·.key)=some x.key:=by
        rw[List.getElem?_eq_getElem Y,Hy.out];have:=beq_iff_eq.1 heq;simp[toList_inj.1 this]
       rw[dif_pos ⟨Y,e5⟩]at b9;simp only[Hy.out]at b9;have a9:=dH b9;clear b9 b1 b2 a7 hS c9 heq e5;have I:=T.below M;have c2:z7 w' q (o+k*35) 35=some (y4 x):=(z9 (M.block q (zD hr)) _ _).trans hr;have Z:=hb.trans (M.mono hb.size);cases hlater:pV x y with
       | true =>
        have X:=a9.out;rw[if_pos hlater]at X;obtain⟨w6,g9,E,g3⟩:=YM qU I Y (tO x) (j9 x);have g4:=(T.at_base (x:=g) (by simp[blk])).1;have e8:Below w.heap.size w w6:=Z.trans (g3.below Z.size (by simpa using g4));rw[<-List.map_set,<-X]at E;have f1:O.length=(lN O x).length:=by rw[X,List.length_set]
        have f5:=dH f1;have d9:=dH X;clear X f1;(go_wp2_with fail);go_roundw
        case rel=>exact⟨k+1,_,H,oM,by go_num,(by rw[a8.out,<-f5.out]),(by rw[a8.out];show Own _ _ _ _ _ _ _ _;rw[<-f5.out];exact E),e8⟩
        case measure=>exact sZ
       | false =>
        have X:=a9.out;rw[if_neg (by rw[hlater];simp)]at X;have d9:=dH X;clear X;(go_wp2_with fail);go_roundw
        case rel=>exact⟨k+1,_,H,oM,by go_num,(by rw[a8.out,d9.out]),(by rw[a8.out,d9.out];exact I),Z⟩
        case measure=>exact sZ
      | false =>
       go_upto_region 8 with fail
       refine lX wr.drew ?_;intro a7 hS;have b1:=zJ (W:=wr.drew) V;have b2:=zJ (W:=wr.drew) c8;refine lZ ?_;refine zC ?_;intro hS;clear b1 b2 a7 hS;have e5:¬(m<O.length/\(O[m]?).map (·.key)=some x.key):=by
        rintro⟨_,hh⟩;rw[List.getElem?_eq_getElem Y,Hy.out]at hh;have e1:y.key=x.key:=by simpa using hh
        rw[e1]at heq;simp at heq
       rw[dif_neg e5]at b9;have a9:=dH b9;have M:Below WR.heap.size WR wr.drew.drew:=d5.drew;have I:=T.below M;have c2:z7 wr.drew.drew q (o+k*35) 35=some (y4 x):=(z9 (M.block q (zD hr)) _ _).trans hr;have Z:=hb.trans (M.mono hb.size);clear b9 e5 heq c8 e7 V;generalize wr.drew.drew=W at *;have b8:=I.cap_le.1;have g0:m<=H:=oM;have c5:¬m=H:=oM;have N:∀w',Below W.heap.size W w'->SlR w' (some ⟨g,0,none⟩) m 35 ((O.map y4).take m):=λw' hb=>(I.below hb).slr.take_ (m:=m) oM;have J:∀w',Below W.heap.size W w'->SlR w' (some ⟨g,m*35,none⟩) (O.length-m) 35 ((O.map y4).drop m):=λw' hb=>(by have:=(I.below hb).slr.drop_ (m:=m) oM;rwa [Nat.zero_add]at this);have e0:(some ⟨g,0,none⟩:Option Addr)=none->H=0:=nofun;have d3:(some ⟨g,m*35,none⟩:Option Addr)=none->H-m=0:=nofun;have D:=Own.empty W W.heap.size 207 35 lR;have a4:Below W.heap.size W (W.alloc (.cells #[] 207)):=bA;have b5:=N _ a4;have L:∀r∈(O.map y4).take m,∀u∈r.toList,u.oneCell'=true:=λr hr=>(by obtain⟨y',_,rfl⟩:=List.mem_map.1 (List.mem_of_mem_take hr);exact j9 _);have G:∀r∈(O.map y4).drop m,∀u∈r.toList,u.oneCell'=true:=λr hr=>(by obtain⟨y',_,rfl⟩:=List.mem_map.1 (List.mem_of_mem_drop hr);exact j9 _);go_upto_region 12 with(at_builtin;refine yD qU rfl D rfl b5 e0 L oM oM sI ?_;intro A2 d7 w2 d d2 b4)
       simp only[Nat.zero_add,List.nil_append]at d;have a0:Below W.heap.size W w2:=(a4).trans (d2.below sI (by simp[blk]));have a2:z7 w2 q (o+k*35) 35=some (y4 x):=(z9 (a0.block q (zD c2)) _ _).trans c2;have a5:Below w2.heap.size w2 (w2.alloc (.cells (y4 x) 207)):=bA;have B:=d.below a5;have t:z7 (w2.alloc (.cells (y4 x) 207)) w2.heap.size 0 35=some (y4 x):=by simp[go_sem]
       have a1:=a0.size;go_upto_region 13 with(at_builtin;refine yM qU rfl B rfl t (j9 _) oM oM sO ?_;intro A4 d6 w4 s d1 b3)
       have F:Below W.heap.size W w4:=(a0.trans (a5.mono a1)).trans (d1.below sO (λx hx=>(d.at_base hx).1));have b6:=J _ F;have c4:=F.size;clear B t a5 D a4 b5 a2 N J;go_upto_region 14 with(at_builtin;refine yD qU rfl s rfl b6 d3 G oM oM oM ?_;intro A5 a6 w5 f d0 b0)
       have U:Below W.heap.size W w5:=F.trans (d0.below oM (λx hx=>(s.at_base hx).1));have a3:=Z.trans (U.mono Z.size);have c0:(O.map y4).take m ++ [y4 x]++(O.map y4).drop m=(q9 (R.take (k+1))).map y4:=by rw[a8.out,a9.out];simp[List.map_take,List.map_drop]
       have c1:(q9 (R.take (k+1))).length=m+1+(O.length-m):=by rw[a8.out,a9.out];simp;omega
       rw[c0]at f;have E:=f.mono Z.size;have HL:=dH c1;clear f s d c0 c1 b6;(go_wp2_with fail);go_roundw
       case rel=>exact⟨k+1,A5,a6,oM,by go_num,(by rw[HL.out]),(show Own _ _ _ _ _ _ _ _ by rw[HL.out];exact E),a3⟩
       case measure=>exact sZ
    ·have e9:m=O.length:=oM;have d8:=dH e9;have b9:=QH O x m hm c6.out (λf2=>absurd f2 oM);rw[dif_neg (λhh=>absurd hh.1 oM)]at b9;have a9:=dH b9;have hd:decide (m<O.length)=false:=by simpa using Y
     clear b9 e9 Y hm;go_upto_region 6 with fail
     refine lX wr ?_;intro a7 hS;refine lZ ?_;refine zC ?_;intro hS;clear a7 hS;go_upto_region 8 with fail
     refine lX wr.drew ?_;intro a7 hS;refine lZ ?_;refine zC ?_;intro hS;clear a7 hS;have M:Below WR.heap.size WR wr.drew.drew:=e3.drew.drew;have I:=T.below M;have c2:z7 wr.drew.drew q (o+k*35) 35=some (y4 x):=(z9 (M.block q (zD hr)) _ _).trans hr;have Z:=hb.trans (M.mono hb.size);clear V hd;generalize wr.drew.drew=W at *;have b8:=I.cap_le;have b7:(O.map y4).drop m = []:=List.drop_eq_nil_of_le (by simp[d8.out]);have f9:m<=1000000:=oH d8.out;rcases T.addr with rfl | ⟨g,rfl⟩
     ·obtain⟨f4,rfl⟩:=b8.2 rfl;have g1:m=0:=oH d8.out;subst g1;have hO:O = []:=List.eq_nil_of_length_eq_zero f4;have HO:=dH hO;have N:∀w',Below W.heap.size W w'->SlR w' none 0 35 ((O.map y4).take 0):=λw' hb=>(by rw[HO.out];exact SlR.nil_);have J:∀w',Below W.heap.size W w'->SlR w' none O.length 35 ((O.map y4).drop 0):=λw' hb=>(by rw[HO.out];exact SlR.nil_);have e0:(none:Option Addr)=none->0=0:=λ_=>rfl;have d3:(none:Option Addr)=none->0=0:=λ_=>rfl;clear f4 hO b8 f9 b7;have D:=Own.empty W W.heap.size 207 35 lR;have a4:Below W.heap.size W (W.alloc (.cells #[] 207)):=bA;have b5:=N _ a4;have L:∀r∈(O.map y4).take 0,∀u∈r.toList,u.oneCell'=true:=λr hr=>(by obtain⟨y',_,rfl⟩:=List.mem_map.1 (List.mem_of_mem_take hr);exact j9 _);have G:∀r∈(O.map y4).drop 0,∀u∈r.toList,u.oneCell'=true:=λr hr=>(by obtain⟨y',_,rfl⟩:=List.mem_map.1 (List.mem_of_mem_drop hr);exact j9 _);go_upto_region 12 with(at_builtin;refine yD qU rfl D rfl b5 e0 L oM oM sI ?_;intro A2 d7 w2 d d2 b4)
      simp only[Nat.zero_add,List.nil_append]at d;have a0:Below W.heap.size W w2:=(a4).trans (d2.below sI (by simp[blk]));have a2:z7 w2 q (o+k*35) 35=some (y4 x):=(z9 (a0.block q (zD c2)) _ _).trans c2;have a5:Below w2.heap.size w2 (w2.alloc (.cells (y4 x) 207)):=bA;have B:=d.below a5;have t:z7 (w2.alloc (.cells (y4 x) 207)) w2.heap.size 0 35=some (y4 x):=by simp[go_sem]
      have a1:=a0.size;go_upto_region 13 with(at_builtin;refine yM qU rfl B rfl t (j9 _) oM oM sO ?_;intro A4 d6 w4 s d1 b3)
      have F:Below W.heap.size W w4:=(a0.trans (a5.mono a1)).trans (d1.below sO (λx hx=>(d.at_base hx).1));have b6:=J _ F;have c4:=F.size;clear B t a5 D a4 b5 a2 N J;go_upto_region 14 with(at_builtin;refine yD qU rfl s rfl b6 d3 G oM oM oM ?_;intro A5 a6 w5 f d0 b0)
      have U:Below W.heap.size W w5:=F.trans (d0.below oM (λx hx=>(s.at_base hx).1));have a3:=Z.trans (U.mono Z.size);have c0:(O.map y4).take 0 ++ [y4 x]++(O.map y4).drop 0=(q9 (R.take (k+1))).map y4:=by rw[a8.out,a9.out];simp[List.map_take,List.map_drop]
      have c1:(q9 (R.take (k+1))).length=0+1+O.length:=by rw[a8.out,a9.out];simp;omega
      rw[c0]at f;have E:=f.mono Z.size;have HL:=dH c1;clear f s d c0 c1 b6;(go_wp2_with fail);go_roundw
      case rel=>exact⟨k+1,A5,a6,oM,by go_num,(by rw[HL.out]),(show Own _ _ _ _ _ _ _ _ by rw[HL.out];exact E),a3⟩
      case measure=>exact sZ
     ·have g0:m<=H:=by have:=b8.1;have:=d8.out;omega
      have N:∀w',Below W.heap.size W w'->SlR w' (some ⟨g,0,none⟩) m 35 ((O.map y4).take m):=λw' hb=>(I.below hb).slr.take_ (m:=m) (oH d8.out);have e0:(some ⟨g,0,none⟩:Option Addr)=none->H=0:=nofun;clear b8;have h0:m<=O.length:=oH d8.out;have c3:∀w' A',SlR w' A' (O.length-m) 35 ((O.map y4).drop m):=λw' A'=>(by rw[b7,d8.out,Nat.sub_self];exact⟨rfl,λh=>absurd h oM⟩);clear b7;by_cases c5:m=H
      ·have g6:=dH c5;obtain rfl:m=H:=c5;have J:∀w',Below W.heap.size W w'->SlR w' (some ⟨g,0,none⟩) (O.length-m) 35 ((O.map y4).drop m):=λw' _=>c3 w' _;have d3:(some ⟨g,0,none⟩:Option Addr)=none->0=0:=nofun;clear c3;have D:=Own.empty W W.heap.size 207 35 lR;have a4:Below W.heap.size W (W.alloc (.cells #[] 207)):=bA;have b5:=N _ a4;have L:∀r∈(O.map y4).take m,∀u∈r.toList,u.oneCell'=true:=λr hr=>(by obtain⟨y',_,rfl⟩:=List.mem_map.1 (List.mem_of_mem_take hr);exact j9 _);have G:∀r∈(O.map y4).drop m,∀u∈r.toList,u.oneCell'=true:=λr hr=>(by obtain⟨y',_,rfl⟩:=List.mem_map.1 (List.mem_of_mem_drop hr);exact j9 _);go_upto_region 12 with(at_builtin;refine yD qU rfl D rfl b5 e0 L oM oM sI ?_;intro A2 d7 w2 d d2 b4)
       simp only[Nat.zero_add,List.nil_append]at d;have a0:Below W.heap.size W w2:=(a4).trans (d2.below sI (by simp[blk]));have a2:z7 w2 q (o+k*35) 35=some (y4 x):=(z9 (a0.block q (zD c2)) _ _).trans c2;have a5:Below w2.heap.size w2 (w2.alloc (.cells (y4 x) 207)):=bA;have B:=d.below a5;have t:z7 (w2.alloc (.cells (y4 x) 207)) w2.heap.size 0 35=some (y4 x):=by simp[go_sem]
       have a1:=a0.size;go_upto_region 13 with(at_builtin;refine yM qU rfl B rfl t (j9 _) oM oM sO ?_;intro A4 d6 w4 s d1 b3)
       have F:Below W.heap.size W w4:=(a0.trans (a5.mono a1)).trans (d1.below sO (λx hx=>(d.at_base hx).1));have b6:=J _ F;have c4:=F.size;clear B t a5 D a4 b5 a2 N J;go_upto_region 14 with(at_builtin;refine yD qU rfl s rfl b6 d3 G oM oM oM ?_;intro A5 a6 w5 f d0 b0)
       have U:Below W.heap.size W w5:=F.trans (d0.below oM (λx hx=>(s.at_base hx).1));have a3:=Z.trans (U.mono Z.size);have c0:(O.map y4).take m ++ [y4 x]++(O.map y4).drop m=(q9 (R.take (k+1))).map y4:=by rw[a8.out,a9.out];simp[List.map_take,List.map_drop]
       have c1:(q9 (R.take (k+1))).length=m+1+(O.length-m):=by rw[a8.out,a9.out];simp;omega
       rw[c0]at f;have E:=f.mono Z.size;have HL:=dH c1;clear f s d c0 c1 b6;(go_wp2_with fail);go_roundw
       case rel=>exact⟨k+1,A5,a6,oM,by go_num,(by rw[HL.out]),(show Own _ _ _ _ _ _ _ _ by rw[HL.out];exact E),a3⟩
       case measure=>exact sZ
      ·have J:∀w',Below W.heap.size W w'->SlR w' (some ⟨g,m*35,none⟩) (O.length-m) 35 ((O.map y4).drop m):=λw' _=>c3 w' _;have d3:(some ⟨g,m*35,none⟩:Option Addr)=none->H-m=0:=nofun;clear c3;have D:=Own.empty W W.heap.size 207 35 lR;have a4:Below W.heap.size W (W.alloc (.cells #[] 207)):=bA;have b5:=N _ a4;have L:∀r∈(O.map y4).take m,∀u∈r.toList,u.oneCell'=true:=λr hr=>(by obtain⟨y',_,rfl⟩:=List.mem_map.1 (List.mem_of_mem_take hr);exact j9 _);have G:∀r∈(O.map y4).drop m,∀u∈r.toList,u.oneCell'=true:=λr hr=>(by obtain⟨y',_,rfl⟩:=List.mem_map.1 (List.mem_of_mem_drop hr);exact j9 _);go_upto_region 12 with(at_builtin;refine yD qU rfl D rfl b5 e0 L oM oM sI ?_;intro A2 d7 w2 d d2 b4)
       simp only[Nat.zero_add,List.nil_append]at d;have a0:Below W.heap.size W w2:=(a4).trans (d2.below sI (by simp[blk]));have a2:z7 w2 q (o+k*35) 35=some (y4 x):=(z9 (a0.block q (zD c2)) _ _).trans c2;have a5:Below w2.heap.size w2 (w2.alloc (.cells (y4 x) 207)):=bA;have B:=d.below a5;have t:z7 (w2.alloc (.cells (y4 x) 207)) w2.heap.size 0 35=some (y4 x):=by simp[go_sem]
       have a1:=a0.size;go_upto_region 13 with(at_builtin;refine yM qU rfl B rfl t (j9 _) oM oM sO ?_;intro A4 d6 w4 s d1 b3)
       have F:Below W.heap.size W w4:=(a0.trans (a5.mono a1)).trans (d1.below sO (λx hx=>(d.at_base hx).1));have b6:=J _ F;have c4:=F.size;clear B t a5 D a4 b5 a2 N J;go_upto_region 14 with(at_builtin;refine yD qU rfl s rfl b6 d3 G oM oM oM ?_;intro A5 a6 w5 f d0 b0)
       have U:Below W.heap.size W w5:=F.trans (d0.below oM (λx hx=>(s.at_base hx).1));have a3:=Z.trans (U.mono Z.size);have c0:(O.map y4).take m ++ [y4 x]++(O.map y4).drop m=(q9 (R.take (k+1))).map y4:=by rw[a8.out,a9.out];simp[List.map_take,List.map_drop]
       have c1:(q9 (R.take (k+1))).length=m+1+(O.length-m):=by rw[a8.out,a9.out];simp;omega
       rw[c0]at f;have E:=f.mono Z.size;have HL:=dH c1;clear f s d c0 c1 b6;(go_wp2_with fail);go_roundw
       case rel=>exact⟨k+1,A5,a6,oM,by go_num,(by rw[HL.out]),(show Own _ _ _ _ _ _ _ _ by rw[HL.out];exact E),a3⟩
       case measure=>exact sZ
  ·(go_wp2_with fail);go_ret;have e:k=n:=oM;have e2:R.take k=R:=List.take_of_length_le oM;refine⟨A1,H,?_,(by rw[e2]at T;exact T),hb⟩;rw[e2];rfl
end Go.Proofs.YtgfpjjppeldhbaaGreatDoor
