/- Part 13 of the texts that lead to this claim: the walks of the functions and the plain law, in order. -/
import Derived.Test.YtgfpjjppeldhbaaGreatDoorMt12
import Derived.Test.YtgfpjjppeldhbaaGreatDoorRows
import Derived.LaidLaws
import Derived.LaidHandle
import Derived.Stop.Joined
namespace Go.Proofs.YtgfpjjppeldhbaaGreatDoor
section
open Go.RowKit Stb
set_option maxRecDepth 100000 in
set_option maxHeartbeats 8000000 in
theorem denotePlays_any (t : ByteArray) (A : Option Addr) (n cap : Nat) (R : List MarkV) (k0 v0 : Int) (A2 : Option Addr) (n2 cap2 : Nat) (Y : List Pair) (w : World) (hp : PartsVar w) (ht : t.size ≤ 9223372036854775807) (h : MarksOk w A n R) (hY : PairsIn w A2 n2 Y) (hn2 : n2 ≤ 9223372036854775807) :
    Calls Tryz.prog 3 #[.string t,.slice A n cap,.agg (valVC ⟨k0,v0,.slice A2 n2 cap2⟩)] w fun e w'=>e = .returned (.bool true) ∧ Below w.heap.size w w':=by
  have hb0 : Below w.heap.size w (w.alloc (.cells (valVC ⟨k0,v0,.slice A2 n2 cap2⟩) 25)):=(Below.refl _ _).alloc (Nat.le_refl _) _;have hv0 : rowAt (w.alloc (.cells (valVC ⟨k0,v0,.slice A2 n2 cap2⟩) 25)) w.heap.size 0 3 = some (valVC ⟨k0,v0,.slice A2 n2 cap2⟩):=by simp [go_sem]
  have hlen:=h.rows.len;have hrows0 : MarksIn (w.alloc (.cells (valVC ⟨k0,v0,.slice A2 n2 cap2⟩) 25)) A n R:=SlR.below h.rows hb0;have hnb:=h.big;have c1:=dmuch (w.alloc (.cells (valVC ⟨k0,v0,.slice A2 n2 cap2⟩) 25)) A n cap R ⟨hrows0,hnb,h.each⟩;have hp0:=hp.below hb0;have hY0 : PairsIn (w.alloc (.cells (valVC ⟨k0,v0,.slice A2 n2 cap2⟩) 25)) A2 n2 Y:=SlR.below hY hb0;have Hlen:=Lib.hid hlen;clear h hlen hY;go_enter Tryz.func3,Tryz.ntmps3
  go_upto_region 1 with fail
  obtain ⟨gw,hgw⟩ : ∃ gw,w.heap.size = gw:=⟨_,rfl⟩
  obtain ⟨W0,hW0⟩ : ∃ W0,w.alloc (.cells (valVC ⟨k0,v0,.slice A2 n2 cap2⟩) 25) = W0:=⟨_,rfl⟩
  have Hgw:=Lib.hid hgw;rw [hW0] at hb0 hv0 hrows0 c1 hp0 hY0 ⊢;rw [hgw] at hv0 ⊢;clear hW0 hgw;(go_wp2_with fail);refine c1.mono ?_;rintro e w1 ⟨bm,rfl,hfew,hb1⟩;have hbw:=bel2 hb0 hb1;have hp1:=hp0.below hb1;have hrows:=SlR.below hrows0 hb1;have hY1:=SlR.below hY0 hb1;have hv1:=(rowAt_of_block (hb1.block gw (rowAt_lt hv0)) _ _).trans hv0;have hvl : w1.cell? ⟨gw,2,none⟩ = some (.slice A2 n2 cap2):=by have:=rowAt_cell hv1 (j:=2) (by omega);simpa [go_sem] using this
  clear c1 hb0 hb1 hv0 hrows0 hp0 hY0;cases bm with
  | true =>
    have cw:=awake27 w1 hp1;clear hfew;(go_wp2_with fail);refine cw.mono ?_;rintro e w9 ⟨rfl,hb9⟩;have hbF:=bel2 hbw hb9;clear cw;(go_wp2_with fail);go_ret;exact ⟨rfl,hbF⟩
  | false =>
  by_cases hbig : 60 < n2
  · have cw:=awake27 w1 hp1;have hbd : decide ((60 : Int) < (n2 : Int)) = true:=decide_eq_true (by omega);clear hfew;(go_wp2_with fail);refine cw.mono ?_;rintro e w9 ⟨rfl,hb9⟩;have hbF:=bel2 hbw hb9;clear cw;(go_wp2_with fail);go_ret;exact ⟨rfl,hbF⟩
  have hf:=hfew rfl;have hn30 : n ≤ 30:=by have:=hf.1;have:=Hlen.out;omega
  have hfR:=hf.2;have hoR : (onceM R).length ≤ 30:=Nat.le_trans (onceM_len R) (by rw [Hlen.out];omega);have HoR:=Lib.hid hoR;have HfR:=Lib.hid hfR;clear hfew hf hoR hfR;have cv1:=dvalue_all t A n cap R w1 hrows (by omega) HoR.out HfR.out hp1 ht;go_upto_region 3 with fail
  (go_wp2_with fail);refine cv1.mono ?_;rintro e wv ⟨A1,n1,k1,rfl,hP1,hbv⟩;clear cv1 hvl;go_upto_region 4 with fail
  obtain ⟨g1,hg1⟩ : ∃ g1,wv.heap.size = g1:=⟨_,rfl⟩
  have hba : Below wv.heap.size wv (wv.alloc (.cells (valVC ⟨valK t,valN t R,.slice A1 n1 k1⟩) 25)):=(Below.refl _ _).alloc (Nat.le_refl _) _;have hx1 : rowAt (wv.alloc (.cells (valVC ⟨valK t,valN t R,.slice A1 n1 k1⟩) 25)) wv.heap.size 0 3 = some (valVC ⟨valK t,valN t R,.slice A1 n1 k1⟩):=by simp [go_sem]
  have hB2 : Below w1.heap.size w1 (wv.alloc (.cells (valVC ⟨valK t,valN t R,.slice A1 n1 k1⟩) 25)):=bel2 hbv hba;have hP1' : PairsIn (wv.alloc (.cells (valVC ⟨valK t,valN t R,.slice A1 n1 k1⟩) 25)) A1 n1 (valP t R):=SlR.below hP1.1 hba;have hl1 : (valP t R).length ≤ 1000000:=by have h1:=hP1.1.len;have h2:=hP1.2;omega
  have hn1:=hP1.2;obtain ⟨W1,hW1⟩ : ∃ W1,W1 = wv.alloc (.cells (valVC ⟨valK t,valN t R,.slice A1 n1 k1⟩) 25):=⟨_,rfl⟩
  rw [← hW1] at hx1 hB2 hP1' ⊢;rw [hg1] at hx1 ⊢;have hr1 : MarksIn W1 A n R:=SlR.below hrows hB2;have hY2:=SlR.below hY1 hB2;have hv2:=(rowAt_of_block (hB2.block gw (rowAt_lt hv1)) _ _).trans hv1;have hb02:=bel2 hbw hB2;clear hW1 hg1 hba hP1 hbv hB2 hbw hrows hY1 hv1 hp1;have cv2:=rvalue27 t A n cap R W1 hr1 hn30 HfR.out ht hl1;(go_wp2_with fail);refine cv2.mono ?_;rintro e wv ⟨A3,n3,k3,rfl,hP3,hbv⟩;clear cv2;go_upto_region 5 with fail
  obtain ⟨g2,hg2⟩ : ∃ g2,wv.heap.size = g2:=⟨_,rfl⟩
  have hba : Below wv.heap.size wv (wv.alloc (.cells (valVC ⟨valK t,valN t R,.slice A3 n3 k3⟩) 25)):=(Below.refl _ _).alloc (Nat.le_refl _) _;have hx2 : rowAt (wv.alloc (.cells (valVC ⟨valK t,valN t R,.slice A3 n3 k3⟩) 25)) wv.heap.size 0 3 = some (valVC ⟨valK t,valN t R,.slice A3 n3 k3⟩):=by simp [go_sem]
  have hB3 : Below W1.heap.size W1 (wv.alloc (.cells (valVC ⟨valK t,valN t R,.slice A3 n3 k3⟩) 25)):=bel2 hbv hba;have hP3' : PairsIn (wv.alloc (.cells (valVC ⟨valK t,valN t R,.slice A3 n3 k3⟩) 25)) A3 n3 (valP t R):=SlR.below hP3.1 hba;have hn3:=hP3.2;obtain ⟨W2,hW2⟩ : ∃ W2,W2 = wv.alloc (.cells (valVC ⟨valK t,valN t R,.slice A3 n3 k3⟩) 25):=⟨_,rfl⟩
  rw [← hW2] at hx2 hB3 hP3' ⊢;rw [hg2] at hx2 ⊢;have hr2 : MarksIn W2 A n R:=SlR.below hr1 hB3;have hY3 : PairsIn W2 A2 n2 Y:=SlR.below hY2 hB3;have hQ1 : PairsIn W2 A1 n1 (valP t R):=SlR.below hP1' hB3;have hv3:=(rowAt_of_block (hB3.block gw (rowAt_lt hv2)) _ _).trans hv2;have hx3:=(rowAt_of_block (hB3.block g1 (rowAt_lt hx1)) _ _).trans hx1;have hb03:=bel2 hb02 hB3;have hn2' : n2 ≤ 1000000:=by omega
  clear hW2 hg2 hba hP3 hbv hr1 hP1' hx1 hB3 hY2 hv2 hb02 hbig hn2 hl1;have hm2:=hr2;have Csame:=Lib.hid (fun (w' : World) (hb : Below W2.heap.size W2 w')=>same_t w' (valK t) (valN t R) A1 A3 n1 n3 k1 k3 (valP t R) ⟨SlR.below hQ1 hb,hn1⟩ ⟨SlR.below hP3' hb,hn3⟩);have Cs1:=Lib.hid (fun (w' : World) (hb : Below W2.heap.size W2 w')=>sorted_any A n cap R w' (SlR.below hr2 hb) (by omega) HoR.out);have Cs2:=Lib.hid (fun (w' : World) (hb : Below W2.heap.size W2 w')=>rsorted27 A n cap R w' (SlR.below hr2 hb) (by omega));have Crm:=Lib.hid (fun (w' : World) (B1 B2 : Option Addr) (m1 m2 c1 c2 : Nat) (h1 : SlR w' B1 m1 34 ((srtM R).map markVC)) (h2 : SlR w' B2 m2 34 ((srtM R).map markVC))=>rmarks w' B1 B2 m1 m2 c1 c2 (srtM R) (srtM R) h1 h2 (by have e1:=h1.1;have e2:=srtM_len R;have e3:=HoR.out;simp at e1;omega) (by have e1:=h2.1;have e2:=srtM_len R;have e3:=HoR.out;simp at e1;omega));have Cd1:=(fun (w' : World) (hb : Below W2.heap.size W2 w')=>dsame w' (valK t) (valN t R) k0 v0 A1 A2 n1 n2 k1 cap2 (valP t R) Y (SlR.below hQ1 hb) (SlR.below hY3 hb) hn1 hn2')
  have Cd2:=(fun (w' : World) (hb : Below W2.heap.size W2 w')=>rsame26 w' (valK t) (valN t R) k0 v0 A1 A2 n1 n2 k1 cap2 (valP t R) Y (SlR.below hQ1 hb) (SlR.below hY3 hb) hn1 hn2')
  have Cd3:=Lib.hid (fun (w' : World) (hb : Below W2.heap.size W2 w')=>dsame w' k0 v0 k0 v0 A2 A2 n2 n2 cap2 cap2 Y Y (SlR.below hY3 hb) (SlR.below hY3 hb) hn2' hn2');have Cw:=Lib.hid (fun (w' : World) (hb : Below W2.heap.size W2 w')=>awake27 w' ((hp.below hb03).below hb));obtain ⟨db,hdb⟩ : ∃ db,decide (valK t = k0 ∧ valN t R = v0 ∧ valP t R = Y) = db:=⟨_,rfl⟩
  simp only [hdb] at Cd1 Cd2;have Cd1:=Lib.hid Cd1;have Cd2:=Lib.hid Cd2;obtain ⟨E,hE⟩ : ∃ E,checkB t = E:=⟨_,rfl⟩
  rw [hE];clear hm2 hr2 hY3 hQ1 hP3' hdb hE;refine wp_region_tree (.loose 0 (.loose 1 (.one 2 (.loose 3 (.loose 4 (.loose 5 (.loose 6 (.loose 7 (.loose 8 (.loose 9 (.loose 11 (.one 10 (.one 12 (.one 13 (.loose 14 (.loose 15 (.loose 16 (.loose 17 (.loose 19 (.loose 20 (.one 18 (.one 21 (.loose 22 (.loose 23 (.loose 24 (.loose 25 (.loose 26 (.one 27 (.loose 28 (.loose 29 (.one 30 (.loose 31 (.loose 32 .done))))))))))))))))))))))))))))))))) (Bel W2) false (by kernel_rfl) (by kernel_rfl) (by kernel_rfl) (by kernel_rfl) (bel_drew W2) ?_;have hne:=bel_some W2;have hS:=bel_drew W2;have b1:=sub_row hv3;have b2:=sub_row hx3;have b3:=sub_row hx2;clear hv3 hx3 hx2;repeat (refine wpTx_loose rfl ?_ ?_;(focus (simp only [chainOp];done));intro K hK;go_simp;refine hK _ ?_;clear hK K)
  refine wpTx_one ?_ rfl ?_ ?_;(focus (exact hS));(focus (simp only [chainOp];done));intro K hK;go_simp;refine (Csame.out _ hS).mono ?_;rintro e w' ⟨rfl,hb⟩;replace hS:=bel_next hS hb;refine ⟨_,rfl,hS,hK _ _ ?_⟩;clear hK K hb;repeat (refine wpTx_loose rfl ?_ ?_;(focus (simp only [chainOp];done));intro K hK;go_simp;refine hK _ ?_;clear hK K)
  refine wpTx_one ?_ rfl ?_ ?_;(focus (exact hS));(focus (simp only [chainOp];done));intro K hK;go_simp;refine (Cs1.out _ hS).mono ?_;rintro e w6 ⟨A4,k4,rfl,ho4,hb6⟩;have hs4:=ho4.slr;have hS2:=bel_next hS hb6;refine ⟨_,rfl,hS2,hK _ _ ?_⟩;clear hK K hS hb6 ho4;have hS:=hS2;clear hS2;refine wpTx_one ?_ rfl ?_ ?_;(focus (exact hS));(focus (simp only [chainOp];done));intro K hK;go_simp;refine (Cs2.out _ hS).mono ?_;rintro e w7 ⟨A5,n5,k5,rfl,ho5,hb7⟩;have hs5:=ho5.slr;have hs6:=SlR.below hs4 hb7;have hS2:=bel_next hS hb7;refine ⟨_,rfl,hS2,hK _ _ ?_⟩;clear hK K hS hb7 ho5 hs4;have hS:=hS2;clear hS2;have crm:=Crm.out w7 A4 A5 _ _ k4 k5 hs6 hs5;rw [decide_eq_true rfl] at crm;refine wpTx_one ?_ rfl ?_ ?_;(focus (exact hS));(focus (simp only [chainOp];done));intro K hK;go_simp;refine (crm).mono ?_;rintro e w' ⟨rfl,hb⟩;replace hS:=bel_next hS hb;refine ⟨_,rfl,hS,hK _ _ ?_⟩;clear hK K hb;clear crm hs5 hs6;repeat (refine wpTx_loose rfl ?_ ?_;(focus (simp only [chainOp];done));intro K hK;go_simp;refine hK _ ?_;clear hK K)
  refine wpTx_one ?_ rfl ?_ ?_;(focus (exact hS));(focus (simp only [chainOp];done));intro K hK;go_simp;refine (Cd1.out _ hS).mono ?_;rintro e w' ⟨rfl,hb⟩;replace hS:=bel_next hS hb;refine ⟨_,rfl,hS,hK _ _ ?_⟩;clear hK K hb;refine wpTx_one ?_ rfl ?_ ?_;(focus (exact hS));(focus (simp only [chainOp];done));intro K hK;go_simp;refine (Cd2.out _ hS).mono ?_;rintro e w' ⟨rfl,hb⟩;replace hS:=bel_next hS hb;refine ⟨_,rfl,hS,hK _ _ ?_⟩;clear hK K hb;repeat (refine wpTx_loose rfl ?_ ?_;(focus (simp only [chainOp];done));intro K hK;go_simp;refine hK _ ?_;clear hK K)
  have cd3:=Cd3.out _ hS;rw [decide_eq_true ⟨rfl,rfl,rfl⟩] at cd3;refine wpTx_one ?_ rfl ?_ ?_;(focus (exact hS));(focus (simp only [chainOp];done));intro K hK;go_simp;refine (cd3).mono ?_;rintro e w' ⟨rfl,hb⟩;replace hS:=bel_next hS hb;refine ⟨_,rfl,hS,hK _ _ ?_⟩;clear hK K hb;clear cd3;repeat (refine wpTx_loose rfl ?_ ?_;(focus (simp only [chainOp];done));intro K hK;go_simp;refine hK _ ?_;clear hK K)
  refine wpTx_one ?_ rfl ?_ ?_;(focus (exact hS));(focus (simp only [chainOp];done));intro K hK;go_simp;refine (Cw.out _ hS).mono ?_;rintro e w' ⟨rfl,hb⟩;replace hS:=bel_next hS hb;refine ⟨_,rfl,hS,hK _ _ ?_⟩;clear hK K hb;repeat (refine wpTx_loose rfl ?_ ?_;(focus (simp only [chainOp];done));intro K hK;go_simp;refine hK _ ?_;clear hK K)
  refine wpTx_done ?_;intro hS;have hbF:=bel2 hb03 hS;clear hS hne b1 b2 b3;(go_wp2_with fail);go_ret;exact ⟨rfl,hbF⟩
end
section
open Go.ChangeShapes Go.WideShapes Go.RowKit
theorem parts_of_laid {W : World} (h : laidMetH Tryz.prog [("petrel/op.parts",Rows.laid_petrel_op_parts)] W) : PartsVar W:=by
  have h' : laidMet Tryz.prog [("petrel/op.parts",Lib.tabData .i64 [0,1,4,20,7,22,12,8])] W:=h;have hT:=Lib.tabIs_of_head (P:=Tryz.prog) (g:=0) (t:=285) (e:=3) (n:=8) (by kernel_rfl) (by kernel_rfl) Tryz.underlying285 Tryz.underlying3 (by kernel_rfl) (by kernel_rfl) h';intro k hk;have hc:=hT.cell (g:=0) (by kernel_rfl) k (by simpa using hk);rw [hc];have h8 : k = 0 ∨ k = 1 ∨ k = 2 ∨ k = 3 ∨ k = 4 ∨ k = 5 ∨ k = 6 ∨ k = 7:=by omega
  rcases h8 with rfl | rfl | rfl | rfl | rfl | rfl | rfl | rfl <;> rfl
def laidWorld (P : Program) (os : Os) : World:=(World.holding P os ⟨#[],#[],[]⟩).setRow 0 #[.int .i64 0,.int .i64 1,.int .i64 4,.int .i64 20,.int .i64 7,.int .i64 22,.int .i64 12,.int .i64 8]
theorem laidWorld_met (os : Os) (args : Array Value) : laidMetH Tryz.prog [("petrel/op.parts",Rows.laid_petrel_op_parts)] ((laidWorld Tryz.prog os).forCall (fun _ _=>0) ⟨#[],args,[]⟩).memory:=by
  show laidMet Tryz.prog [("petrel/op.parts",Rows.laid_petrel_op_parts)] _;exact laidMet_of_run' 8 (by kernel_rfl) (by kernel_rfl)
theorem trodVars_nil {H : Type} {enc : TypeId × Value → H} {P : Program} {w : World} {g : Nat → Bool} {gs : List (DataW H)} {q : List MemPlace} (hV : DataW.TrodVars enc P w g [] gs q) : gs = [] ∧ q = []:=by
  cases gs with
  | nil=>exact ⟨rfl,hV⟩
  | cons g r=>exact absurd hV (by intro h;cases h)
end
section
open Go.RowKit Go.WideShapes
theorem opens_slice {P : Program} {w : World} {T E : TypeId} {α : Type} {e : α → Array Value} {ok : α → Prop} {k : Nat} (u : P.underlying T = some (.slice E)) (o : Opens P w E e ok) (hk : P.cellsOf E = k) (hk0 : 0 < k) :
    Opens P w T (fun s : Option Addr × Nat × Nat × List α=>#[.slice s.1 s.2.1 s.2.2.1]) (fun s=>SlR w s.1 s.2.1 k (s.2.2.2.map e) ∧ s.2.1 ≤ s.2.2.1 ∧ s.2.2.1 ≤ maxLen):=by
  intro H enc base spare held fuel cs x h;rcases Go.Deep.open_slice u h with ⟨h0,hx⟩ | ⟨a,len,cap',m,f,D,Pl,hcs,hb,hlc,hcm,hm,hx,hel⟩
  · exact ⟨(none,0,0,[]),h0,⟨rfl,fun h=>(Nat.lt_irrefl 0 h).elim⟩,Nat.le_refl _,Nat.zero_le _⟩
  · have hnm : len ≤ m:=by rw [hm];split <;> omega
    have hall : ∀ i,i < len → ∃ x : α,w.cells? base (a.add (i * k)) k = some (e x).toList ∧ ok x:=by
      intro i hi;obtain ⟨cs',h1,h2⟩:=hel i (by omega);rw [hk] at h1;obtain ⟨x,rfl,hx⟩:=o _ _ _ _ _ _ _ h2;exact ⟨x,h1,hx⟩
    clear hel;by_cases hn : len = 0
    · subst hn;exact ⟨(some a,0,cap',[]),hcs,⟨rfl,fun h=>(Nat.lt_irrefl 0 h).elim⟩,by omega,by omega⟩
    · obtain ⟨x0,hx0,_⟩:=hall 0 (by omega)
      haveI : Inhabited α:=⟨x0⟩
      obtain ⟨R,hR⟩:=Go.Deep.choose_lt hall;have hsp : a.spot = none:=by
        unfold World.cells? at hx0;split at hx0
        · have:=mapM_some_get hx0 0 0 (by simp [hk0]);have hlen : (e x0).toList.length = k:=by simpa using mapM_some_length hx0
          rw [List.getElem?_eq_getElem (by omega)] at this;have:=World.cell?_spot this;simpa [Addr.add] using this
        · cases hx0
      obtain ⟨g,o',sp⟩:=a;simp only at hsp;subst hsp;refine ⟨(some ⟨g,o',none⟩,len,cap',(List.range len).map R),hcs,⟨by simp,fun _=>⟨g,o',rfl,?_⟩⟩,by omega,by omega⟩;intro i hi;have hi' : i < len:=by simpa using hi
      have h1:=(hR i hi').1;have e1 : (⟨g,o',none⟩ : Addr).add (i * k) = ⟨g,o' + i * k,none⟩:=by
        unfold Addr.add;split
        · rename_i e;rw [e];rfl
        · rfl
      rw [e1] at h1;rw [rowAt_of_cells h1 hk0]
      simp
end
end Go.Proofs.YtgfpjjppeldhbaaGreatDoor
