/- Part 12 of the texts that lead to this claim: the walks of the functions and the plain law, in order. -/
import Derived.Test.YtgfpjjppeldhbaaGreatDoorMt11
import Derived.LoopN
import Derived.Laws.StructEq
namespace Go.Proofs.YtgfpjjppeldhbaaGreatDoor
section
open Go.RowKit
def lettersS : ByteArray:=⟨#[63,99,115,108,109,114]⟩
set_option maxHeartbeats 400000 in
theorem letters_any (w : World) :
    Calls Tryz.prog 71 #[] w fun e w'=>e = .returned (.string lettersS) ∧ w = w':=by
  go_enter Tryz.func71,Tryz.ntmps71
  (go_wp2_with fail);go_ret;exact ⟨rfl,rfl⟩
theorem lettersS_at {k : Nat} (h1 : 1 ≤ k) (h2 : k < 6) : ∃ h : k < lettersS.size,((lettersS[k]'h).toNat : Int) = letterC k:=by
  have : k = 1 ∨ k = 2 ∨ k = 3 ∨ k = 4 ∨ k = 5:=by omega
  rcases this with rfl | rfl | rfl | rfl | rfl <;> exact ⟨by decide,by decide⟩
theorem smallC_cases (c : Int) : smallC c = true ↔ (97 ≤ c ∧ c ≤ 122) ∨ (48 ≤ c ∧ c ≤ 57) ∨ c = 45:=by
  unfold smallC;simp;omega
set_option maxHeartbeats 400000 in
theorem rkind_short (s : ByteArray) (w : World) (hs : s.size ≤ 9223372036854775807) (h : ¬ (2 ≤ s.size ∧ s.size ≤ 12)) :
    Calls Tryz.prog 29 #[.string s] w fun e w'=>e = .returned (.int .i64 (kindB s)) ∧ Below w.heap.size w w':=by
  have H : Hid (kindB s = 0):=by show kindB s = 0;unfold kindB;rw [formedB_short s h];rfl
  by_cases h1 : 2 ≤ s.size
  · have h4 : 12 < s.size:=by omega
    clear h;go_enter Tryz.func29,Tryz.ntmps29
    go_wp2_with fail
    all_goals
      go_ret;exact ⟨ret_int H.out.symm,Below.refl _ _⟩
  · clear h;go_enter Tryz.func29,Tryz.ntmps29
    go_wp2_with fail
    all_goals
      go_ret;exact ⟨ret_int H.out.symm,Below.refl _ _⟩
set_option maxHeartbeats 400000 in
theorem rkind_last (s : ByteArray) (w : World) (h : 2 ≤ s.size) (h1 : s.size ≤ 12) (h2 : bt s (s.size - 1) = 45) :
    Calls Tryz.prog 29 #[.string s] w fun e w'=>e = .returned (.int .i64 (kindB s)) ∧ Below w.heap.size w w':=by
  have h3 : (((s[s.size - 1]'(by omega)).toNat : Int) == 45) = true:=by
    rw [beq_iff_eq];rw [bt_get (by omega)];exact h2
  have H : Hid (kindB s = 0):=by show kindB s = 0;unfold kindB;rw [formedB_last s h2];rfl
  clear h2;go_enter Tryz.func29,Tryz.ntmps29
  (go_wp2_with fail);go_ret;exact ⟨ret_int H.out.symm,Below.refl _ _⟩
set_option maxHeartbeats 1000000 in
theorem rkind_long (s : ByteArray) (w : World) (h : 2 ≤ s.size) (h1 : s.size ≤ 12) (h2 : bt s (s.size - 1) ≠ 45) :
    Calls Tryz.prog 29 #[.string s] w fun e w'=>e = .returned (.int .i64 (kindB s)) ∧ Below w.heap.size w w':=by
  have h3 : (((s[s.size - 1]'(by omega)).toNat : Int) == 45) = false:=by
    rw [beq_eq_false_iff_ne];intro g;rw [bt_get (by omega)] at g;exact h2 g
  have hfin:=formedB_tail s h h1 h2;have H2:=Lib.hid hfin;clear h2 hfin;have h0 : (0 : Int) < s.size:=by omega
  have hg : ((s[0]'(by omega)).toNat : Int) = bt s 0:=bt_get (by omega);go_enter Tryz.func29,Tryz.ntmps29
  go_wp2_with fail
  go_loop [3] (fun iv=>∃ i : Nat,1 ≤ i ∧ i ≤ s.size ∧ iv = .int .i64 i ∧ Hid (tailB s i = tailB s 1)) (fun iv=>s.size - (intOf iv).toNat)
  case atStart=>exact ⟨1,by omega,by omega,rfl,rfl⟩
  case round =>
    obtain ⟨i,hi1,hi2,rfl,hc⟩:=hrel;by_cases hp : i < s.size
    · have hgi : ((s[i]'hp).toNat : Int) = bt s i:=bt_get hp;cases hb : smallC (bt s i) with
      | true =>
        have hb':=(smallC_cases _).1 hb;rw [← hgi] at hb';have Hb:=Lib.hid hb;clear hb hgi;go_wp2_with fail
        all_goals
          go_round
          case rel=>exact ⟨i + 1,by omega,by omega,by go_num,(tailB_yes s _ Hb.out).trans hc.out⟩
          case measure=>simp [intOf];omega
      | false =>
        have hb' : ¬ ((97 ≤ bt s i ∧ bt s i ≤ 122) ∨ (48 ≤ bt s i ∧ bt s i ≤ 57) ∨ bt s i = 45):=fun g=>(by rw [(smallC_cases _).2 g] at hb;cases hb);rw [← hgi] at hb';have hb2 : (((s[i]'hp).toNat : Int) != 45) = true:=by rw [bne_iff_ne];omega
        have Hb:=Lib.hid hb;clear hb hgi;go_wp2_with fail
        all_goals
          go_ret;exact ⟨ret_int (by unfold kindB;rw [H2.out,← hc.out,tailB_no s _ (by omega) Hb.out];rfl),Below.refl _ _⟩
    · have hfm : kindB s = kindC (bt s 0):=by unfold kindB;rw [H2.out,← hc.out,tailB_end s _ (by omega)];rfl
      have H:=Lib.hid hfm;clear hfm;(go_wp2_with fail);go_loopw [5] (fun kv wr=>∃ k : Nat,1 ≤ k ∧ k ≤ 6 ∧ kv = .int .i64 k ∧ Below w.heap.size w wr ∧ Hid (∀ j : Int,1 ≤ j → j < k → letterC j ≠ bt s 0)) (fun kv _=>(6 - intOf kv).toNat)
      case atStart=>exact ⟨1,by omega,by omega,rfl,Below.refl _ _,fun j h1 h2=>by omega⟩
      case round =>
        obtain ⟨k,hk1,hk2,rfl,hb1,hj⟩:=hrel;by_cases hk : k < 6
        · obtain ⟨hks,hkl⟩:=lettersS_at hk1 hk;have hks' : (k : Int) < lettersS.size:=by omega
          by_cases hl : letterC k = bt s 0
          · have hl' : (((lettersS[k]'hks).toNat : Int) == bt s 0) = true:=by rw [beq_iff_eq,hkl];exact hl
            have Hl:=Lib.hid hl;clear hl hkl;go_wp2_with fail
            go_quiet ((go_at_call 71;exact quiet_eq (letters_any _)))
            (go_wp2_with fail);go_ret;exact ⟨ret_int (by rw [H.out,kindC_hit (by omega) (by omega) Hl.out]),below_drewN hb1 _⟩
          · have hl' : (((lettersS[k]'hks).toNat : Int) == bt s 0) = false:=by rw [beq_eq_false_iff_ne,hkl];exact hl
            have Hl:=Lib.hid hl;clear hl hkl;go_wp2_with fail
            go_quiet ((go_at_call 71;exact quiet_eq (letters_any _)))
            (go_wp2_with fail);go_roundw
            case rel =>
              refine ⟨k + 1,by omega,by omega,by go_num,below_drewN hb1 _,fun j h1 h2=>?_⟩;by_cases e : j = k
              · subst e;exact Hl.out
              · exact hj.out j h1 (by omega)
            case measure=>simp [intOf];omega
        · (go_wp2_with fail);go_ret;exact ⟨ret_int (by rw [H.out,kindC_miss (fun j h1 h2=>hj.out j h1 (by omega))]),hb1⟩
theorem rkind_any (s : ByteArray) (w : World) (hs : s.size ≤ 9223372036854775807) :
    Calls Tryz.prog 29 #[.string s] w fun e w'=>e = .returned (.int .i64 (kindB s)) ∧ Below w.heap.size w w':=by
  by_cases h : 2 ≤ s.size ∧ s.size ≤ 12
  · by_cases h2 : bt s (s.size - 1) = 45
    · exact rkind_last s w h.1 h.2 h2
    · exact rkind_long s w h.1 h.2 h2
  · exact rkind_short s w hs h
end
section
open Go.RowKit
theorem rvdoes (m : MarkV) (o : OpV) (A : Option Addr) (c : Nat) (w : World) (g : Nat) (t : ByteArray) (I : List Id32) (x : RV) (h : RVAt w g t I x) (h1 : 1 ≤ o.k) (h7 : o.k ≤ 7) (hkey : o.key.size ≤ 16) (hval : o.val.size ≤ 16) (hrefs : o.refs.length ≤ 8) (hlo : -2147483648 ≤ o.n) (hhi : o.n < 2147483648) (hA : TagsIn w A o.refs.length o.refs) (hgA : g ∉ blk A) (hok : RVOk x) (hl : x.len ≤ 10000) :
    Calls Tryz.prog 73 #[.pointer (some ⟨g,0,none⟩),.agg (markVC m),.agg (opC o A c)] w fun e w'=>e = .returned (.tuple #[]) ∧ RVAt w' g t I (rdoO m o x) ∧ Keep [g] w w':=by
  have hc : o.k = 1 ∨ o.k = 2 ∨ o.k = 3 ∨ o.k = 4 ∨ o.k = 5 ∨ o.k = 6 ∨ o.k = 7:=by omega
  rcases hc with e | e | e | e | e | e | e
  · exact rvdoes_1 m o A c w g t I x h e hkey hval hrefs hlo hhi hA hgA hok hl
  · exact rvdoes_2 m o A c w g t I x h e hkey hval hrefs hlo hhi hA hgA hok hl
  · exact rvdoes_3 m o A c w g t I x h e hkey hval hrefs hlo hhi hA hgA hok hl
  · exact rvdoes_4 m o A c w g t I x h e hkey hval hrefs hlo hhi hA hgA hok hl
  · exact rvdoes_5 m o A c w g t I x h e hkey hval hrefs hlo hhi hA hgA hok hl
  · exact rvdoes_6 m o A c w g t I x h e hkey hval hrefs hlo hhi hA hgA hok hl
  · exact rvdoes_7 m o A c w g t I x h e hkey hval hrefs hlo hhi hA hgA hok hl
set_option maxRecDepth 100000 in
set_option maxHeartbeats 4000000 in
theorem rvfold_old (m : MarkV) (w : World) (g : Nat) (t : ByteArray) (I : List Id32) (x : RV) (h : RVAt w g t I x) (hm : m.id ∈ I) (hI : I.length ≤ 1000) :
    Calls Tryz.prog 30 #[.pointer (some ⟨g,0,none⟩),.agg (markVC m)] w fun e w'=>e = .returned (.bool false) ∧ Below w.heap.size w w':=by
  obtain ⟨si,sa,sg,sl,sm,so,ss,sd,h⟩:=h;have hB : Below w.heap.size w (w.alloc (.cells (markVC m) 41)):=(Below.refl _ _).alloc (Nat.le_refl _) _;have h1:=h.below hB;have hr : rowAt (w.alloc (.cells (markVC m) 41)) w.heap.size 0 32 = some (idC m.id):=by simp [go_sem]
  have hin : I.length = si.n:=by simpa using h.ids.1.len
  go_enter Tryz.func30,Tryz.ntmps30
  go_upto_region 1 with fail
  obtain ⟨ga,hga⟩ : ∃ ga,w.heap.size = ga:=⟨_,rfl⟩
  rw [hga] at hr hB ⊢;obtain ⟨W,hW⟩ : ∃ W,W = w.alloc (.cells (markVC m) 41):=⟨_,rfl⟩
  rw [← hW] at h1 hr hB ⊢;have hc : W.cell? ⟨g,1,none⟩ = some (.slice si.A si.n si.c):=h1.cell 1 rfl;have c1:=rhas6 W.drew si.A si.n si.c I m.id (SlR.below h1.ids.1.rd (bel_drew W)) (by omega);rw [decide_eq_true hm] at c1;clear hW h h1;rw [← hga] at hB;clear hga;refine wp_region_lex (Bel W) false (by kernel_rfl) (by kernel_rfl) (by kernel_rfl) (bel_drew W) ?_;have hne:=bel_some W;have hS:=bel_drew W;have b1:=sub_cell hc;have b2:=sub_row hr;repeat (refine wpLx_loose ?_ ?_;(focus (simp only [chainOp];done));intro K hK;go_simp;refine hK _ ?_;clear hK K)
  refine wpLx_chain ?_ ?_ ?_;(focus (exact hS));(focus (simp only [chainOp];done));intro K hK;go_simp;refine (c1).mono ?_;rintro e w' ⟨rfl,hb⟩;replace hS:=bel_next hS hb;refine ⟨_,rfl,hS,hK _ _ ?_⟩;clear hK K hb;repeat (refine wpLx_loose ?_ ?_;(focus (simp only [chainOp];done));intro K hK;go_simp;refine hK _ ?_;clear hK K)
  refine wpLx_nil ?_;intro hS;clear b1 b2 hne hc hr;(go_wp2_with fail);go_ret;exact ⟨rfl,bel2 hB hS⟩
set_option maxRecDepth 100000 in
set_option maxHeartbeats 4000000 in
theorem rvfold_new (m : MarkV) (w : World) (g : Nat) (t : ByteArray) (I : List Id32) (x : RV) (h : RVAt w g t I x) (hm : m.id ∉ I) (hri : Ris cmpId I) (hI : I.length ≤ 1000) (hs : m.body.size ≤ 9223372036854775807) (ht : t.size ≤ 9223372036854775807) (hok : RVOk x) (hl : x.len ≤ 10000) :
    Calls Tryz.prog 30 #[.pointer (some ⟨g,0,none⟩),.agg (markVC m)] w fun e w'=>e = .returned (.bool true) ∧ RVAt w' g t (insC cmpId I m.id) (rfoldS t m x) ∧ Keep [g] w w':=by
  obtain ⟨si,sa,sg,sl,sm,so,ss,sd,h⟩:=h;have hB : Below w.heap.size w (w.alloc (.cells (markVC m) 41)):=(Below.refl _ _).alloc (Nat.le_refl _) _;have h1:=h.below hB;have hgl:=h.lt;have hrm : rowAt (w.alloc (.cells (markVC m) 41)) w.heap.size 0 34 = some (markVC m):=by simp [go_sem]
  have hin : I.length = si.n:=by simpa using h.ids.1.len
  go_enter Tryz.func30,Tryz.ntmps30
  go_upto_region 1 with fail
  obtain ⟨ga,hga⟩ : ∃ ga,w.heap.size = ga:=⟨_,rfl⟩
  have Hga:=Lib.hid hga;rw [hga] at hrm hB hgl ⊢;obtain ⟨W,hW⟩ : ∃ W,W = w.alloc (.cells (markVC m) 41):=⟨_,rfl⟩
  rw [← hW] at h1 hrm hB ⊢;have hr : rowAt W ga 0 32 = some (idC m.id):=by have:=rowAt_sub hrm (j:=0) (m:=32) (by omega);rwa [markVC_e0] at this
  have hc : W.cell? ⟨g,1,none⟩ = some (.slice si.A si.n si.c):=h1.cell 1 rfl;have c1:=rhas6 W.drew si.A si.n si.c I m.id (SlR.below h1.ids.1.rd (bel_drew W)) (by omega);rw [decide_eq_false hm] at c1;have Hin:=Lib.hid hin;clear hW h hga hin;refine wp_region_lex (Bel W) false (by kernel_rfl) (by kernel_rfl) (by kernel_rfl) (bel_drew W) ?_;have hne:=bel_some W;have hS:=bel_drew W;have b1:=sub_cell hc;have b2:=sub_row hr;repeat (refine wpLx_loose ?_ ?_;(focus (simp only [chainOp];done));intro K hK;go_simp;refine hK _ ?_;clear hK K)
  refine wpLx_chain ?_ ?_ ?_;(focus (exact hS));(focus (simp only [chainOp];done));intro K hK;go_simp;refine (c1).mono ?_;rintro e w' ⟨rfl,hb⟩;replace hS:=bel_next hS hb;refine ⟨_,rfl,hS,hK _ _ ?_⟩;clear hK K hb;repeat (refine wpLx_loose ?_ ?_;(focus (simp only [chainOp];done));intro K hK;go_simp;refine hK _ ?_;clear hK K)
  refine wpLx_nil ?_;intro hS;clear b1 b2 hne hc hr c1;have hS0 : Below W.heap.size W w':=hS;obtain ⟨W1,rfl⟩ : ∃ W1,W1 = w':=⟨w',rfl⟩
  have h2:=h1.below hS0;have hrm2 : rowAt W1 ga 0 34 = some (markVC m):=(rowAt_of_block (hS0.block ga (rowAt_lt hrm)) _ _).trans hrm;have hB2 : Below ga w W1:=hB.trans (hS0.mono (by have:=hB.size;have:=Hga.out;omega));clear h1 hrm hB hS hS0;go_upto_region 3 with fail
  have hr2 : rowAt W1 ga 0 32 = some (idC m.id):=by have:=rowAt_sub hrm2 (j:=0) (m:=32) (by omega);rwa [markVC_e0] at this
  have hc2 : W1.cell? ⟨g,1,none⟩ = some (.slice si.A si.n si.c):=h2.cell 1 rfl;have c2:=rwith W1.drew si.A si.n si.c I m.id (h2.ids.1.below (bel_drew W1)) (by have:=Hin.out;omega) hri;have hgl2 : g < W1.heap.size:=h2.lt;have hgx2 : W1.heap[g]? = some (.cells (rvC t si x.tal sa sg sl sm so ss sd) 69 (0,0)):=h2.hp;have hga2 : ga < W1.heap.size:=rowAt_lt hrm2;refine wp_region_lexf (Kp [] W1) false (by kernel_rfl) (by kernel_rfl) (by kernel_rfl) (by kernel_rfl) (kp_drew [] W1) ?_;have hne:=kp_some [] W1;have hS:=kp_drew [] W1;have b1:=ksub_row hr2 (S:=[]) (by simp);have b2:=ksub_cell hc2 (S:=[]) (by simp);repeat (refine wpLx_loose ?_ ?_;(focus (simp only [chainOp];done));intro K hK;go_simp;refine hK _ ?_;clear hK K)
  refine wpLx_chain ?_ ?_ ?_;(focus (exact hS));(focus (simp only [chainOp];done));intro K hK;go_simp;refine c2.mono ?_;rintro e w3 ⟨A',cap',rfl,hI3,hsub3,hb3⟩;have hb30 : Below W1.heap.size W1 w3:=bel_next (bel_drew W1) hb3;refine ⟨_,rfl,(Keep.of_below hb30),hK _ _ ?_⟩;clear hK K;have hg3 : w3.heap[g]? = some (.cells (rvC t si x.tal sa sg sl sm so ss sd) 69 (0,0)):=(hb30.block g hgl2).trans hgx2;have hc3 : w3.cell? ⟨g,1,none⟩ = some (.slice si.A si.n si.c):=by rw [cell_of_row w3 g 1 _ _ _ hg3];rfl
  have hf3 : w3.frozen? ⟨g,1,none⟩ = false:=by simp [World.frozen?,hg3]
  repeat (refine wpLx_loose ?_ ?_;(focus (simp only [chainOp];done));intro K hK;go_simp;refine hK _ ?_;clear hK K)
  refine wpLx_end ?_ ?_;(focus (simp only [chainOp];done));intro K hK;go_simp;refine hK _ _ ?_;clear hK K;have hfin:=heap_setCell_same hg3 1 (.slice A' (insC cmpId I m.id).length cap');have hks:=Keep.setCell w3 ⟨g,1,none⟩ (.slice A' (insC cmpId I m.id).length cap');have hgA3 : g ∉ blk A':=fun hx=>by
    rcases hsub3 g hx with h3 | h3
    · exact h2.ids.2 h3
    · have h4 : W1.drew.heap.size = W1.heap.size:=rfl;omega
  have hk13 : Keep [g] W1 (w3.setCell ⟨g,1,none⟩ (.slice A' (insC cmpId I m.id).length cap')):=Keep.trans ((Keep.of_below hb30).mono (S':=[g]) (by simp)) hks (fun x hx=>.inl hx);have hI4 : IdsW (w3.setCell ⟨g,1,none⟩ (.slice A' (insC cmpId I m.id).length cap')) A' (insC cmpId I m.id).length cap' (insC cmpId I m.id):=hI3.kept hks (fun x hx hm=>hgA3 (by simp at hm;rw [← hm];exact hx));have hV3 : RVAt (w3.setCell ⟨g,1,none⟩ (.slice A' (insC cmpId I m.id).length cap')) g t (insC cmpId I m.id) x :=
    ⟨⟨A',(insC cmpId I m.id).length,cap'⟩,sa,sg,sl,sm,so,ss,sd,hfin,⟨hI4,hgA3⟩,h2.adds.keep hk13,h2.gone.keep hk13,h2.last.keep hk13,h2.mL.keep hk13,h2.mO.keep hk13,h2.sL.keep hk13,h2.sG.keep hk13⟩
  have hrm3 : rowAt (w3.setCell ⟨g,1,none⟩ (.slice A' (insC cmpId I m.id).length cap')) ga 0 34 = some (markVC m):=(hk13.row hga2 (by simp;omega) _ _).trans hrm2;have hK3 : Keep [g] w (w3.setCell ⟨g,1,none⟩ (.slice A' (insC cmpId I m.id).length cap')):=Keep.trans ((Keep.of_below (hB2.mono (by rw [Hga.out];exact Nat.le_refl _))).mono (S':=[g]) (by simp)) hk13 (fun x hx=>.inl hx);obtain ⟨w2,hw2⟩ : ∃ w2,(w3.setCell ⟨g,1,none⟩ (.slice A' (insC cmpId I m.id).length cap')) = w2:=⟨_,rfl⟩
  obtain ⟨J,hJ⟩ : ∃ J,insC cmpId I m.id = J:=⟨_,rfl⟩
  have HJ:=Lib.hid hJ;rw [hJ] at hw2 ⊢;rw [hJ,hw2] at hV3;rw [hJ,hw2] at hrm3 hK3;rw [hw2];clear hI4 hgA3 hks hfin hf3 hc3 hg3 hb30 hb3 hI3 hk13 hw2 b1 b2 hne hS hgx2 hgl2 c2 hc2 hr2 h2 hrm2 hB2 hJ;have hbd2 : w2.cell? ⟨ga,33,none⟩ = some (.string m.body):=by have:=rowAt_cell hrm3 (j:=33) (by omega);rwa [markVC_g33,Nat.zero_add] at this
  have cop:=rop_of m.body w2 hs;obtain ⟨l,hl⟩ : ∃ l,m.body.data.toList = l:=⟨_,rfl⟩
  have Hl:=Lib.hid hl;have hfit : fits t m ↔ opE l = 0 ∧ belongs (opO l).k = kindB t:=by unfold fits;rw [hl]
  have hfo : rfoldS t m x = if fits t m then rdoO m (opO l) x else x:=by unfold rfoldS;rw [rdoO_eq];unfold oOf;rw [hl]
  have Hfo:=Lib.hid hfo;rw [hl] at cop;obtain ⟨E,hE⟩ : ∃ E,opE l = E:=⟨_,rfl⟩
  clear hl hfo;(go_wp2_with fail);refine cop.mono ?_;rintro en w4 ⟨V,rfl,hok4,hbad,hb4⟩;rw [hE] at hok4 hbad ⊢;have hV4:=hV3.below hb4;have hrm4 : rowAt w4 ga 0 34 = some (markVC m):=(rowAt_of_block (hb4.block ga (rowAt_lt hrm3)) _ _).trans hrm3;have hK4 : Keep [g] w w4:=Keep.trans hK3 (Keep.of_below hb4) (by simp);have hKw:=hK3.size;clear cop hb4 hV3 hrm3 hbd2 hK3;by_cases h0 : E = 0
  · subst h0;obtain ⟨A,c,rfl,hown⟩:=hok4 rfl;have hoo:=opO_ok l hE;have hlo:=opO_lo l hE;have hgA : g ∉ blk A:=fun hx=>(by have:=(hown.at_base hx).1;have:=hgl;have:=Hga.out;omega);have hfit' : fits t m ↔ belongs (opO l).k = kindB t:=by rw [hfit];exact ⟨fun h=>h.2,fun h=>⟨hE,h⟩⟩
    obtain ⟨o,ho⟩ : ∃ o,opO l = o:=⟨_,rfl⟩
    have hfo2:=Hfo.out;rw [ho] at hoo hown hfit' hlo hfo2 ⊢;have Hfo2:=Lib.hid hfo2;clear hfo2;have hkl : o.k ≤ 9223372036854775807:=by have:=hoo.2.2.1;omega
    have Hoo:=Lib.hid hoo;have Hlo:=Lib.hid hlo;clear hok4 hbad hfit hE ho hoo hlo;have hb5 : Below w4.heap.size w4 (w4.alloc (.cells (opC o A c) 52)):=(Below.refl _ _).alloc (Nat.le_refl _) _;have h5:=hV4.below hb5;have hrm5 : rowAt (w4.alloc (.cells (opC o A c) 52)) ga 0 34 = some (markVC m):=(rowAt_of_block (hb5.block ga (rowAt_lt hrm4)) _ _).trans hrm4;have hown5:=hown.below hb5;have hro5 : rowAt (w4.alloc (.cells (opC o A c) 52)) w4.heap.size 0 37 = some (opC o A c):=by simp [go_sem]
    have hK5 : Keep [g] w (w4.alloc (.cells (opC o A c) 52)):=Keep.trans hK4 (Keep.of_below hb5) (by simp);clear hb5 hV4 hrm4 hown hK4;unfold opC at h5 hrm5 hown5 hro5 hK5 ⊢;go_upto_region 5 with fail
    obtain ⟨go,hgo⟩ : ∃ go,w4.heap.size = go:=⟨_,rfl⟩
    obtain ⟨W4,hW4⟩ : ∃ W4,W4 = (w4.alloc (.cells (opPC ⟨o.k,o.n,o.key,o.val,o.ref,.slice A o.refs.length c⟩) 52)):=⟨_,rfl⟩
    rw [← hW4] at h5 hrm5 hown5 hro5 hK5 ⊢;rw [hgo] at hro5 ⊢;clear hW4 hgo;have hcK:=rowAt_cell hro5 (j:=0) (by omega);rw [opPC_g0,Nat.zero_add] at hcK;obtain ⟨si',sa',sg',sl',sm',so',ss',sd',h5'⟩:=h5;have hc0 : W4.cell? ⟨g,0,none⟩ = some (.string t):=h5'.cell 0 rfl;have h5 : RVAt W4 g t J x:=⟨si',sa',sg',sl',sm',so',ss',sd',h5'⟩
    clear h5';have cb:=rop_belongs o.k W4.drew hkl;have ck:=rkind_any t W4.drew ht;obtain ⟨B1,hB1⟩ : ∃ B1,belongs o.k = B1:=⟨_,rfl⟩
    obtain ⟨K1,hK1⟩ : ∃ K1,kindB t = K1:=⟨_,rfl⟩
    rw [hB1,hK1] at hfit';rw [hB1] at cb;rw [hK1] at ck;have Hfit:=Lib.hid hfit';clear hB1 hK1 hfit';refine wp_region_lex (Bel W4) false (by kernel_rfl) (by kernel_rfl) (by kernel_rfl) (bel_drew W4) ?_;have hne:=bel_some W4;have hS:=bel_drew W4;have b1:=sub_cell hcK;have b2:=sub_cell hc0;repeat (refine wpLx_loose ?_ ?_;(focus (simp only [chainOp];done));intro K hK;go_simp;refine hK _ ?_;clear hK K)
    refine wpLx_chain ?_ ?_ ?_;(focus (exact hS));(focus (simp only [chainOp];done));intro K hK;go_simp;refine (cb).mono ?_;rintro e w' ⟨rfl,rfl⟩;refine ⟨_,rfl,hS,hK _ _ ?_⟩;clear hK K;repeat (refine wpLx_loose ?_ ?_;(focus (simp only [chainOp];done));intro K hK;go_simp;refine hK _ ?_;clear hK K)
    refine wpLx_chain ?_ ?_ ?_;(focus (exact hS));(focus (simp only [chainOp];done));intro K hK;go_simp;refine (ck).mono ?_;rintro e w' ⟨rfl,hb⟩;replace hS:=bel_next hS hb;refine ⟨_,rfl,hS,hK _ _ ?_⟩;clear hK K hb;repeat (refine wpLx_loose ?_ ?_;(focus (simp only [chainOp];done));intro K hK;go_simp;refine hK _ ?_;clear hK K)
    refine wpLx_nil ?_;intro hS;have hS' : Below W4.heap.size W4 w':=hS;have h6:=h5.below hS';have hrm6 : rowAt w' ga 0 34 = some (markVC m):=(rowAt_of_block (hS'.block ga (rowAt_lt hrm5)) _ _).trans hrm5;have hro6 : rowAt w' go 0 37 = some (opPC ⟨o.k,o.n,o.key,o.val,o.ref,.slice A o.refs.length c⟩):=(rowAt_of_block (hS'.block go (rowAt_lt hro5)) _ _).trans hro5;have hown6:=hown5.below hS';have hK6 : Keep [g] w w':=Keep.trans hK5 (Keep.of_below hS') (by simp);clear b1 b2 hne hS cb ck hcK hc0 h5 hrm5 hro5 hown5 hK5 hS';obtain ⟨W5,rfl⟩ : ∃ W5,W5 = w':=⟨w',rfl⟩
    cases hbb : (B1 == K1) with
    | true =>
      have hf : fits t m:=Hfit.out.2 (by simpa using hbb);have hoo:=Hoo.out;have hd:=rvdoes m o A c W5 g t J x h6 hoo.2.1 hoo.2.2.1 hoo.2.2.2.1 hoo.2.2.2.2.1 hoo.2.2.2.2.2.1 Hlo.out hoo.2.2.2.2.2.2.2 hown6.slr hgA hok hl;unfold opC at hd;have hfp : rdoO m o x = rfoldS t m x:=by rw [Hfo2.out,if_pos hf]
      rw [hfp] at hd;have HK6:=Lib.hid hK6;clear hf hbb hoo h6 hown6 hK6 hfp;go_upto_region 6 with fail
      (go_wp2_with fail);refine hd.mono ?_;rintro e w6 ⟨rfl,hq,hkq⟩;have Hq:=Lib.hid hq;have Hkq:=Lib.hid (Keep.trans HK6.out hkq (fun x hx=>.inl hx));clear hq hd hkq;(go_wp2_with fail);go_ret;exact ⟨rfl,HJ.out ▸ Hq.out,Hkq.out⟩
    | false =>
      have hf : ¬ fits t m:=fun h=>(by have:=Hfit.out.1 h;rw [beq_eq_false_iff_ne] at hbb;exact hbb this);have hfp : x = rfoldS t m x:=by rw [Hfo2.out,if_neg hf]
      have Hfp:=Lib.hid hfp;have Hq:=Lib.hid h6;have HK6:=Lib.hid hK6;clear hf h6 hK6 hfp;(go_wp2_with fail);go_ret;exact ⟨rfl,by rw [HJ.out,← Hfp.out];exact Hq.out,HK6.out⟩
  · have hf : ¬ fits t m:=fun h=>h0 (by rw [← hE];exact (hfit.1 h).1);have hVb:=hbad h0;subst hVb;have hfp : x = rfoldS t m x:=by rw [Hfo.out,if_neg hf]
    have Hfp:=Lib.hid hfp;clear hfp;have hb5 : Below w4.heap.size w4 (w4.alloc (.cells (opPC opP0) 52)):=(Below.refl _ _).alloc (Nat.le_refl _) _;have h5:=hV4.below hb5;have hK5 : Keep [g] w (w4.alloc (.cells (opPC opP0) 52)):=Keep.trans hK4 (Keep.of_below hb5) (by simp);have hE0 : (E == 0) = false:=by simpa using h0
    clear hok4 hbad hfit hE h0 hb5 hV4 hK4 hf;go_upto_region 5 with fail
    obtain ⟨W4,hW4⟩ : ∃ W4,W4 = (w4.alloc (.cells (opPC opP0) 52)):=⟨_,rfl⟩
    rw [← hW4] at h5 hK5 ⊢;clear hW4;have Hq:=Lib.hid (h5.below (bel_drew W4));have Hk:=Lib.hid (Keep.trans hK5 (Keep.of_below (bel_drew W4)) (by simp));clear h5 hK5;refine wp_region_lex (Bel W4) false (by kernel_rfl) (by kernel_rfl) (by kernel_rfl) (bel_drew W4) ?_;have hne:=bel_some W4;have hS:=bel_drew W4;repeat (refine wpLx_loose ?_ ?_;(focus (simp only [chainOp];done));intro K hK;go_simp;refine hK _ ?_;clear hK K)
    refine wpLx_chain ?_ ?_ ?_;(focus (exact hS));(focus (simp only [chainOp];done));intro K hK;go_simp;refine hK _ _ ?_;clear hK K;repeat (refine wpLx_loose ?_ ?_;(focus (simp only [chainOp];done));intro K hK;go_simp;refine hK _ ?_;clear hK K)
    refine wpLx_chain ?_ ?_ ?_;(focus (exact hS));(focus (simp only [chainOp];done));intro K hK;go_simp;refine hK _ _ ?_;clear hK K;repeat (refine wpLx_loose ?_ ?_;(focus (simp only [chainOp];done));intro K hK;go_simp;refine hK _ ?_;clear hK K)
    refine wpLx_nil ?_;intro hS;(go_wp2_with fail);go_ret;exact ⟨rfl,by rw [HJ.out,← Hfp.out];exact Hq.out,Hk.out⟩
end
section
open Go.RowKit
theorem kids_len_of {L : List NodeV} {r : Id32} : (kids L r).length ≤ L.length:=kids_length L r
theorem rest_len {L : List NodeV} {out row : List NodeV} (hf : Forest L) (h : out ++ restL (kids L) NodeV.id (L.length + 1) row = orderN L) : out.length + (restL (kids L) NodeV.id (L.length + 1) row).length ≤ L.length:=by
  have h1:=orderN_length hf;rw [← h,List.length_append] at h1;exact h1
theorem rest_row (L : List NodeV) (k : Nat) : ∀ row : List NodeV,row.length ≤ (restL (kids L) NodeV.id k row).length
  | []=>Nat.zero_le _
  | n :: row=>by
    have h:=rest_row L k row;unfold restL at h ⊢;rw [List.flatMap_cons,List.length_append,List.length_cons,List.length_cons];omega
set_option maxRecDepth 100000 in
set_option maxHeartbeats 4000000 in
theorem rsorder (w : World) (g : Nat) (L : List NodeV) (G : List Id32) (h : RefS w g 8 L G) (hok : NodesOk L) (hX : L.length ≤ 100000) :
    Calls Tryz.prog 153 #[.pointer (some ⟨g,8,none⟩)] w fun e w'=>∃ A n cap,e = .returned (.slice A n cap) ∧ Own w' w.heap.size 213 66 A n cap ((orderN L).map nodeC) ∧ Below w.heap.size w w':=by
  have hbh:=fun (w' : World) (hb : Below w.heap.size w w') (r : Id32)=>rsbehind w' g L G r (h.below hb) hok hX;have hf:=hok.forest;have hdeep:=hf.deep;have hord : orderN L = restL (kids L) NodeV.id (L.length + 1) (kids L id0):=pre_root hdeep;have hD0 : ∀ c ∈ kids L id0,Deep (kids L) NodeV.id (L.length + 1) c.id:=fun c hc=>deep_up (hdeep c hc);have Hbh:=Lib.hid hbh;have Hf:=Lib.hid hf;have Hord:=Lib.hid hord;have HD0:=Lib.hid hD0;have c0:=hbh w (Below.refl _ _) id0;clear hbh hf hdeep hord hD0 h hok;go_enter Tryz.func153,Tryz.ntmps153
  (go_wp2_with fail);refine c0.mono ?_;rintro e w1 ⟨RA,nr,rc,rfl,hrow,hb1⟩;clear c0;(go_wp2_with fail);go_loopw [3,4] (fun out row wr=>∃ (X R : List NodeV) (A1 : Option Addr) (n1 cap1 : Nat) (A2 : Option Addr) (n2 cap2 : Nat),out = .slice A1 n1 cap1 ∧ row = .slice A2 n2 cap2 ∧ Own wr w.heap.size 213 66 A1 n1 cap1 (X.map nodeC) ∧ SlW wr A2 n2 cap2 66 (R.map nodeC) ∧ (∀ x ∈ blk A2,x ∉ blk A1) ∧ Hid (X ++ restL (kids L) NodeV.id (L.length + 1) R = orderN L) ∧ Hid (∀ c ∈ R,Deep (kids L) NodeV.id (L.length + 1) c.id) ∧ Below w.heap.size w wr) (fun out _ _=>L.length - (match out with | .slice _ n _=>n | _=>0))
  case atStart=>exact ⟨[],kids L id0,none,0,0,RA,nr,rc,rfl,rfl,Own.nil _ _ _ _,hrow.slw,(by simp [blk]),(show _ = _ by rw [Hord.out];rfl),HD0,hb1⟩
  case round =>
    obtain ⟨X,R,A1,n1,cap1,A2,n2,cap2,rfl,rfl,hown,hsw,hdis,hinv,hdp,hb⟩:=hrel;have hn1 : X.length = n1:=by simpa using hown.len
    have hn2 : R.length = n2:=by simpa using hsw.len
    have hrl:=rest_len Hf.out hinv.out;have hrr:=rest_row L (L.length + 1) R;have h1L : n1 + n2 ≤ L.length:=by omega
    have Hn1:=Lib.hid hn1;cases R with
    | nil =>
      have hn0 : n2 = 0:=by simpa using hn2.symm
      subst hn0;have hX2 : X = orderN L:=by have:=hinv.out;simpa [restL] using this
      subst hX2;clear hinv hdp hrl hrr hn1 hn2;(go_wp2_with fail);go_ret;exact ⟨A1,n1,cap1,rfl,hown,hb⟩
    | cons d R' =>
      have hn2p : n2 = R'.length + 1:=by simpa using hn2.symm
      subst hn2p;obtain ⟨q,o,rfl,hr⟩:=NodesIn.get hsw.rd (i:=0) (by omega) (by simp);rw [Nat.zero_mul,Nat.add_zero,List.getElem_cons_zero] at hr;have hdd:=hdp.out d (by simp);have hinv2 : X ++ [d] ++ restL (kids L) NodeV.id (L.length + 1) (kids L d.id ++ R') = orderN L:=by
        have:=hinv.out;rw [rest_step hdd] at this;simpa using this
      have hdp2 : ∀ c ∈ kids L d.id ++ R',Deep (kids L) NodeV.id (L.length + 1) c.id:=fun c hc=>by
        rcases List.mem_append.1 hc with hc | hc
        · exact deep_kids hdd c hc
        · exact hdp.out c (by simp [hc])
      have Hinv2:=Lib.hid hinv2;have Hdp2:=Lib.hid hdp2;clear hinv hdp hdd hinv2 hdp2 hrl hrr hn1 hn2;have hszr:=hb.size;have hbx : Below wr.heap.size wr ((wr.alloc (.cells (rNodeC (nodeR d)) 213)).alloc (.cells (rNodeC (nodeR d)) 213)):=((Below.refl _ _).alloc (Nat.le_refl _) _).alloc (by simp) _;have hown1:=hown.below hbx;have hrow2 : rowAt ((wr.alloc (.cells (rNodeC (nodeR d)) 213)).alloc (.cells (rNodeC (nodeR d)) 213)) (wr.heap.size + 1) 0 66 = some (nodeC d):=by simp [go_sem]
      have hbox : rowAt ((wr.alloc (.cells (rNodeC (nodeR d)) 213)).alloc (.cells (rNodeC (nodeR d)) 213)) wr.heap.size 0 66 = some (nodeC d):=by simp [go_sem]
      have hsz2 : ((wr.alloc (.cells (rNodeC (nodeR d)) 213)).alloc (.cells (rNodeC (nodeR d)) 213)).heap.size = wr.heap.size + 2:=by simp
      have hA1 : ∀ x ∈ blk A1,w.heap.size ≤ x ∧ x < wr.heap.size:=fun x hx=>hown.at_base hx;have HA1:=Lib.hid hA1;have Hdis:=Lib.hid hdis;clear hA1 hdis;go_upto_region 6 with (at_builtin;refine L_append einfoRN rfl hown1 rfl hrow2 (nodeC_one _) (by omega) (by omega) (by simp;omega) ?_;intro A3 cap3 w3 hown3 hk3 hsub3)
      have hboxS : wr.heap.size ∉ blk A1:=fun hx=>(by have:=(HA1.out _ hx).2;omega);have hbox3 : rowAt w3 wr.heap.size 0 66 = some (nodeC d):=(hk3.row (by omega) hboxS 0 66).trans hbox;obtain ⟨f1,_,_,_⟩:=node_cells hbox3;have hsw3:=(hsw.below hbx).kept hk3 Hdis.out;have hb3 : Below w.heap.size w w3:=hb.trans ((hbx.mono hszr).trans (hk3.below (by omega) fun x hx=>(HA1.out x hx).1));have hA3 : ∀ x ∈ blk A3,x < w3.heap.size:=fun x hx=>(hown3.at_base hx).2;have HA3:=Lib.hid hA3;obtain ⟨gx,hgx⟩ : ∃ gx,wr.heap.size = gx:=⟨_,rfl⟩
      have hrows3 : (X.map nodeC) ++ [nodeC d] = (X ++ [d]).map nodeC:=by simp
      rw [hrows3] at hown3;rw [hgx] at f1 ⊢;have hgx3 : gx < w3.heap.size:=rowAt_lt f1;clear hown hown1 hrow2 hbox hbox3 hboxS hbx hsz2 hk3 hsub3 hgx hA3 hsw hr hrows3 hb;have hbe : Below w3.heap.size w3 (w3.alloc (.cells #[] 213)):=(Below.refl _ _).alloc (Nat.le_refl _) _;have hb3e : Below w.heap.size w (w3.alloc (.cells #[] 213)):=hb3.trans (hbe.mono hb3.size);have f1e:=(rowAt_of_block (hbe.block gx hgx3) 0 32).trans f1;have hownE:=Own.empty w3 w3.heap.size 213 66 (Nat.le_refl _);have c4:=Hbh.out _ hb3e d.id;(go_wp2_with fail);refine c4.mono ?_;rintro e w4 ⟨KA,nk,kc,rfl,hkr,hb4⟩;have hnk : (kids L d.id).length = nk:=by simpa using hkr.len
      have hnkL:=kids_len_of (L:=L) (r:=d.id);have hownE4:=hownE.below hb4;have hbe4 : Below w3.heap.size w3 w4:=bel2 hbe hb4;have hsw4:=hsw3.below hbe4;have hsz4:=hbe4.size;have hf4 : KA = none → kc = 0:=fun e=>(hkr.cap_le.2 e).2;have hks:=hkr.slr;have hE4 : w3.heap.size + 1 ≤ w4.heap.size:=by have:=hb4.size;simpa using this
      have hnkb : nk ≤ 100000:=by omega
      have Hnk:=Lib.hid hnk;clear c4 hownE hbe f1e f1 hkr hnk hnkL hb4 hb3e;go_upto_region 7 with (at_builtin;refine L_appends einfoRN rfl hownE4 rfl hks hf4 (onesN _) (by omega) (by omega) (by omega) ?_;intro A5 cap5 w5 hown5 hk5 hsub5)
      simp only [Nat.zero_add,List.nil_append] at hown5;have hbe5 : Below w3.heap.size w3 w5:=hbe4.trans (hk5.below (by omega) (by simp [blk]));have hsw5:=hsw3.below hbe5;have hsz5:=hbe5.size;obtain ⟨Ah,ch,hhi,hhs,hhf⟩:=hsw5.hi (P:=Tryz.prog) einfoRN (m:=1) (by omega);have hhi2 : ∀ w0 : World,(slS 65 (.slice (some ⟨q,o,none⟩) (R'.length + 1) cap2) (some (.int .i64 1)) none none).run Tryz.prog w0 = .ok (.slice Ah R'.length ch) w0:=hhi;have hs5 : SlR w5 Ah R'.length 66 (((d :: R').map nodeC).drop 1):=hhs w5 hsw5.rd;have hone2 : ∀ r ∈ ((d :: R').map nodeC).drop 1,∀ u ∈ r.toList,u.oneCell' = true:=fun r hr=>(by obtain ⟨y',_,rfl⟩:=List.mem_map.1 (List.mem_of_mem_drop hr);exact nodeC_one _);have hA5 : ∀ x ∈ blk A5,w3.heap.size ≤ x:=fun x hx=>(hown5.at_base hx).1;have HA5:=Lib.hid hA5;clear hA5 hk5 hsub5 hownE4 hks hf4 hsw4 hbe4 hsw3 hsw5 hhs hhi;go_upto_region 8 with (at_builtin;refine L_appends einfoRN rfl hown5 rfl hs5 hhf hone2 (by omega) (by omega) (by omega) ?_;intro A6 cap6 w6 hown6 hk6 hsub6)
      have hbe6 : Below w3.heap.size w3 w6:=hbe5.trans (hk6.below hsz5 HA5.out);have hown36:=hown3.below hbe6;have hrows6 : ((kids L d.id).map nodeC) ++ ((d :: R').map nodeC).drop 1 = (kids L d.id ++ R').map nodeC:=by simp
      rw [hrows6] at hown6;have hsw6:=hown6.slw;have hdis6 : ∀ x ∈ blk A6,x ∉ blk A3:=fun x hx hm=>by
        have h1:=(hown6.at_base hx).1;have h2:=HA3.out x hm;omega
      have hbF:=hb3.trans (hbe6.mono hb3.size);have Hdis6:=Lib.hid hdis6;have Hsw6:=Lib.hid hsw6;have HbF:=Lib.hid hbF;have Hown36:=Lib.hid hown36;clear hown6 hrows6 hk6 hsub6 hown3 hs5 hhi2 hhf hone2 hown5 hdis6 hsw6 hbF hown36 hbe5 hbe6;(go_wp2_with fail);go_roundw
      case rel=>exact ⟨X ++ [d],kids L d.id ++ R',A3,n1 + 1,cap3,A6,_,cap6,rfl,rfl,Hown36.out,Hsw6.out,Hdis6.out,Hinv2,Hdp2,HbF.out⟩
      case measure=>simp only [];omega
end
section
open Go.RowKit
set_option maxRecDepth 100000 in
set_option maxHeartbeats 4000000 in
theorem rslist (w : World) (g : Nat) (L : List NodeV) (G : List Id32) (h : RefS w g 8 L G) (hok : NodesOk L) (hX : L.length ≤ 100000) (hG : G.length ≤ 100000) :
    Calls Tryz.prog 77 #[.pointer (some ⟨g,8,none⟩)] w fun e w'=>∃ A n cap,e = .returned (.slice A n cap) ∧ Own w' w.heap.size 98 2 A n cap ((listS L G).map pairC) ∧ Below w.heap.size w w':=by
  have c1:=rsorder w g L G h hok hX;have hlo:=orderN_length hok.forest;have hls : listS L G = pS (orderN L) G:=rfl;rw [hls];obtain ⟨Z,hZ⟩ : ∃ Z,orderN L = Z:=⟨_,rfl⟩
  rw [hZ] at c1 hlo ⊢;clear hZ hls hok;obtain ⟨XA,nx,xc,GA,ng,gc,hc0,hc1,hXr,hGr⟩:=h;have hng : G.length = ng:=by simpa using hGr.len
  have hng1 : ng ≤ 100000:=by omega
  clear hng hc0 hXr;go_enter Tryz.func77,Tryz.ntmps77
  (go_wp2_with fail);refine c1.mono ?_;rintro e w1 ⟨RA,nz,rc,rfl,hrow,hb1⟩;have hslZ : NodesIn w1 RA nz Z:=hrow.slr;have hnz : Z.length = nz:=hslZ.len;have Hnz:=Lib.hid hnz;have hnz1 : nz ≤ 100000:=by omega
  have hc91:=(hb1.cell (p:=⟨g,9,none⟩) (World.block_lt_of_cell? w _ hc1)).trans hc1;have hG1:=SlR.below hGr hb1;clear hrow c1 hnz hc1 hGr;(go_wp2_with fail);go_loopw [3,5] (fun out i wr=>∃ (k : Nat) (A1 : Option Addr) (n1 cap1 : Nat),k ≤ nz ∧ i = .int .i64 k ∧ out = .slice A1 n1 cap1 ∧ Own wr w1.heap.size 98 2 A1 n1 cap1 ((pS (Z.take k) G).map pairC) ∧ Below w1.heap.size w1 wr) (fun _ i _=>nz - (intOf i).toNat)
  case atStart=>exact ⟨0,none,0,0,Nat.zero_le _,rfl,rfl,Own.nil _ _ _ _,Below.refl _ _⟩
  case round =>
    obtain ⟨k,A1,n,cap1,hk,rfl,rfl,hown,hb⟩:=hrel;by_cases hlt : k < nz
    · have hltZ : k < Z.length:=by rw [Hnz.out];exact hlt
      obtain ⟨q,o,rfl,hr0⟩:=NodesIn.get (SlR.below hslZ hb) hlt hltZ;have htk : pS (Z.take (k + 1)) G = if (Z[k]'hltZ).id ∈ G then pS (Z.take k) G else pS (Z.take k) G ++ [⟨⟨#[]⟩,(Z[k]'hltZ).val⟩]:=by
        rw [List.take_add_one,List.getElem?_eq_getElem hltZ,Option.toList_some,pS_snoc]
      have hOl : (pS (Z.take k) G).length = n:=by simpa using hown.len
      have hol : n ≤ 100000:=by have:=pS_len (Z.take k) G;simp at this;omega
      obtain ⟨c,hc⟩ : ∃ c,Z[k]'hltZ = c:=⟨_,rfl⟩
      rw [hc] at hr0 htk;obtain ⟨T0,hT0⟩ : ∃ T0,pS (Z.take k) G = T0:=⟨_,rfl⟩
      rw [hT0] at htk hown;have Htk:=Lib.hid htk;obtain ⟨f1,_,_,f4⟩:=node_cells hr0;clear hc hT0 htk hOl hr0;have hszr:=hb.size;have hcr:=(hb.cell (p:=⟨g,9,none⟩) (World.block_lt_of_cell? w1 _ hc91)).trans hc91;have c2:=rhas6 wr.drew GA ng gc G c.id (SlR.below hG1 hb.drew) (by omega);obtain ⟨rr,hrr⟩ : ∃ rr,decide (c.id ∈ G) = rr:=⟨_,rfl⟩
      rw [hrr] at c2;have Hrr:=Lib.hid hrr;clear hrr;go_upto_region 6 with fail
      refine wp_region_lex (Bel wr) false (by kernel_rfl) (by kernel_rfl) (by kernel_rfl) (bel_drew wr) ?_;have hne:=bel_some wr;have hS:=bel_drew wr;have b1:=sub_row f1;have b2:=sub_cell hcr;repeat (refine wpLx_loose ?_ ?_;(focus (simp only [chainOp];done));intro K hK;go_simp;refine hK _ ?_;clear hK K)
      refine wpLx_chain ?_ ?_ ?_;(focus (exact hS));(focus (simp only [chainOp];done));intro K hK;go_simp;refine (c2).mono ?_;rintro e w' ⟨rfl,hb⟩;replace hS:=bel_next hS hb;refine ⟨_,rfl,hS,hK _ _ ?_⟩;clear hK K hb;repeat (refine wpLx_loose ?_ ?_;(focus (simp only [chainOp];done));intro K hK;go_simp;refine hK _ ?_;clear hK K)
      refine wpLx_nil ?_;intro hS;have hS' : Below wr.heap.size wr w':=hS;have hbz:=bel2 hb hS';have hown1:=hown.below hS';have f4':=(hS'.cell (World.block_lt_of_cell? wr _ f4)).trans f4;have hsz':=hS'.size;clear b1 b2 hne hS c2 f1 f4 hcr hown hS' hb;cases rr with
      | true =>
        have e5:=Htk.out;rw [if_pos (of_decide_eq_true Hrr.out)] at e5;have E5:=Lib.hid e5;clear e5;(go_wp2_with fail);go_roundw
        case rel=>exact ⟨k + 1,A1,n,cap1,by omega,by go_num,rfl,(by rw [E5.out];exact hown1),hbz⟩
        case measure=>simp [intOf];omega
      | false =>
        have e5:=Htk.out;rw [if_neg (of_decide_eq_false Hrr.out)] at e5;have E5:=Lib.hid e5;clear e5;have hbx : Below w'.heap.size w' (w'.alloc (.cells (pairC ⟨⟨#[]⟩,c.val⟩) 98)):=(Below.refl _ _).alloc (Nat.le_refl _) _;have hown2:=hown1.below hbx;have hrow2 : rowAt (w'.alloc (.cells (pairC ⟨⟨#[]⟩,c.val⟩) 98)) w'.heap.size 0 2 = some (pairC ⟨⟨#[]⟩,c.val⟩):=by simp [go_sem]
        go_wp2_with (at_builtin;refine L_append einfoPair rfl hown2 rfl hrow2 (pairC_one _) (by omega) (by omega) (by simp;omega) ?_;intro A2 cap2 w2 hownA hkA hsubA)
        have hbA : Below w1.heap.size w1 w2:=hbz.trans ((hbx.mono (by omega)).trans (hkA.below (B:=w1.heap.size) (by simp;omega) fun y hy=>(hown1.at_base hy).1));(go_wp2_with fail);go_roundw
        case rel=>exact ⟨k + 1,A2,n + 1,cap2,by omega,by go_num,rfl,(by rw [E5.out];simpa using hownA),hbA⟩
        case measure=>simp [intOf];omega
    · have e : Z.take k = Z:=List.take_of_length_le (by rw [Hnz.out];omega);rw [e] at hown;clear e;(go_wp2_with fail);go_ret;exact ⟨A1,n,cap1,rfl,hown.mono hb1.size,bel2 hb1 hb⟩
end
section
open Go.RowKit
def valC (k n : Int) (A : Option Addr) (m c : Nat) : Array Value:=valVC ⟨k,n,.slice A m c⟩
set_option maxRecDepth 100000 in
set_option maxHeartbeats 1000000 in
theorem rsame26 (w : World) (k n k' n' : Int) (A B : Option Addr) (m m' c c' : Nat) (X Y : List Pair) (hx : PairsIn w A m X) (hy : PairsIn w B m' Y) (hm : m ≤ 1000000) (hm' : m' ≤ 1000000) :
    Calls Tryz.prog 15 #[.agg (valC k n A m c),.agg (valC k' n' B m' c')] w fun e w'=>e = .returned (.bool (decide (k = k' ∧ n = n' ∧ X = Y))) ∧ Below w.heap.size w w':=by
  have hB : Below w.heap.size w ((w.alloc (.cells (valC k n A m c) 25)).alloc (.cells (valC k' n' B m' c') 25)):=((Below.refl _ _).alloc (Nat.le_refl _) _).alloc (by simp) _;have hx1:=SlR.below hx hB;have hy1:=SlR.below hy hB;have cp:=rpairs _ A B m m' c c' X Y hx1 hy1 hm hm';unfold valC at hB cp ⊢;have hd : decide (k = k' ∧ n = n' ∧ X = Y) = ((k == k') && (n == n') && decide (X = Y)):=by
    rw [Bool.eq_iff_iff];simp [and_assoc]
  obtain ⟨b,hb⟩ : ∃ b,decide (X = Y) = b:=⟨_,rfl⟩
  rw [hb] at cp hd;have Hd:=Lib.hid hd;clear hd hx1 hy1 hb hx hy;obtain ⟨b1,h1⟩ : ∃ b1,(k == k') = b1:=⟨_,rfl⟩
  obtain ⟨b2,h2⟩ : ∃ b2,(n == n') = b2:=⟨_,rfl⟩
  have Hd2 : Hid (decide (k = k' ∧ n = n' ∧ X = Y) = (b1 && b2 && b)):=by show _ = _;rw [Hd.out,h1,h2]
  clear Hd;cases b1 <;> cases b2
  all_goals
    go_enter Tryz.func15,Tryz.ntmps15
    go_wp2_with fail
    first
    | (go_ret;exact ⟨ret_bool (by rw [Hd2.out];rfl),hB⟩)
    | (refine cp.mono ?_;rintro e w1 ⟨rfl,hb1⟩
       have hBB:=bel2 hB hb1;clear cp hb1 hB;(go_wp2_with fail);go_ret;exact ⟨ret_bool (by rw [Hd2.out];rfl),hBB⟩)
end
section
open Go.RowKit
@[go_sem] theorem buildValV_kn (k n : Int) (w : World) : (bdS 25 #[(0,.int .i64 k),(1,.int .i64 n)]).run Tryz.prog w = .ok (.agg (valVC ⟨k,n,.slice none 0 0⟩)) w:=by kernel_rfl
@[go_sem] theorem buildValV_kl (k : Int) (A : Option Addr) (n c : Nat) (w : World) : (bdS 25 #[(0,.int .i64 k),(2,.slice A n c)]).run Tryz.prog w = .ok (.agg (valVC ⟨k,0,.slice A n c⟩)) w:=by kernel_rfl
set_option maxRecDepth 100000 in
set_option maxHeartbeats 2000000 in
theorem rvvalue_b (w : World) (g : Nat) (t : ByteArray) (I : List Id32) (x : RV) (L : List Pair) (h : RVAt w g t I x) (ht : t.size ≤ 9223372036854775807) (hk : kindB t = 2)
    (cl : ∀ w' si sa sg sl sm so ss sd,RVIn w' g t I x si sa sg sl sm so ss sd → Calls Tryz.prog 74 #[.pointer (some ⟨g,3,none⟩)] w' fun e w''=>∃ A n cap,e = .returned (.slice A n cap) ∧ Own w'' w'.heap.size 98 2 A n cap (L.map pairC) ∧ Below w'.heap.size w' w'') :
    Calls Tryz.prog 31 #[.pointer (some ⟨g,0,none⟩)] w fun e w'=>∃ A n cap,e = .returned (.agg (valVC ⟨2,0,.slice A n cap⟩)) ∧ Own w' w.heap.size 98 2 A n cap (L.map pairC) ∧ Below w.heap.size w w':=by
  obtain ⟨si,sa,sg,sl,sm,so,ss,sd,h⟩:=h;have c1:=fun w=>rkind_any t w ht;rw [hk] at c1;have hB : Below w.heap.size w (w.alloc (.cells (valVC valV0) 25)):=(Below.refl _ _).alloc (Nat.le_refl _) _;have h1:=h.below hB;have hg1 : (w.alloc (.cells (valVC valV0) 25)).heap[w.heap.size]? = some (.cells (valVC valV0) 25 (0,0)):=heap_alloc_new w _;go_enter Tryz.func31,Tryz.ntmps31
  go_upto_region 1 with fail
  obtain ⟨ga,hga⟩ : ∃ ga,w.heap.size = ga:=⟨_,rfl⟩
  have Hga:=Lib.hid hga;rw [hga] at hg1 hB ⊢;obtain ⟨W,hW⟩ : ∃ W,W = w.alloc (.cells (valVC valV0) 25):=⟨_,rfl⟩
  rw [← hW] at h1 hg1 hB ⊢;clear hW hga h;have hc0 : W.cell? ⟨g,0,none⟩ = some (.string t):=h1.cell 0 rfl;(go_wp2_with fail);refine (c1 _).mono ?_;rintro e w2 ⟨rfl,hb2⟩;have h2:=h1.below hb2;have hg2:=(hb2.block ga (Array.getElem?_eq_some_iff.1 hg1).1).trans hg1;have hB2 : Below ga w w2:=hB.trans (hb2.mono (by have:=hB.size;have:=Hga.out;omega));have hs2 : ga < w2.heap.size:=(Array.getElem?_eq_some_iff.1 hg2).1;clear hc0 h1 hg1 hB hb2 c1;have cl2:=cl w2 si sa sg sl sm so ss sd h2;have hgv : w2.cell? ⟨g,5,none⟩ = some (.slice sl.A sl.n sl.c):=h2.cell 5 rfl;clear cl h2;(go_wp2_with fail);refine cl2.mono ?_;rintro e w3 ⟨A,n,cap,rfl,hown,hb3⟩;have hg3:=(hb3.block ga hs2).trans hg2;have hB3 : Below ga w w3:=hB2.trans (hb3.mono (by omega));clear hg2 hB2 cl2 hgv;have hsto:=run_stS_at (P:=Tryz.prog) infoValV w3 ga (valVC valV0) (valVC ⟨2,0,.slice A n cap⟩) _ hg3 (by simp) (by simp) (valVC_one _ rfl);have hkf : Keep [ga] w3 (w3.setRow ga (valVC ⟨2,0,.slice A n cap⟩)):=⟨rfl,rfl,rfl,by simp [World.setRow],fun x _ hx=>setRow_other w3 ga x _ (by simpa using hx)⟩
  have Hfin:=Lib.hid (setRow_heap w3 ga _ (valVC ⟨2,0,.slice A n cap⟩) _ _ hg3);have HBf:=Lib.hid (hB3.trans (hkf.below (by have:=hB3.size;have:=Hga.out;omega) (by simp)));have HO:=Lib.hid ((hown.kept hkf (fun x hx=>by have:=hown.at_base hx;simp;omega)).mono (B':=w.heap.size) (by have:=Hga.out;omega));clear hkf hg3 hB3 hown hb3;(go_wp2_with fail);refine bodyPost_ret (results_cell_row Tryz.results31 _ _ ga 25 (valVC ⟨2,0,.slice A n cap⟩) (0,0) _ rfl Hfin.out Tryz.underlying25 rfl (by rw [valVC_size];exact infoValV)) rfl ?_;exact ⟨A,n,cap,rfl,HO.out,by rw [Hga.out];exact HBf.out⟩
set_option maxRecDepth 100000 in
set_option maxHeartbeats 2000000 in
theorem rvvalue_l (w : World) (g : Nat) (t : ByteArray) (I : List Id32) (x : RV) (L : List Pair) (h : RVAt w g t I x) (ht : t.size ≤ 9223372036854775807) (hk : kindB t = 3)
    (cl : ∀ w' si sa sg sl sm so ss sd,RVIn w' g t I x si sa sg sl sm so ss sd → Calls Tryz.prog 75 #[.slice sl.A sl.n sl.c] w' fun e w''=>∃ A n cap,e = .returned (.slice A n cap) ∧ Own w'' w'.heap.size 98 2 A n cap (L.map pairC) ∧ Below w'.heap.size w' w'') :
    Calls Tryz.prog 31 #[.pointer (some ⟨g,0,none⟩)] w fun e w'=>∃ A n cap,e = .returned (.agg (valVC ⟨3,0,.slice A n cap⟩)) ∧ Own w' w.heap.size 98 2 A n cap (L.map pairC) ∧ Below w.heap.size w w':=by
  obtain ⟨si,sa,sg,sl,sm,so,ss,sd,h⟩:=h;have c1:=fun w=>rkind_any t w ht;rw [hk] at c1;have hB : Below w.heap.size w (w.alloc (.cells (valVC valV0) 25)):=(Below.refl _ _).alloc (Nat.le_refl _) _;have h1:=h.below hB;have hg1 : (w.alloc (.cells (valVC valV0) 25)).heap[w.heap.size]? = some (.cells (valVC valV0) 25 (0,0)):=heap_alloc_new w _;go_enter Tryz.func31,Tryz.ntmps31
  go_upto_region 1 with fail
  obtain ⟨ga,hga⟩ : ∃ ga,w.heap.size = ga:=⟨_,rfl⟩
  have Hga:=Lib.hid hga;rw [hga] at hg1 hB ⊢;obtain ⟨W,hW⟩ : ∃ W,W = w.alloc (.cells (valVC valV0) 25):=⟨_,rfl⟩
  rw [← hW] at h1 hg1 hB ⊢;clear hW hga h;have hc0 : W.cell? ⟨g,0,none⟩ = some (.string t):=h1.cell 0 rfl;(go_wp2_with fail);refine (c1 _).mono ?_;rintro e w2 ⟨rfl,hb2⟩;have h2:=h1.below hb2;have hg2:=(hb2.block ga (Array.getElem?_eq_some_iff.1 hg1).1).trans hg1;have hB2 : Below ga w w2:=hB.trans (hb2.mono (by have:=hB.size;have:=Hga.out;omega));have hs2 : ga < w2.heap.size:=(Array.getElem?_eq_some_iff.1 hg2).1;clear hc0 h1 hg1 hB hb2 c1;have cl2:=cl w2 si sa sg sl sm so ss sd h2;have hgv : w2.cell? ⟨g,5,none⟩ = some (.slice sl.A sl.n sl.c):=h2.cell 5 rfl;clear cl h2;(go_wp2_with fail);refine cl2.mono ?_;rintro e w3 ⟨A,n,cap,rfl,hown,hb3⟩;have hg3:=(hb3.block ga hs2).trans hg2;have hB3 : Below ga w w3:=hB2.trans (hb3.mono (by omega));clear hg2 hB2 cl2 hgv;have hsto:=run_stS_at (P:=Tryz.prog) infoValV w3 ga (valVC valV0) (valVC ⟨3,0,.slice A n cap⟩) _ hg3 (by simp) (by simp) (valVC_one _ rfl);have hkf : Keep [ga] w3 (w3.setRow ga (valVC ⟨3,0,.slice A n cap⟩)):=⟨rfl,rfl,rfl,by simp [World.setRow],fun x _ hx=>setRow_other w3 ga x _ (by simpa using hx)⟩
  have Hfin:=Lib.hid (setRow_heap w3 ga _ (valVC ⟨3,0,.slice A n cap⟩) _ _ hg3);have HBf:=Lib.hid (hB3.trans (hkf.below (by have:=hB3.size;have:=Hga.out;omega) (by simp)));have HO:=Lib.hid ((hown.kept hkf (fun x hx=>by have:=hown.at_base hx;simp;omega)).mono (B':=w.heap.size) (by have:=Hga.out;omega));clear hkf hg3 hB3 hown hb3;(go_wp2_with fail);refine bodyPost_ret (results_cell_row Tryz.results31 _ _ ga 25 (valVC ⟨3,0,.slice A n cap⟩) (0,0) _ rfl Hfin.out Tryz.underlying25 rfl (by rw [valVC_size];exact infoValV)) rfl ?_;exact ⟨A,n,cap,rfl,HO.out,by rw [Hga.out];exact HBf.out⟩
set_option maxRecDepth 100000 in
set_option maxHeartbeats 2000000 in
theorem rvvalue_m (w : World) (g : Nat) (t : ByteArray) (I : List Id32) (x : RV) (L : List Pair) (h : RVAt w g t I x) (ht : t.size ≤ 9223372036854775807) (hk : kindB t = 4)
    (cl : ∀ w' si sa sg sl sm so ss sd,RVIn w' g t I x si sa sg sl sm so ss sd → Calls Tryz.prog 76 #[.pointer (some ⟨g,6,none⟩)] w' fun e w''=>∃ A n cap,e = .returned (.slice A n cap) ∧ Own w'' w'.heap.size 98 2 A n cap (L.map pairC) ∧ Below w'.heap.size w' w'') :
    Calls Tryz.prog 31 #[.pointer (some ⟨g,0,none⟩)] w fun e w'=>∃ A n cap,e = .returned (.agg (valVC ⟨4,0,.slice A n cap⟩)) ∧ Own w' w.heap.size 98 2 A n cap (L.map pairC) ∧ Below w.heap.size w w':=by
  obtain ⟨si,sa,sg,sl,sm,so,ss,sd,h⟩:=h;have c1:=fun w=>rkind_any t w ht;rw [hk] at c1;have hB : Below w.heap.size w (w.alloc (.cells (valVC valV0) 25)):=(Below.refl _ _).alloc (Nat.le_refl _) _;have h1:=h.below hB;have hg1 : (w.alloc (.cells (valVC valV0) 25)).heap[w.heap.size]? = some (.cells (valVC valV0) 25 (0,0)):=heap_alloc_new w _;go_enter Tryz.func31,Tryz.ntmps31
  go_upto_region 1 with fail
  obtain ⟨ga,hga⟩ : ∃ ga,w.heap.size = ga:=⟨_,rfl⟩
  have Hga:=Lib.hid hga;rw [hga] at hg1 hB ⊢;obtain ⟨W,hW⟩ : ∃ W,W = w.alloc (.cells (valVC valV0) 25):=⟨_,rfl⟩
  rw [← hW] at h1 hg1 hB ⊢;clear hW hga h;have hc0 : W.cell? ⟨g,0,none⟩ = some (.string t):=h1.cell 0 rfl;(go_wp2_with fail);refine (c1 _).mono ?_;rintro e w2 ⟨rfl,hb2⟩;have h2:=h1.below hb2;have hg2:=(hb2.block ga (Array.getElem?_eq_some_iff.1 hg1).1).trans hg1;have hB2 : Below ga w w2:=hB.trans (hb2.mono (by have:=hB.size;have:=Hga.out;omega));have hs2 : ga < w2.heap.size:=(Array.getElem?_eq_some_iff.1 hg2).1;clear hc0 h1 hg1 hB hb2 c1;have cl2:=cl w2 si sa sg sl sm so ss sd h2;have hgv : w2.cell? ⟨g,5,none⟩ = some (.slice sl.A sl.n sl.c):=h2.cell 5 rfl;clear cl h2;(go_wp2_with fail);refine cl2.mono ?_;rintro e w3 ⟨A,n,cap,rfl,hown,hb3⟩;have hg3:=(hb3.block ga hs2).trans hg2;have hB3 : Below ga w w3:=hB2.trans (hb3.mono (by omega));clear hg2 hB2 cl2 hgv;have hsto:=run_stS_at (P:=Tryz.prog) infoValV w3 ga (valVC valV0) (valVC ⟨4,0,.slice A n cap⟩) _ hg3 (by simp) (by simp) (valVC_one _ rfl);have hkf : Keep [ga] w3 (w3.setRow ga (valVC ⟨4,0,.slice A n cap⟩)):=⟨rfl,rfl,rfl,by simp [World.setRow],fun x _ hx=>setRow_other w3 ga x _ (by simpa using hx)⟩
  have Hfin:=Lib.hid (setRow_heap w3 ga _ (valVC ⟨4,0,.slice A n cap⟩) _ _ hg3);have HBf:=Lib.hid (hB3.trans (hkf.below (by have:=hB3.size;have:=Hga.out;omega) (by simp)));have HO:=Lib.hid ((hown.kept hkf (fun x hx=>by have:=hown.at_base hx;simp;omega)).mono (B':=w.heap.size) (by have:=Hga.out;omega));clear hkf hg3 hB3 hown hb3;(go_wp2_with fail);refine bodyPost_ret (results_cell_row Tryz.results31 _ _ ga 25 (valVC ⟨4,0,.slice A n cap⟩) (0,0) _ rfl Hfin.out Tryz.underlying25 rfl (by rw [valVC_size];exact infoValV)) rfl ?_;exact ⟨A,n,cap,rfl,HO.out,by rw [Hga.out];exact HBf.out⟩
set_option maxRecDepth 100000 in
set_option maxHeartbeats 2000000 in
theorem rvvalue_s (w : World) (g : Nat) (t : ByteArray) (I : List Id32) (x : RV) (L : List Pair) (h : RVAt w g t I x) (ht : t.size ≤ 9223372036854775807) (hk : kindB t = 5)
    (cl : ∀ w' si sa sg sl sm so ss sd,RVIn w' g t I x si sa sg sl sm so ss sd → Calls Tryz.prog 77 #[.pointer (some ⟨g,8,none⟩)] w' fun e w''=>∃ A n cap,e = .returned (.slice A n cap) ∧ Own w'' w'.heap.size 98 2 A n cap (L.map pairC) ∧ Below w'.heap.size w' w'') :
    Calls Tryz.prog 31 #[.pointer (some ⟨g,0,none⟩)] w fun e w'=>∃ A n cap,e = .returned (.agg (valVC ⟨5,0,.slice A n cap⟩)) ∧ Own w' w.heap.size 98 2 A n cap (L.map pairC) ∧ Below w.heap.size w w':=by
  obtain ⟨si,sa,sg,sl,sm,so,ss,sd,h⟩:=h;have c1:=fun w=>rkind_any t w ht;rw [hk] at c1;have hB : Below w.heap.size w (w.alloc (.cells (valVC valV0) 25)):=(Below.refl _ _).alloc (Nat.le_refl _) _;have h1:=h.below hB;have hg1 : (w.alloc (.cells (valVC valV0) 25)).heap[w.heap.size]? = some (.cells (valVC valV0) 25 (0,0)):=heap_alloc_new w _;go_enter Tryz.func31,Tryz.ntmps31
  go_upto_region 1 with fail
  obtain ⟨ga,hga⟩ : ∃ ga,w.heap.size = ga:=⟨_,rfl⟩
  have Hga:=Lib.hid hga;rw [hga] at hg1 hB ⊢;obtain ⟨W,hW⟩ : ∃ W,W = w.alloc (.cells (valVC valV0) 25):=⟨_,rfl⟩
  rw [← hW] at h1 hg1 hB ⊢;clear hW hga h;have hc0 : W.cell? ⟨g,0,none⟩ = some (.string t):=h1.cell 0 rfl;(go_wp2_with fail);refine (c1 _).mono ?_;rintro e w2 ⟨rfl,hb2⟩;have h2:=h1.below hb2;have hg2:=(hb2.block ga (Array.getElem?_eq_some_iff.1 hg1).1).trans hg1;have hB2 : Below ga w w2:=hB.trans (hb2.mono (by have:=hB.size;have:=Hga.out;omega));have hs2 : ga < w2.heap.size:=(Array.getElem?_eq_some_iff.1 hg2).1;clear hc0 h1 hg1 hB hb2 c1;have cl2:=cl w2 si sa sg sl sm so ss sd h2;have hgv : w2.cell? ⟨g,5,none⟩ = some (.slice sl.A sl.n sl.c):=h2.cell 5 rfl;clear cl h2;(go_wp2_with fail);refine cl2.mono ?_;rintro e w3 ⟨A,n,cap,rfl,hown,hb3⟩;have hg3:=(hb3.block ga hs2).trans hg2;have hB3 : Below ga w w3:=hB2.trans (hb3.mono (by omega));clear hg2 hB2 cl2 hgv;have hsto:=run_stS_at (P:=Tryz.prog) infoValV w3 ga (valVC valV0) (valVC ⟨5,0,.slice A n cap⟩) _ hg3 (by simp) (by simp) (valVC_one _ rfl);have hkf : Keep [ga] w3 (w3.setRow ga (valVC ⟨5,0,.slice A n cap⟩)):=⟨rfl,rfl,rfl,by simp [World.setRow],fun x _ hx=>setRow_other w3 ga x _ (by simpa using hx)⟩
  have Hfin:=Lib.hid (setRow_heap w3 ga _ (valVC ⟨5,0,.slice A n cap⟩) _ _ hg3);have HBf:=Lib.hid (hB3.trans (hkf.below (by have:=hB3.size;have:=Hga.out;omega) (by simp)));have HO:=Lib.hid ((hown.kept hkf (fun x hx=>by have:=hown.at_base hx;simp;omega)).mono (B':=w.heap.size) (by have:=Hga.out;omega));clear hkf hg3 hB3 hown hb3;(go_wp2_with fail);refine bodyPost_ret (results_cell_row Tryz.results31 _ _ ga 25 (valVC ⟨5,0,.slice A n cap⟩) (0,0) _ rfl Hfin.out Tryz.underlying25 rfl (by rw [valVC_size];exact infoValV)) rfl ?_;exact ⟨A,n,cap,rfl,HO.out,by rw [Hga.out];exact HBf.out⟩
set_option maxRecDepth 100000 in
set_option maxHeartbeats 2000000 in
theorem rvvalue_t (w : World) (g : Nat) (t : ByteArray) (I : List Id32) (x : RV) (h : RVAt w g t I x) (ht : t.size ≤ 9223372036854775807) (hk : kindB t = 1) :
    Calls Tryz.prog 31 #[.pointer (some ⟨g,0,none⟩)] w fun e w'=>e = .returned (.agg (valVC ⟨1,x.tal,.slice none 0 0⟩)) ∧ Below w.heap.size w w':=by
  obtain ⟨si,sa,sg,sl,sm,so,ss,sd,h⟩:=h;have c1:=fun w=>rkind_any t w ht;rw [hk] at c1;have hB : Below w.heap.size w (w.alloc (.cells (valVC valV0) 25)):=(Below.refl _ _).alloc (Nat.le_refl _) _;have h1:=h.below hB;have hg1 : (w.alloc (.cells (valVC valV0) 25)).heap[w.heap.size]? = some (.cells (valVC valV0) 25 (0,0)):=heap_alloc_new w _;go_enter Tryz.func31,Tryz.ntmps31
  go_upto_region 1 with fail
  obtain ⟨ga,hga⟩ : ∃ ga,w.heap.size = ga:=⟨_,rfl⟩
  have Hga:=Lib.hid hga;rw [hga] at hg1 hB ⊢;obtain ⟨W,hW⟩ : ∃ W,W = w.alloc (.cells (valVC valV0) 25):=⟨_,rfl⟩
  rw [← hW] at h1 hg1 hB ⊢;clear hW hga h;have hc0 : W.cell? ⟨g,0,none⟩ = some (.string t):=h1.cell 0 rfl;(go_wp2_with fail);refine (c1 _).mono ?_;rintro e w2 ⟨rfl,hb2⟩;have h2:=h1.below hb2;have hg2:=(hb2.block ga (Array.getElem?_eq_some_iff.1 hg1).1).trans hg1;have hB2 : Below ga w w2:=hB.trans (hb2.mono (by have:=hB.size;have:=Hga.out;omega));have hs2 : ga < w2.heap.size:=(Array.getElem?_eq_some_iff.1 hg2).1;clear hc0 h1 hg1 hB hb2 c1;have hgv : w2.cell? ⟨g,2,none⟩ = some (.int .i64 x.tal):=h2.cell 2 rfl;clear h2;obtain ⟨w3,rfl⟩ : ∃ w3,w3 = w2:=⟨_,rfl⟩
  have hg3:=hg2;have hB3:=hB2;clear hg2 hB2;have hsto:=run_stS_at (P:=Tryz.prog) infoValV w3 ga (valVC valV0) (valVC ⟨1,x.tal,.slice none 0 0⟩) _ hg3 (by simp) (by simp) (valVC_one _ rfl);have hkf : Keep [ga] w3 (w3.setRow ga (valVC ⟨1,x.tal,.slice none 0 0⟩)):=⟨rfl,rfl,rfl,by simp [World.setRow],fun x _ hx=>setRow_other w3 ga x _ (by simpa using hx)⟩
  have Hfin:=Lib.hid (setRow_heap w3 ga _ (valVC ⟨1,x.tal,.slice none 0 0⟩) _ _ hg3);have HBf:=Lib.hid (hB3.trans (hkf.below (by have:=hB3.size;have:=Hga.out;omega) (by simp)));clear hkf hg3 hB3;(go_wp2_with fail);refine bodyPost_ret (results_cell_row Tryz.results31 _ _ ga 25 (valVC ⟨1,x.tal,.slice none 0 0⟩) (0,0) _ rfl Hfin.out Tryz.underlying25 rfl (by rw [valVC_size];exact infoValV)) rfl ?_;exact ⟨rfl,by rw [Hga.out];exact HBf.out⟩
theorem rvvalue (w : World) (g : Nat) (t : ByteArray) (I : List Id32) (x : RV) (h : RVAt w g t I x) (ht : t.size ≤ 9223372036854775807) (hk : kindB t ≠ 0) (hok : RVOk x) (hl : x.len ≤ 10000) :
    Calls Tryz.prog 31 #[.pointer (some ⟨g,0,none⟩)] w fun e w'=>∃ A n cap,e = .returned (.agg (valVC ⟨kindB t,numR (kindB t) x,.slice A n cap⟩)) ∧ Own w' w.heap.size 98 2 A n cap ((pairsR (kindB t) x).map pairC) ∧ Below w.heap.size w w':=by
  unfold RV.len at hl;rcases kindB_range t with e | e | e | e | e | e
  · exact absurd e hk
  · rw [e];exact (rvvalue_t w g t I x h ht e).mono fun e w' ⟨h1,h2⟩=>⟨none,0,0,h1,Own.nil _ _ _ _,h2⟩
  · rw [e];exact rvvalue_b w g t I x ((listB (liveR x.adds x.gone)).map pairV) h ht e fun w' si sa sg sl sm so ss sd h' =>
      (rlist3 w' g x.adds x.gone ⟨sa.A,sa.n,sa.c,sg.A,sg.n,sg.c,h'.cell 3 rfl,h'.cell 4 rfl,h'.adds.1.rd,h'.gone.1.rd⟩ (by omega) (by omega)).mono fun e w'' ⟨A,cap,h1,h2,h3⟩ =>
        ⟨A,_,cap,h1,(by rw [List.map_map];exact h2),h3⟩
  · rw [e];exact rvvalue_l w g t I x ((latestR x.last).map pairR) h ht e fun w' si sa sg sl sm so ss sd h' =>
      (rlistL w' sl.A sl.n sl.c x.last h'.last.1.rd (by have:=h'.lens;omega)).mono fun e w'' ⟨A,cap,h1,h2,h3⟩=>⟨A,_,cap,h1,h2,h3⟩
  · rw [e];exact rvvalue_m w g t I x (listM (lvM x.mL x.mO)) h ht e fun w' si sa sg sl sm so ss sd h' =>
      (rmlist w' g x.mL x.mO ⟨sm.A,sm.n,sm.c,so.A,so.n,so.c,h'.cell 6 rfl,h'.cell 7 rfl,h'.mL.1.rd,h'.mO.1.rd⟩ (by omega) (by omega)).mono fun e w'' ⟨A,n,cap,h1,h2,h3⟩=>⟨A,n,cap,h1,h2,h3⟩
  · rw [e];exact rvvalue_s w g t I x (listS x.sL x.sG) h ht e fun w' si sa sg sl sm so ss sd h' =>
      (rslist w' g x.sL x.sG ⟨ss.A,ss.n,ss.c,sd.A,sd.n,sd.c,h'.cell 8 rfl,h'.cell 9 rfl,h'.sL.1.rd,h'.sG.1.rd⟩ hok.sL (by omega) (by omega)).mono fun e w'' ⟨A,n,cap,h1,h2,h3⟩=>⟨A,n,cap,h1,h2,h3⟩
end
section
open Go.RowKit
def pow256 : Nat → Int | 0=>1 | k + 1=>256 * pow256 k
theorem beL_snoc (k n : Nat) : beL (k + 1) n = beL k (n / 256) ++ [UInt8.ofNat n]:=by
  induction k generalizing n with
  | zero=>simp [beL]
  | succ k ih =>
    have h1:=ih n;show UInt8.ofNat (n / 256 ^ (k + 1)) :: beL (k + 1) n = (UInt8.ofNat (n / 256 / 256 ^ k) :: beL k (n / 256)) ++ [UInt8.ofNat n];rw [h1,Nat.pow_succ,Nat.mul_comm,← Nat.div_div_eq_div_mul];rfl
theorem mk1 (w : World) : (Instr.makeSlice 37 (.int .i64 1) (.int .i64 1)).run Tryz.prog w = .ok (.slice (some ⟨w.heap.size,0,none⟩) 1 1) (w.alloc (.cells #[.int .u8 0] 5)):=by kernel_rfl
theorem mk4 (w : World) : (Instr.makeSlice 37 (.int .i64 4) (.int .i64 4)).run Tryz.prog w = .ok (.slice (some ⟨w.heap.size,0,none⟩) 4 4) (w.alloc (.cells #[.int .u8 0,.int .u8 0,.int .u8 0,.int .u8 0] 5)):=by kernel_rfl
theorem conv_bytes (w : World) (bs : List UInt8) (n : Nat) (hn : n = bs.length) (cs : Array Value) (hc : cs = (bs.map byteC).toArray) :
    (convert 37 9 (.slice (some ⟨w.heap.size,0,none⟩) n n)).run Tryz.prog (w.alloc (.cells cs 5)) = .ok (.string ⟨bs.toArray⟩) (w.alloc (.cells cs 5)):=by
  subst hn;subst hc;exact run_convert_bytes_back (P:=Tryz.prog) _ 37 9 5 ⟨w.heap.size,0,none⟩ bs.length bs Tryz.underlying37 Tryz.underlying5 Tryz.underlying9 (fun j hj=>by simp [go_sem,byteC,hj])
theorem u8n (n : Nat) : ((n : Int) % 256) = ((UInt8.ofNat n).toNat : Int):=by simp
set_option maxHeartbeats 1000000 in
set_option maxRecDepth 100000 in
theorem rnum1 (n : Nat) (w : World) (h : n < 256) :
    Calls Tryz.prog 83 #[.int .i64 n,.int .i64 1] w fun e w'=>e = .returned (.tuple #[.string ⟨(beL 1 n).toArray⟩,.int .i64 0]) ∧ Below w.heap.size w w':=by
  have hd1 : decide ((n : Int) < 0) = false:=by simp
  have hd2 : decide (256 ≤ (n : Int)) = false:=by simp;omega
  have hcv:=conv_bytes w (beL 1 n) 1 rfl #[.int .u8 ((n : Int) % 256)] (by rw [u8n];simp [beL,byteC]);obtain ⟨bs,hbs⟩ : ∃ bs,beL 1 n = bs:=⟨_,rfl⟩
  rw [hbs] at hcv ⊢;clear hbs;have hmk:=mk1;go_enter Tryz.func83,Tryz.ntmps83
  (go_wp2_with fail);refine wp_loop_rounds 1 ?_;rw [rounds_succ];(go_wp2_with fail);refine wp_loop_rounds 2 ?_;rw [rounds_succ];(go_wp2_with fail);rw [rounds_succ];(go_wp2_with fail);go_ret2;exact ⟨rfl,(Below.refl _ _).alloc (Nat.le_refl _) _⟩
set_option maxHeartbeats 1000000 in
set_option maxRecDepth 100000 in
theorem rnum4 (n : Nat) (w : World) (h : n < 4294967296) :
    Calls Tryz.prog 83 #[.int .i64 n,.int .i64 4] w fun e w'=>e = .returned (.tuple #[.string ⟨(beL 4 n).toArray⟩,.int .i64 0]) ∧ Below w.heap.size w w':=by
  have hd1 : decide ((n : Int) < 0) = false:=by simp
  have hd2 : decide (4294967296 ≤ (n : Int)) = false:=by simp;omega
  have hcv:=conv_bytes w (beL 4 n) 4 rfl #[.int .u8 ((n : Int) / 256 / 256 / 256 % 256),.int .u8 ((n : Int) / 256 / 256 % 256),.int .u8 ((n : Int) / 256 % 256),.int .u8 ((n : Int) % 256)] (by
    have e1 : (n : Int) / 256 = ((n / 256 : Nat) : Int):=by simp
    have e2 : ((n / 256 : Nat) : Int) / 256 = ((n / 256 / 256 : Nat) : Int):=by simp
    have e3 : ((n / 256 / 256 : Nat) : Int) / 256 = ((n / 256 / 256 / 256 : Nat) : Int):=by simp
    rw [e1,e2,e3,u8n,u8n,u8n,u8n,beL_snoc,beL_snoc,beL_snoc];simp [beL,byteC])
  obtain ⟨bs,hbs⟩ : ∃ bs,beL 4 n = bs:=⟨_,rfl⟩
  rw [hbs] at hcv ⊢;clear hbs;have hmk:=mk4;go_enter Tryz.func83,Tryz.ntmps83
  (go_wp2_with fail);refine wp_loop_rounds 4 ?_;rw [rounds_succ];(go_wp2_with fail);rw [rounds_succ];(go_wp2_with fail);rw [rounds_succ];(go_wp2_with fail);rw [rounds_succ];(go_wp2_with fail);refine wp_loop_rounds 5 ?_;rw [rounds_succ];(go_wp2_with fail);rw [rounds_succ];(go_wp2_with fail);rw [rounds_succ];(go_wp2_with fail);rw [rounds_succ];(go_wp2_with fail);rw [rounds_succ];(go_wp2_with fail);go_ret2;exact ⟨rfl,(Below.refl _ _).alloc (Nat.le_refl _) _⟩
theorem rnumP (n M : Nat) (w : World) (hM : M = 1 ∨ M = 4) (h : n < 256 ^ M) :
    Calls Tryz.prog 83 #[.int .i64 n,.int .i64 M] w fun e w'=>∃ s : ByteArray,e = .returned (.tuple #[.string s,.int .i64 0]) ∧ s.size = M ∧ s.data.toList = beL M n ∧ Below w.heap.size w w':=by
  have c : Calls Tryz.prog 83 #[.int .i64 n,.int .i64 M] w fun e w'=>e = .returned (.tuple #[.string ⟨(beL M n).toArray⟩,.int .i64 0]) ∧ Below w.heap.size w w':=by
    rcases hM with rfl | rfl
    · exact rnum1 n w h
    · exact rnum4 n w h
  exact c.mono fun _ _ ⟨he,hb⟩=>⟨_,he,(by show (beL M n).toArray.size = M;simp [beL_length]),by simp,hb⟩
end
section
open Go.RowKit
end
section
open Go.RowKit
end
section
open Go.RowKit
end
section
open Go.RowKit
end
section
open Go.RowKit
end
section
open Go.RowKit
end
section
open Go.RowKit
end
section
open Go.RowKit
end
section
open Go.RowKit
end
section
open Go.RowKit
end
section
open Go.RowKit
end
section
open Go.RowKit
end
section
open Go.RowKit
def Small (w : World) (x : Nat) : Prop:=∀ o k cs,32 ≤ k → rowAt w x o k = some cs → False
theorem small_cells {w : World} {x : Nat} {cs : Array Value} {t : TypeId} {f : Nat × Nat} (h : w.heap[x]? = some (.cells cs t f)) (hs : cs.size < 32) : Small w x:=fun o k c hk hr=>by
  unfold rowAt at hr;rw [h] at hr;dsimp only at hr;rw [if_neg (by omega)] at hr;cases hr
theorem SlR.kept_small {w w' : World} {A : Option Addr} {n k : Nat} {R : List (Array Value)} {S : List Nat} (h : SlR w A n k R) (hk : 32 ≤ k) (hw : Keep S w w') (hs : ∀ x ∈ S,Small w x) : SlR w' A n k R:=by
  refine ⟨h.1,fun h0=>?_⟩;obtain ⟨q,o,e,hc⟩:=h.2 h0;refine ⟨q,o,e,fun i hi=>?_⟩;have hql:=rowAt_lt (hc i hi);rw [hw.row hql (fun hm=>hs q hm _ _ _ hk (hc i hi)) _ _];exact hc i hi
theorem RVAt.small {w : World} {g : Nat} {t : ByteArray} {I : List Id32} {x : RV} (h : RVAt w g t I x) : Small w g:=by
  obtain ⟨si,sa,sg,sl,sm,so,ss,sd,h⟩:=h;exact small_cells h.hp (by simp [rvC])
section
variable {w w' : World} {M S : List Nat}
end
def stepI (m : MarkV) (I : List Id32) : List Id32:=if m.id ∈ I then I else m.id :: I
def stepS (t : ByteArray) (m : MarkV) (I : List Id32) (s : VSt) : VSt:=if m.id ∈ I then s else foldS t m s
def stepX (t : ByteArray) (m : MarkV) (I : List Id32) (x : RV) : RV:=if m.id ∈ I then x else rfoldS t m x
structure Told (t : ByteArray) (i : Nat) (I : List Id32) (s : VSt) : Prop where
  kind : s.kind = kindB t
  len : s.len ≤ i
  big : s.big ≤ 9 * i
  ris : s.ris
  ids : I.length ≤ i
structure ToldR (t : ByteArray) (i : Nat) (I : List Id32) (s : VSt) (x : RV) : Prop extends Told t i I s where
  rel : RelS x s
  ok : RVOk x
  xlen : x.len ≤ 9 * i
theorem Told.step {t : ByteArray} {i : Nat} {I : List Id32} {s : VSt} (h : Told t i I s) (m : MarkV) : Told t (i + 1) (stepI m I) (stepS t m I s):=by
  have h1:=h.len;have h2:=h.big;have h3:=h.ids;unfold stepI stepS;by_cases hm : m.id ∈ I
  · rw [if_pos hm,if_pos hm];exact ⟨h.kind,by omega,by omega,h.ris,by omega⟩
  · rw [if_neg hm,if_neg hm];have h4:=foldS_len t m s;have h5:=foldS_big t m s;exact ⟨(foldS_kind t m s).trans h.kind,by omega,by omega,foldS_ris t m s h.ris,by simp;omega⟩
theorem ToldR.step {t : ByteArray} {i : Nat} {I : List Id32} {s : VSt} {x : RV} (h : ToldR t i I s x) (m : MarkV) : ToldR t (i + 1) (stepI m I) (stepS t m I s) (stepX t m I x):=by
  refine ⟨h.toTold.step m,?_,?_,?_⟩
  · unfold stepS stepX;by_cases hm : m.id ∈ I
    · rw [if_pos hm,if_pos hm];exact h.rel
    · rw [if_neg hm,if_neg hm];exact rdoS_foldS h.rel h.kind.symm
  · unfold stepX;by_cases hm : m.id ∈ I
    · rw [if_pos hm];exact h.ok
    · rw [if_neg hm];exact rfoldS_ok h.ok
  · have h1:=h.xlen;unfold stepX;by_cases hm : m.id ∈ I
    · rw [if_pos hm];omega
    · rw [if_neg hm];have:=rfoldS_len t m x;omega
theorem ToldR.new (t : ByteArray) (hk : kindB t ≠ 0) : ToldR t 0 [] (VSt.new (kindB t)) rv0:=by
  refine ⟨⟨?_,?_,?_,?_,by simp⟩,rel_new _,rvOk0,by simp [rv0,RV.len]⟩
  all_goals
    rcases kindB_range t with e | e | e | e | e | e
    · exact absurd e hk
    all_goals (rw [e];first | rfl | trivial | exact Nat.le_refl _ | exact Ris.nil)
theorem rvfold_step (m : MarkV) (w : World) (g : Nat) (t : ByteArray) (I : List Id32) (x : RV) (h : RVAt w g t (sortC cmpId I) x) (hI : I.length ≤ 1000) (hs : m.body.size ≤ 9223372036854775807) (ht : t.size ≤ 9223372036854775807) (hok : RVOk x) (hl : x.len ≤ 10000) :
    Calls Tryz.prog 30 #[.pointer (some ⟨g,0,none⟩),.agg (markVC m)] w fun e w'=>e = .returned (.bool (!decide (m.id ∈ I))) ∧ RVAt w' g t (sortC cmpId (stepI m I)) (stepX t m I x) ∧ Keep [g] w w':=by
  have hlen:=sortC_length (c:=cmpId) I;by_cases hm : m.id ∈ I
  · refine (rvfold_old m w g t _ x h ((mem_sortC totId).2 hm) (by omega)).mono ?_;rintro e w' ⟨rfl,hb⟩;rw [decide_eq_true hm];unfold stepI stepX;rw [if_pos hm,if_pos hm];exact ⟨rfl,h.below hb,(Keep.of_below hb).mono (by simp)⟩
  · refine (rvfold_new m w g t _ x h (fun hx=>hm ((mem_sortC totId).1 hx)) (ris_sortC totId _) (by omega) hs ht hok hl).mono ?_;rintro e w' ⟨rfl,h1,h2⟩;rw [decide_eq_false hm];unfold stepI stepX;rw [if_neg hm,if_neg hm,← ids_cons];exact ⟨rfl,h1,h2⟩
section
variable {t : ByteArray} {i : Nat} {I : List Id32} {s : VSt} {x : RV}
theorem same_t (w : World) (k n : Int) (A B : Option Addr) (m m' c c' : Nat) (L : List Pair) (hx : PairsIn w A m L ∧ m ≤ 1000000) (hy : PairsIn w B m' L ∧ m' ≤ 1000000) :
    Calls Tryz.prog 15 #[.agg (valVC ⟨k,n,.slice A m c⟩),.agg (valVC ⟨k,n,.slice B m' c'⟩)] w fun e w'=>e = .returned (.bool true) ∧ Below w.heap.size w w':=by
  have cs:=rsame26 w k n k n A B m m' c c' L L hx.1 hy.1 hx.2 hy.2;rw [decide_eq_true ⟨rfl,rfl,rfl⟩] at cs;exact cs
end
end
section
open Go.RowKit
theorem chk_inc (n : Nat) (hn : n < 1000) : chkN ⟨1,n,⟨#[]⟩,⟨#[]⟩,id0,[]⟩ = 0:=by
  unfold chkN numO risI;simp only [emptyS,List.length_nil];have h1 : decide ((n : Int) < 2147483648) = true:=decide_eq_true (by omega);have h2 : decide (-2147483648 ≤ (n : Int)) = true:=decide_eq_true (by omega);rw [h1,h2];rfl
def incL (n : Nat) : List UInt8:=beL 1 1 ++ beL 4 (n + 2147483648)
set_option maxRecDepth 100000 in
set_option maxHeartbeats 2000000 in
theorem rop_put_inc (n : Nat) (w : World) (hn : n < 1000) :
    Calls Tryz.prog 41 #[.agg (opPC ⟨1,n,⟨#[]⟩,⟨#[]⟩,id0,.slice none 0 0⟩)] w fun e w'=>∃ s : ByteArray,e = .returned (.tuple #[.string s,.int .i64 0]) ∧ s.data.toList = incL n ∧ Below w.heap.size w w':=by
  have hB : Below w.heap.size w (w.alloc (.cells (opPC ⟨1,n,⟨#[]⟩,⟨#[]⟩,id0,.slice none 0 0⟩) 52)):=(Below.refl _ _).alloc (Nat.le_refl _) _;have hr : rowAt (w.alloc (.cells (opPC ⟨1,n,⟨#[]⟩,⟨#[]⟩,id0,.slice none 0 0⟩) 52)) w.heap.size 0 37 = some (opPC ⟨1,n,⟨#[]⟩,⟨#[]⟩,id0,.slice none 0 0⟩):=by simp [go_sem]
  have cck:=rop_check ⟨1,n,⟨#[]⟩,⟨#[]⟩,id0,[]⟩ none 0 (w.alloc (.cells (opPC ⟨1,n,⟨#[]⟩,⟨#[]⟩,id0,.slice none 0 0⟩) 52)) (.inl ⟨rfl,rfl,rfl,rfl,rfl⟩) SlR.nil_ (by simp) (by rw [emptyS];omega) (by rw [emptyS];omega);rw [chk_inc n hn] at cck;change Calls Tryz.prog _ #[.agg (opPC ⟨1,n,⟨#[]⟩,⟨#[]⟩,id0,.slice none 0 0⟩)] _ _ at cck;go_enter Tryz.func41,Tryz.ntmps41
  go_upto_region 1 with fail
  obtain ⟨ga,hga⟩ : ∃ ga,w.heap.size = ga:=⟨_,rfl⟩
  have Hga:=Lib.hid hga;rw [hga] at hr hB ⊢;obtain ⟨W,hW⟩ : ∃ W,W = w.alloc (.cells (opPC ⟨1,n,⟨#[]⟩,⟨#[]⟩,id0,.slice none 0 0⟩) 52):=⟨_,rfl⟩
  rw [← hW] at hr hB cck ⊢;clear hW hga;(go_wp2_with fail);refine cck.mono ?_;rintro e w1 ⟨rfl,hb1⟩;have hr1 : rowAt w1 ga 0 37 = some (opPC ⟨1,n,⟨#[]⟩,⟨#[]⟩,id0,.slice none 0 0⟩):=(rowAt_of_block (hb1.block ga (rowAt_lt hr)) _ _).trans hr;have hB1 : Below ga w w1:=hB.trans (hb1.mono (by have:=hB.size;have:=Hga.out;omega));have x0:=rowAt_cell hr1 (j:=0) (by omega);rw [opPC_g0,Nat.zero_add] at x0;clear hr hB cck hb1;(go_wp2_with fail);refine (rnumP 1 1 _ (.inl rfl) (by omega)).mono ?_;rintro e w2 ⟨s1,rfl,hs1,hl1,hb2⟩;have hr2 : rowAt w2 ga 0 37 = some (opPC ⟨1,n,⟨#[]⟩,⟨#[]⟩,id0,.slice none 0 0⟩):=(rowAt_of_block (hb2.block ga (rowAt_lt hr1)) _ _).trans hr1;have hB2 : Below ga w w2:=hB1.trans (hb2.mono (by have:=rowAt_lt hr1;omega));clear hr1 hB1 hb2 x0;have x0:=rowAt_cell hr2 (j:=0) (by omega);have x1:=rowAt_cell hr2 (j:=1) (by omega);rw [opPC_g0,Nat.zero_add] at x0;rw [opPC_g1,Nat.zero_add] at x1;have Hl1:=Lib.hid hl1;have Hs1:=Lib.hid hs1;clear hl1;have ch:=rop_has 1 w2 (by omega);rw [show hasS 1 = ⟨#[78]⟩ from rfl] at ch;(go_wp2_with fail);refine ch.mono ?_;rintro e w3 ⟨rfl,rfl⟩;have hb0 : (((⟨#[78]⟩ : ByteArray)[0]'(by decide)).toNat : Int) = 78:=rfl;have cn:=rnumP (n + 2147483648) 4 w2 (.inr rfl) (by omega);rw [show ((n + 2147483648 : Nat) : Int) = (n : Int) + 2147483648 from by omega] at cn;have hw1 : ((n : Int) + 2147483648 + 9223372036854775808) % 18446744073709551616 - 9223372036854775808 = (n : Int) + 2147483648:=by omega
  have hle : (((⟨#[78]⟩ : ByteArray).size : Nat) : Int) = 1:=rfl;(go_wp2_with fail);refine wp_loop_rounds 2 ?_;rw [rounds_succ];(go_wp2_with fail);refine cn.mono ?_;rintro e w4 ⟨s2,rfl,hs2,hl2,hb4⟩;have hB4 : Below ga w w4:=hB2.trans (hb4.mono (by have:=rowAt_lt hr2;omega));have hsz : (s1 ++ s2).size ≤ 9223372036854775807:=by rw [ByteArray.size_append];omega
  have hss : ¬ 9223372036854775807 < s1.size + s2.size:=by omega
  have Hl2:=Lib.hid hl2;clear hb4 hr2 x0 x1 hl2 cn;(go_wp2_with fail);rw [rounds_succ];(go_wp2_with fail);go_ret2;refine ⟨s1 ++ s2,rfl,?_,by rw [Hga.out];exact hB4⟩;rw [ByteArray.data_append,Array.toList_append,Hl1.out,Hl2.out];rfl
end
section
open Go.RowKit
def id1v : Id32:=⟨1 :: List.replicate 31 0,by simp⟩
@[go_sem ↓] theorem buildId1v_run (w : World) : (Instr.build 39 #[(0,.int .u8 1)]).run Tryz.prog w = .ok (.agg (idC id1v)) w:=by kernel_rfl
@[go_sem] theorem id1v_set : (idC id0).setIfInBounds 0 (.int .u8 1) = idC id1v:=by simp [idC,id0,id1v,byteC,List.replicate]
def caS : ByteArray:=⟨#[99,97]⟩
theorem ca_kind : kindB caS = 1:=by decide +kernel
end
section
open Go.RowKit
def markEqB (x y : MarkV) : Bool:=(x.id == y.id) && ((x.h == y.h) && (x.body.toList == y.body.toList))
theorem markEqB_eq (x y : MarkV) : markEqB x y = true ↔ x = y:=by
  unfold markEqB;simp only [Bool.and_eq_true,beq_iff_eq,toList_inj];exact ⟨fun h=>MarkV_ext h,fun h=>by subst h;exact ⟨rfl,rfl,rfl⟩⟩
theorem eqMark_in (x y : MarkV) (w : World) : (Op.equalIn 10000 41 (.agg (markVC x)) (.agg (markVC y))).run Tryz.prog w = .ok (markEqB x y) w:=by
  rw [show (10000 : Nat) = 9999 + 1 from rfl,run_equalIn_agg w 9999 41 _ _ fieldsMarkV (by kernel_rfl)];unfold markEqB;have e1:=eqId_in 9997 x.id y.id w;have e2:=run_equalIn_string (P:=Tryz.prog) w 9998 9 x.body y.body Tryz.underlying9;have e3:=run_equalIn_int (P:=Tryz.prog) w 9998 3 .i64 .i64 x.h y.h (by kernel_rfl);simp only [Program.fieldsOf,Tryz.underlying41];simp [Op.eqFields,part,asAgg,isAgg,go_sem,Tryz.underlying9,Tryz.underlying39,e1,e2,e3];cases h1 : (x.id == y.id) <;> cases h2 : (x.body.toList == y.body.toList) <;> cases h3 : (x.h == y.h) <;> simp_all
@[go_sem ↓] theorem neqMark_run (x y : MarkV) (w : World) : (binOp .neq 41 (.agg (markVC x)) (.agg (markVC y))).run Tryz.prog w = .ok (.bool (!(markEqB x y))) w:=by
  rw [run_neq_struct,eqMark_in];rfl
def OncePre (R : List MarkV) (i k : Nat) : Prop:=∀ a b (ha : a < R.length) (hb : b < R.length),b < a → (a < i ∨ (a = i ∧ b < k)) → (R[a]).id = (R[b]).id → R[a] = R[b]
end
section
open Go.RowKit Stb
set_option maxRecDepth 100000 in
set_option maxHeartbeats 1000000 in
theorem eq_pairs (w : World) (A B : Option Addr) (n m cap cap' : Nat) (X Y : List Pair) (hx : PairsIn w A n X) (hy : PairsIn w B m Y) (hn : n ≤ 1000000) (hm : m ≤ 1000000) :
    Calls Tryz.prog 54 #[.slice A n cap,.slice B m cap'] w fun e w'=>e = .returned (.bool (decide (X = Y))) ∧ Below w.heap.size w w':=by
  have hlx:=PairsIn.len hx;have hly:=PairsIn.len hy;have Hlx:=Lib.hid hlx;have Hly:=Lib.hid hly;by_cases hnm : n = m
  · subst hnm;clear hlx hly;go_enter Tryz.func54,Tryz.ntmps54
    (go_wp2_with fail);go_loopw [13] (fun i wr=>∃ k : Nat,k ≤ n ∧ i = .int .i64 k ∧ Hid (X.take k = Y.take k) ∧ Below w.heap.size w wr) (fun i _=>n - (intOf i).toNat)
    case atStart=>exact ⟨0,Nat.zero_le _,rfl,rfl,Below.refl _ _⟩
    case round =>
      obtain ⟨k,hk,rfl,heq,hb⟩:=hrel;by_cases hlt : k < n
      · obtain ⟨q,o,rfl,hr,_,_⟩:=PairsIn.get (SlR.below hx hb) hlt (by rw [Hlx.out];exact hlt);obtain ⟨q2,o2,rfl,hr2,_,_⟩:=PairsIn.get (SlR.below hy hb) hlt (by rw [Hly.out];exact hlt);have hX : X.take (k + 1) = X.take k ++ [X[k]'(by rw [Hlx.out];exact hlt)]:=by rw [List.take_add_one,List.getElem?_eq_getElem (by rw [Hlx.out];exact hlt)];rfl
        have hY : Y.take (k + 1) = Y.take k ++ [Y[k]'(by rw [Hly.out];exact hlt)]:=by rw [List.take_add_one,List.getElem?_eq_getElem (by rw [Hly.out];exact hlt)];rfl
        obtain ⟨x,hx'⟩ : ∃ x,X[k]'(by rw [Hlx.out];exact hlt) = x:=⟨_,rfl⟩
        obtain ⟨y,hy'⟩ : ∃ y,Y[k]'(by rw [Hly.out];exact hlt) = y:=⟨_,rfl⟩
        rw [hx'] at hr hX;rw [hy'] at hr2 hY;have HX:=Lib.hid hX;have HY:=Lib.hid hY;clear hX hY;have HX':=Lib.hid hx';have HY':=Lib.hid hy';clear hx' hy';go_upto_region 6 with fail
        refine wp_region_lex (Bel wr) false (by kernel_rfl) (by kernel_rfl) (by kernel_rfl) (bel_drew wr) ?_;have hne:=bel_some wr;have hS:=bel_drew wr;have b1:=sub_row hr;have b2:=sub_row hr2;repeat (refine wpLx_loose ?_ ?_;(focus (simp only [chainOp];done));intro K hK;go_simp;refine hK _ ?_;clear hK K)
        refine wpLx_nil ?_;intro hS;clear hne hS b1 b2 hr hr2;have hb' : Below w.heap.size w wr.drew:=hb.drew;cases hpe : pairEqB x y with
        | true =>
          have e:=(pairEqB_eq x y).1 hpe;have E:=Lib.hid e;clear e;(go_wp2_with fail);go_roundw
          case rel=>exact ⟨k + 1,by omega,by go_num,(show X.take (k + 1) = Y.take (k + 1) by rw [HX.out,HY.out,heq.out,E.out]),hb'⟩
          case measure=>simp [intOf];omega
        | false =>
          have hne : X ≠ Y:=by
            intro e;subst e;have : x = y:=HX'.out.symm.trans HY'.out;rw [(pairEqB_eq x y).2 this] at hpe;cases hpe
          have hd:=Lib.hid (decide_eq_false hne);clear hne;(go_wp2_with fail);go_ret;exact ⟨ret_bool (by rw [hd.out]),hb'⟩
      · have hkn : k = n:=by omega
        have e : X = Y:=by
          have:=heq.out
          rwa [List.take_of_length_le (by rw [Hlx.out];omega),List.take_of_length_le (by rw [Hly.out];omega)] at this
        have E:=Lib.hid (decide_eq_true e);clear e hkn;(go_wp2_with fail);go_ret;exact ⟨ret_bool (by rw [E.out]),hb⟩
  · have hne : X ≠ Y:=fun e=>hnm (by rw [← hlx,← hly,e]);have hd:=Lib.hid (decide_eq_false hne);have hni : ((n : Int) != (m : Int)) = true:=by simp;omega
    clear hne hnm hlx hly;go_enter Tryz.func54,Tryz.ntmps54
    (go_wp2_with fail);go_ret;exact ⟨ret_bool (by rw [hd.out]),Below.refl _ _⟩
set_option maxRecDepth 100000 in
set_option maxHeartbeats 1000000 in
theorem rmarks (w : World) (A B : Option Addr) (n m cap cap' : Nat) (X Y : List MarkV) (hx : MarksIn w A n X) (hy : MarksIn w B m Y) (hn : n ≤ 1000000) (hm : m ≤ 1000000) :
    Calls Tryz.prog 16 #[.slice A n cap,.slice B m cap'] w fun e w'=>e = .returned (.bool (decide (X = Y))) ∧ Below w.heap.size w w':=by
  have hlx:=MarksIn.len hx;have hly:=MarksIn.len hy;have Hlx:=Lib.hid hlx;have Hly:=Lib.hid hly;by_cases hnm : n = m
  · subst hnm;clear hlx hly;go_enter Tryz.func16,Tryz.ntmps16
    (go_wp2_with fail);go_loopw [5] (fun i wr=>∃ k : Nat,k ≤ n ∧ i = .int .i64 k ∧ Hid (X.take k = Y.take k) ∧ Below w.heap.size w wr) (fun i _=>n - (intOf i).toNat)
    case atStart=>exact ⟨0,Nat.zero_le _,rfl,rfl,Below.refl _ _⟩
    case round =>
      obtain ⟨k,hk,rfl,heq,hb⟩:=hrel;by_cases hlt : k < n
      · obtain ⟨q,o,rfl,hr,_,_⟩:=MarksIn.get (SlR.below hx hb) hlt (by rw [Hlx.out];exact hlt);obtain ⟨q2,o2,rfl,hr2,_,_⟩:=MarksIn.get (SlR.below hy hb) hlt (by rw [Hly.out];exact hlt);have hX : X.take (k + 1) = X.take k ++ [X[k]'(by rw [Hlx.out];exact hlt)]:=by rw [List.take_add_one,List.getElem?_eq_getElem (by rw [Hlx.out];exact hlt)];rfl
        have hY : Y.take (k + 1) = Y.take k ++ [Y[k]'(by rw [Hly.out];exact hlt)]:=by rw [List.take_add_one,List.getElem?_eq_getElem (by rw [Hly.out];exact hlt)];rfl
        obtain ⟨x,hx'⟩ : ∃ x,X[k]'(by rw [Hlx.out];exact hlt) = x:=⟨_,rfl⟩
        obtain ⟨y,hy'⟩ : ∃ y,Y[k]'(by rw [Hly.out];exact hlt) = y:=⟨_,rfl⟩
        rw [hx'] at hr hX;rw [hy'] at hr2 hY;have HX:=Lib.hid hX;have HY:=Lib.hid hY;clear hX hY;have HX':=Lib.hid hx';have HY':=Lib.hid hy';clear hx' hy';go_upto_region 6 with fail
        refine wp_region_lex (Bel wr) false (by kernel_rfl) (by kernel_rfl) (by kernel_rfl) (bel_drew wr) ?_;have hne:=bel_some wr;have hS:=bel_drew wr;have b1:=sub_row hr;have b2:=sub_row hr2;repeat (refine wpLx_loose ?_ ?_;(focus (simp only [chainOp];done));intro K hK;go_simp;refine hK _ ?_;clear hK K)
        refine wpLx_nil ?_;intro hS;clear hne hS b1 b2 hr hr2;have hb' : Below w.heap.size w wr.drew:=hb.drew;cases hpe : markEqB x y with
        | true =>
          have e:=(markEqB_eq x y).1 hpe;have E:=Lib.hid e;clear e;(go_wp2_with fail);go_roundw
          case rel=>exact ⟨k + 1,by omega,by go_num,(show X.take (k + 1) = Y.take (k + 1) by rw [HX.out,HY.out,heq.out,E.out]),hb'⟩
          case measure=>simp [intOf];omega
        | false =>
          have hne : X ≠ Y:=by
            intro e;subst e;have : x = y:=HX'.out.symm.trans HY'.out;rw [(markEqB_eq x y).2 this] at hpe;cases hpe
          have hd:=Lib.hid (decide_eq_false hne);clear hne;(go_wp2_with fail);go_ret;exact ⟨ret_bool (by rw [hd.out]),hb'⟩
      · have hkn : k = n:=by omega
        have e : X = Y:=by
          have:=heq.out
          rwa [List.take_of_length_le (by rw [Hlx.out];omega),List.take_of_length_le (by rw [Hly.out];omega)] at this
        have E:=Lib.hid (decide_eq_true e);clear e hkn;(go_wp2_with fail);go_ret;exact ⟨ret_bool (by rw [E.out]),hb⟩
  · have hne : X ≠ Y:=fun e=>hnm (by rw [← hlx,← hly,e]);have hd:=Lib.hid (decide_eq_false hne);have hni : ((n : Int) != (m : Int)) = true:=by simp;omega
    clear hne hnm hlx hly;go_enter Tryz.func16,Tryz.ntmps16
    (go_wp2_with fail);go_ret;exact ⟨ret_bool (by rw [hd.out]),Below.refl _ _⟩
set_option maxRecDepth 100000 in
theorem dsame (w : World) (k n k' n' : Int) (A B : Option Addr) (m m' c c' : Nat) (X Y : List Pair) (hx : PairsIn w A m X) (hy : PairsIn w B m' Y) (hm : m ≤ 1000000) (hm' : m' ≤ 1000000) :
    Calls Tryz.prog 19 #[.agg (valVC ⟨k,n,.slice A m c⟩),.agg (valVC ⟨k',n',.slice B m' c'⟩)] w fun e w'=>e = .returned (.bool (decide (k = k' ∧ n = n' ∧ X = Y))) ∧ Below w.heap.size w w':=by
  have hB : Below w.heap.size w ((w.alloc (.cells (valVC ⟨k,n,.slice A m c⟩) 25)).alloc (.cells (valVC ⟨k',n',.slice B m' c'⟩) 25)):=((Below.refl _ _).alloc (Nat.le_refl _) _).alloc (by simp) _;have ce:=eq_pairs _ A B m m' c c' X Y (SlR.below hx hB) (SlR.below hy hB) hm hm';obtain ⟨b,hb⟩ : ∃ b,decide (X = Y) = b:=⟨_,rfl⟩
  rw [hb] at ce;have Hb:=Lib.hid hb;clear hb hx hy;by_cases h1 : k = k'
  · subst h1;by_cases h2 : n = n'
    · subst h2;go_enter Tryz.func19,Tryz.ntmps19
      (go_wp2_with fail);refine ce.mono ?_;rintro e w1 ⟨rfl,hb1⟩;clear ce;(go_wp2_with fail);go_ret;exact ⟨ret_bool (by rw [← Hb.out];simp),bel2 hB hb1⟩
    · have hn2 : (n == n') = false:=by simpa using h2
      have H2:=Lib.hid h2;clear h2 ce;go_enter Tryz.func19,Tryz.ntmps19
      (go_wp2_with fail);go_ret;exact ⟨ret_bool (by have:=H2.out;simp [this]),hB⟩
  · have hn1 : (k == k') = false:=by simpa using h1
    have H1:=Lib.hid h1;clear h1 ce;go_enter Tryz.func19,Tryz.ntmps19
    (go_wp2_with fail);go_ret;exact ⟨ret_bool (by have:=H1.out;simp [this]),hB⟩
end
section
open Go.RowKit Stb
def id2v : Id32:=⟨2 :: List.replicate 31 0,by simp⟩
@[go_sem ↓] theorem buildId2v_run (w : World) : (Instr.build 39 #[(0,.int .u8 2)]).run Tryz.prog w = .ok (.agg (idC id2v)) w:=by kernel_rfl
@[go_sem] theorem id2v_set : (idC id0).setIfInBounds 0 (.int .u8 2) = idC id2v:=by simp [idC,id0,id2v,byteC,List.replicate]
@[go_sem] theorem buildMark1 (s : ByteArray) (w : World) : (bdS 41 #[(0,.agg (idC id1v)),(2,.string s)]).run Tryz.prog w = .ok (.agg (markVC ⟨id1v,0,s⟩)) w:=by kernel_rfl
@[go_sem] theorem buildMark2 (s : ByteArray) (w : World) : (bdS 41 #[(0,.agg (idC id2v)),(2,.string s)]).run Tryz.prog w = .ok (.agg (markVC ⟨id2v,0,s⟩)) w:=by kernel_rfl
@[go_sem] theorem bsMark2_run (a b : ByteArray) (w : World) : (bsS 22 2 #[(0,.agg (markVC ⟨id1v,0,a⟩)),(1,.agg (markVC ⟨id2v,0,b⟩))]).run Tryz.prog w = .ok (.slice (some ⟨w.heap.size,0,none⟩) 2 2) (w.alloc (.cells (markVC ⟨id1v,0,a⟩ ++ markVC ⟨id2v,0,b⟩) 41)):=by kernel_rfl
theorem aw27_num : (denS caS [⟨id1v,0,mkB (incL 2)⟩,⟨id2v,0,mkB (incL 3)⟩]).num = 5:=by decide +kernel
theorem aw27_pairs (R : List MarkV) : (denS caS R).pairs = []:=by
  have h:=denS_kind caS R (by rw [ca_kind];decide);rw [ca_kind] at h;cases hd : denS caS R <;> rw [hd] at h <;> first | rfl | (simp [VSt.kind] at h)
set_option maxRecDepth 100000 in
set_option maxHeartbeats 1000000 in
theorem awake27 (w : World) (hp : PartsVar w) : Calls Tryz.prog 12 #[] w fun e w'=>e = .returned (.bool true) ∧ Below w.heap.size w w':=by
  have hca : (⟨#[99,97]⟩ : ByteArray) = caS:=rfl;have cp:=rop_put_inc 2 w (by omega);change Calls Tryz.prog _ #[.agg (opPC ⟨1,2,⟨#[]⟩,⟨#[]⟩,id0,.slice none 0 0⟩)] _ _ at cp;go_enter Tryz.func12,Tryz.ntmps12
  (go_wp2_with fail);refine cp.mono ?_;rintro e w1 ⟨s1,rfl,hs1,hb1⟩;have cq:=rop_put_inc 3 w1 (by omega);change Calls Tryz.prog _ #[.agg (opPC ⟨1,3,⟨#[]⟩,⟨#[]⟩,id0,.slice none 0 0⟩)] _ _ at cq;clear cp;(go_wp2_with fail);refine cq.mono ?_;rintro e w2 ⟨s2,rfl,hs2,hb2⟩;have hb02:=bel2 hb1 hb2;have hp2:=(hp.below hb1).below hb2;have e1 : s1 = mkB (incL 2):=by apply ByteArray.ext;rw [← Array.toList_inj,hs1];rfl
  have e2 : s2 = mkB (incL 3):=by apply ByteArray.ext;rw [← Array.toList_inj,hs2];rfl
  have hz1 : s1.size ≤ 600:=by rw [e1];decide
  have hz2 : s2.size ≤ 600:=by rw [e2];decide
  have hnum : (denS caS [⟨id1v,0,s1⟩,⟨id2v,0,s2⟩]).num = 5:=by rw [e1,e2];exact aw27_num
  clear cq hb1 hb2 e1 e2 hs1 hs2;have hbx : Below w2.heap.size w2 (w2.alloc (.cells (markVC ⟨id1v,0,s1⟩ ++ markVC ⟨id2v,0,s2⟩) 41)):=(Below.refl _ _).alloc (Nat.le_refl _) _;have hm : MarksIn (w2.alloc (.cells (markVC ⟨id1v,0,s1⟩ ++ markVC ⟨id2v,0,s2⟩) 41)) (some ⟨w2.heap.size,0,none⟩) 2 [⟨id1v,0,s1⟩,⟨id2v,0,s2⟩]:=by
    refine ⟨rfl,fun _=>⟨w2.heap.size,0,rfl,fun i hi=>?_⟩⟩;have h1 : (markVC ⟨id1v,0,s1⟩ ++ markVC ⟨id2v,0,s2⟩).extract 0 34 = markVC ⟨id1v,0,s1⟩:=by
      have:=arr_mid #[] (markVC ⟨id1v,0,s1⟩) (markVC ⟨id2v,0,s2⟩) 0 34 rfl (by simp)
      rwa [Array.empty_append] at this
    have h2 : (markVC ⟨id1v,0,s1⟩ ++ markVC ⟨id2v,0,s2⟩).extract 34 68 = markVC ⟨id2v,0,s2⟩:=by
      have:=arr_mid (markVC ⟨id1v,0,s1⟩) (markVC ⟨id2v,0,s2⟩) #[] 34 68 (by simp) (by simp)
      rwa [Array.append_empty] at this
    have hi2 : i = 0 ∨ i = 1:=by simp at hi;omega
    have hh:=heap_alloc_new w2 (.cells (markVC ⟨id1v,0,s1⟩ ++ markVC ⟨id2v,0,s2⟩) 41 (0,0));rcases hi2 with rfl | rfl
    · unfold rowAt;rw [hh];simp [h1]
    · unfold rowAt;rw [hh];simp [h2]
  have cv:=dvalue caS (some ⟨w2.heap.size,0,none⟩) 2 2 _ _ hm (by omega) (Nat.le_trans (onceM_len _) (by simp)) (fun m hmm=>by simp at hmm;rcases hmm with rfl | rfl <;> assumption) (hp2.below hbx) (by decide) (by rw [ca_kind];decide);rw [hnum,aw27_pairs,ca_kind] at cv;(go_wp2_with fail);refine cv.mono ?_;rintro e w3 ⟨A,m,c,rfl,hpr,hb3⟩;have hb03:=bel2 (hb02.trans (hbx.mono hb02.size)) hb3;clear cv hm hbx hp2 hnum;have hb4 : Below w3.heap.size w3 (w3.alloc (.cells (valVC ⟨1,5,.slice A m c⟩) 25)):=(Below.refl _ _).alloc (Nat.le_refl _) _;have cs:=dsame (w3.alloc (.cells (valVC ⟨1,5,.slice A m c⟩) 25)) 1 5 1 5 A none m 0 c 0 [] [] (SlR.below hpr.1 hb4) SlR.nil_ hpr.2 (by omega);rw [decide_eq_true ⟨rfl,rfl,rfl⟩] at cs;(go_wp2_with fail);refine cs.mono ?_;rintro e w4 ⟨rfl,hb5⟩;have hbF:=bel2 (hb03.trans (hb4.mono hb03.size)) hb5;clear cs;(go_wp2_with fail);go_ret;exact ⟨rfl,hbF⟩
set_option maxRecDepth 100000 in
theorem dmuch (w : World) (A : Option Addr) (n cap : Nat) (R : List MarkV) (h : MarksOk w A n R) :
    Calls Tryz.prog 11 #[.slice A n cap] w fun e w'=>∃ b,e = .returned (.bool b) ∧ (b = false → FewMarks R) ∧ Below w.heap.size w w':=by
  have hlen:=h.rows.len;have hn:=h.big;have hrows:=h.rows;have hs:=h.each;have Hlen:=Lib.hid hlen;go_enter Tryz.func11,Tryz.ntmps11
  (go_wp2_with fail);go_loopw [3] (fun i wr=>∃ k : Nat,k ≤ n ∧ k ≤ 30 ∧ i = .int .i64 k ∧ Hid (∀ j (hj : j < R.length),j < k → (R[j]).body.size ≤ 600) ∧ Below w.heap.size w wr) (fun i _=>n - (intOf i).toNat)
  case atStart=>exact ⟨0,Nat.zero_le _,by omega,rfl,(show ∀ j (hj : j < R.length),j < 0 → _ from fun j _ h=>absurd h (by omega)),Below.refl _ _⟩
  case round =>
    obtain ⟨k,hk,hk40,rfl,hd,hb⟩:=hrel;by_cases hlt : k < n ∧ k < 30
    · obtain ⟨hlt,hlt40⟩:=hlt;obtain ⟨g,o,rfl,_,_,hval⟩:=MarksIn.get (SlR.below hrows hb) hlt (by omega);have hsk:=hs R[k] (List.getElem_mem (by omega));obtain ⟨x,hx⟩ : ∃ x,R[k]'(by omega) = x:=⟨_,rfl⟩
      have Hx:=Lib.hid hx;rw [hx] at hval hsk;clear hx;by_cases h1 : 600 < x.body.size
      · (go_wp2_with fail);go_ret;exact ⟨true,rfl,nofun,hb⟩
      · have hd2 : ∀ j (hj : j < R.length),j < k + 1 → (R[j]).body.size ≤ 600:=fun j hj hjk=>by
          rcases Nat.lt_or_ge j k with h3 | h3
          · exact hd.out j hj h3
          · obtain rfl : j = k:=by omega
            have:=Hx.out;rw [this];omega
        have Hd2:=Lib.hid hd2;clear hd2 hd;(go_wp2_with fail);go_roundw
        case rel=>exact ⟨k + 1,by omega,by omega,by go_num,Hd2,hb⟩
        case measure=>simp [intOf];omega
    · have hstop : n ≤ k ∨ 30 ≤ k:=by omega
      by_cases hm : 30 < n
      · (go_wp2_with fail);go_ret;exact ⟨true,ret_bool (decide_eq_true (by omega)),nofun,hb⟩
      · have hfew : FewMarks R:=⟨by omega,fun a ha=>by
          obtain ⟨j,hj,rfl⟩:=List.getElem_of_mem ha;exact hd.out j hj (by omega)⟩
        have Hf:=Lib.hid hfew;clear hfew hd;(go_wp2_with fail);go_ret;exact ⟨false,ret_bool (decide_eq_false (by omega)),fun _=>Hf.out,hb⟩
end
section
open Go.RowKit Stb
def byteI (b : Int) : Array Value:=#[.int .u8 b]
end
section
open Go.RowKit Stb
structure MadeX (t : ByteArray) (P : List MarkV) (I : List Id32) (s : VSt) : Prop where
  ids : ∀ d,d ∈ I ↔ d ∈ P.map MarkV.id
  st : Means ((onceM P).filter fun m=>decide (fits t m)) s
theorem madeX_new (t : ByteArray) (k : Int) : MadeX t [] [] (VSt.new k):=⟨fun _=>Iff.rfl,means_new k⟩
theorem madeX_step {t : ByteArray} {P : List MarkV} {I : List Id32} {s : VSt} (h : MadeX t P I s) (m : MarkV) : MadeX t (P ++ [m]) (stepI m I) (stepS t m I s):=by
  unfold stepI stepS;by_cases hi : m.id ∈ I
  · rw [if_pos hi,if_pos hi];have hm:=(onceM_ids P m.id).2 ((h.ids _).1 hi);refine ⟨fun d=>?_,?_⟩
    · rw [h.ids d,List.map_append,List.mem_append];refine ⟨.inl,fun hh=>hh.elim id fun hh=>?_⟩;have e : d = m.id:=by simpa using hh
      rw [e];exact (h.ids _).1 hi
    · rw [onceM_snoc];unfold onceStep;rw [if_pos hm];exact h.st
  · rw [if_neg hi,if_neg hi];have hm : m.id ∉ (onceM P).map MarkV.id:=fun hh=>hi ((h.ids _).2 ((onceM_ids P m.id).1 hh));refine ⟨fun d=>?_,?_⟩
    · rw [List.mem_cons,h.ids d,List.map_append,List.mem_append];simp [or_comm]
    · rw [onceM_snoc];unfold onceStep;rw [if_neg hm,List.filter_append];unfold foldS;by_cases hf : fits t m
      · have e : [m].filter (fun m=>decide (fits t m)) = [m]:=by simp [hf]
        rw [if_pos hf,e];exact means_fold h.st (opO_ok _ hf.1).2.2.2.2.1 (fun a ha e=>hm (List.mem_map.2 ⟨a,(List.mem_filter.1 ha).1,e⟩))
      · have e : [m].filter (fun m=>decide (fits t m)) = []:=by simp [hf]
        rw [if_neg hf,e,List.append_nil];exact h.st
theorem madeX_val {t : ByteArray} {P : List MarkV} {I : List Id32} {s : VSt} (h : MadeX t P I s) (hk0 : kindB t ≠ 0) (hk : s.kind = kindB t) : valK t = s.kind ∧ valN t P = s.num ∧ valP t P = s.pairs:=by
  have hp : ((onceM P).filter fun m=>decide (fits t m)).Perm (fitM t P):=((srtM_perm P).symm).filter _;have hr:=kindB_range t;have h2:=means_pairs hp ((onceM_one P).sub List.filter_sublist) h.st (means_den t P) (hk.trans (stF_kind (k:=kindB t) (by omega) (by omega) _).symm);exact ⟨hk.symm,(if_neg hk0).trans h2.1.symm,(if_neg hk0).trans h2.2.symm⟩
@[go_sem ↓] theorem slMark_rw (x : Value) (lo hi mx : Option Value) : Instr.sliceAt 22 x lo hi mx = slS 22 x lo hi mx:=rfl
end
section
open Go.RowKit Stb
theorem SlX.none27 {w : World} {g k : Nat} : SlX w g ⟨none,0,0⟩ k []:=⟨SlW.none_,by simp [blk]⟩
theorem rv_new27 (t : ByteArray) (w : World) : RVAt (w.alloc (.cells (rvC t ⟨none,0,0⟩ 0 ⟨none,0,0⟩ ⟨none,0,0⟩ ⟨none,0,0⟩ ⟨none,0,0⟩ ⟨none,0,0⟩ ⟨none,0,0⟩ ⟨none,0,0⟩) 69)) w.heap.size t [] rv0 :=
  ⟨⟨none,0,0⟩,⟨none,0,0⟩,⟨none,0,0⟩,⟨none,0,0⟩,⟨none,0,0⟩,⟨none,0,0⟩,⟨none,0,0⟩,⟨none,0,0⟩,heap_alloc_new w _,SlX.none27,SlX.none27,SlX.none27,SlX.none27,SlX.none27,SlX.none27,SlX.none27,SlX.none27⟩
set_option maxRecDepth 100000 in
set_option maxHeartbeats 4000000 in
theorem rvalue27 (t : ByteArray) (A : Option Addr) (n cap : Nat) (R : List MarkV) (w : World) (hm : MarksIn w A n R) (hn : n ≤ 30) (hs : ∀ m ∈ R,m.body.size ≤ 600) (ht : t.size ≤ 9223372036854775807) (hpl : (valP t R).length ≤ 1000000) :
    Calls Tryz.prog 14 #[.string t,.slice A n cap] w fun e w'=>∃ A2 n2 cap2,e = .returned (.tuple #[.agg (valVC ⟨valK t,valN t R,.slice A2 n2 cap2⟩),.int .i64 (checkB t)]) ∧ (PairsIn w' A2 n2 (valP t R) ∧ n2 ≤ 1000000) ∧ Below w.heap.size w w':=by
  have hB : Below w.heap.size w (w.alloc (.cells (valVC valV0) 25)):=(Below.refl _ _).alloc (Nat.le_refl _) _;have hg1 : (w.alloc (.cells (valVC valV0) 25)).heap[w.heap.size]? = some (.cells (valVC valV0) 25 (0,0)):=heap_alloc_new w _;have c1:=fun w=>rkind_any t w ht;have hnx : R.length = n:=hm.len;have Hnx:=Lib.hid hnx;clear hnx;by_cases hk : kindB t = 0
  · have e1 : valN t R = 0:=if_pos hk;have e2 : valP t R = []:=if_pos hk;have e3 : valK t = 0:=hk;have e4 : checkB t = 9:=if_pos hk;rw [e1,e2,e3,e4];rw [hk] at c1;clear e1 e2 e3 e4 hpl hk;go_enter Tryz.func14,Tryz.ntmps14
    go_upto_region 1 with fail
    obtain ⟨ga,hga⟩ : ∃ ga,w.heap.size = ga:=⟨_,rfl⟩
    have Hga:=Lib.hid hga;rw [hga] at hg1 hB ⊢;obtain ⟨W,hW⟩ : ∃ W,W = w.alloc (.cells (valVC valV0) 25):=⟨_,rfl⟩
    rw [← hW] at hg1 hB ⊢;clear hW hga;(go_wp2_with fail);refine (c1 _).mono ?_;rintro e W4 ⟨rfl,hb1⟩;have hg4:=(hb1.block ga (Array.getElem?_eq_some_iff.1 hg1).1).trans hg1;have hB4 : Below ga w W4:=hB.trans (hb1.mono (by have:=hB.size;have:=Hga.out;omega));clear hg1 hB hb1 c1;have hsto:=run_stS_at (P:=Tryz.prog) infoValV W4 ga (valVC valV0) (valVC valV0) _ hg4 (by simp) (by simp) (valVC_one _ rfl);have hkf : Keep [ga] W4 (W4.setRow ga (valVC valV0)):=⟨rfl,rfl,rfl,by simp [World.setRow],fun x _ hx=>setRow_other W4 ga x _ (by simpa using hx)⟩
    have Hfin:=Lib.hid (setRow_heap W4 ga _ (valVC valV0) _ _ hg4);have HBf:=Lib.hid (hB4.trans (hkf.below (by have:=hB4.size;have:=Hga.out;omega) (by simp)));clear hkf hg4 hB4;(go_wp2_with fail);refine bodyPost_ret (results_cell_tmp Tryz.results14 _ _ ga 25 (valVC valV0) (0,0) _ rfl Hfin.out Tryz.underlying25 rfl (by rw [valVC_size];exact infoValV)) rfl ?_;exact ⟨none,0,0,rfl,⟨SlR.nil_,by omega⟩,by rw [Hga.out];exact HBf.out⟩
  · have e4 : checkB t = 0:=if_neg hk;have hT0:=ToldR.new t hk;have hM0:=madeX_new t (kindB t);rw [e4];obtain ⟨s0,hs0⟩ : ∃ s0,VSt.new (kindB t) = s0:=⟨_,rfl⟩
    rw [hs0] at hT0 hM0;have Hk:=Lib.hid hk;have HT0:=Lib.hid hT0;have HM0:=Lib.hid hM0;have Hs:=Lib.hid hs;have hkb : (kindB t == 0) = false:=by simpa using hk
    obtain ⟨kk,hkk⟩ : ∃ kk,kindB t = kk:=⟨_,rfl⟩
    rw [hkk] at hkb;simp only [hkk] at c1;clear hk hs0 hT0 hM0 e4 hs hkk;go_enter Tryz.func14,Tryz.ntmps14
    go_upto_region 1 with fail
    obtain ⟨ga,hga⟩ : ∃ ga,w.heap.size = ga:=⟨_,rfl⟩
    have Hga:=Lib.hid hga;rw [hga] at hg1 hB ⊢;obtain ⟨W,hW⟩ : ∃ W,W = w.alloc (.cells (valVC valV0) 25):=⟨_,rfl⟩
    rw [← hW] at hg1 hB ⊢;clear hW hga;(go_wp2_with fail);refine (c1 _).mono ?_;rintro e W4 ⟨rfl,hb1⟩;have hg4:=(hb1.block ga (Array.getElem?_eq_some_iff.1 hg1).1).trans hg1;have hB4 : Below ga w W4:=hB.trans (hb1.mono (by have:=hB.size;have:=Hga.out;omega));clear hg1 hB hb1 c1;have hz4 : ga < W4.heap.size:=(Array.getElem?_eq_some_iff.1 hg4).1;have hx0 : RVAt (W4.alloc (.cells #[.string t,.slice none 0 0,.int .i64 0,.slice none 0 0,.slice none 0 0,.slice none 0 0,.slice none 0 0,.slice none 0 0,.slice none 0 0,.slice none 0 0] 69)) W4.heap.size t [] rv0:=rv_new27 t W4;have hb5 : Below W4.heap.size W4 (W4.alloc (.cells #[.string t,.slice none 0 0,.int .i64 0,.slice none 0 0,.slice none 0 0,.slice none 0 0,.slice none 0 0,.slice none 0 0,.slice none 0 0,.slice none 0 0] 69)):=(Below.refl _ _).alloc (Nat.le_refl _) _;have hg5:=(hb5.block ga hz4).trans hg4;have hB5 : Below ga w _:=hB4.trans (hb5.mono (by omega));go_upto_region 4 with fail
    obtain ⟨gx,hgxe⟩ : ∃ gx,W4.heap.size = gx:=⟨_,rfl⟩
    obtain ⟨W5,hW5⟩ : ∃ W5,(W4.alloc (.cells #[.string t,.slice none 0 0,.int .i64 0,.slice none 0 0,.slice none 0 0,.slice none 0 0,.slice none 0 0,.slice none 0 0,.slice none 0 0,.slice none 0 0] 69)) = W5:=⟨_,rfl⟩
    rw [hW5] at hx0 hg5 hB5 ⊢;rw [hgxe] at hx0 hz4 ⊢;have hmr : MarksIn W5 A n R:=SlR.below hm (hB5.mono (by rw [Hga.out];exact Nat.le_refl _));clear hW5 hgxe hb5 hg4 hB4;(go_wp2_with fail);go_loopw [7] (fun iv wr=>∃ (i : Nat) (I : List Id32) (s : VSt) (x : RV),i ≤ n ∧ iv = .int .i64 i ∧ RVAt wr gx t (sortC cmpId I) x ∧ Hid (ToldR t i I s x) ∧ Hid (MadeX t (R.take i) I s) ∧ Keep [gx] W5 wr) (fun iv _=>n - (intOf iv).toNat)
    case atStart=>exact ⟨0,[],s0,rv0,Nat.zero_le _,rfl,hx0,HT0,HM0,Keep.refl _ _⟩
    case round =>
      obtain ⟨i,I,s,x,hi,rfl,hX,HT,HM,hkr⟩:=hrel;by_cases hlt : i < n
      · have hrowsr : MarksIn wr A n R:=SlR.kept_small hmr (by omega) hkr (fun y hy=>by rw [List.mem_singleton.1 hy];exact hx0.small);clear hx0 HT0 HM0;obtain ⟨gm,om,rfl,hrow,hid,hbody⟩:=MarksIn.get hrowsr hlt (by rw [Hnx.out];exact hlt);have hms:=Hs.out (R[i]'(by rw [Hnx.out];exact hlt)) (List.getElem_mem (by rw [Hnx.out];exact hlt));have htk : R.take (i + 1) = R.take i ++ [R[i]'(by rw [Hnx.out];exact hlt)]:=by rw [List.take_add_one,List.getElem?_eq_getElem (by rw [Hnx.out];exact hlt)];rfl
        obtain ⟨m,hm'⟩ : ∃ m,R[i]'(by rw [Hnx.out];exact hlt) = m:=⟨_,rfl⟩
        rw [hm'] at hrow hms htk;have cf:=rvfold_step m wr gx t I x hX (by have:=HT.out.ids;omega) (by omega) ht HT.out.ok (by have:=HT.out.xlen;omega);have hT':=HT.out.step m;have hM':=madeX_step HM.out m;rw [← htk] at hM';have HT':=Lib.hid hT';have HM':=Lib.hid hM';clear hm' hid hbody hT' hM' HT HM htk hms hrowsr;(go_wp2_with fail);refine cf.mono ?_;rintro e w3 ⟨rfl,hX3,hk3⟩;have hk5 : Keep [gx] W5 w3:=Keep.trans hkr hk3 (fun y hy=>.inl hy);clear cf hrow hkr hk3 hX;(go_wp2_with fail);go_roundw
        case rel=>exact ⟨i + 1,_,_,_,by omega,by go_num,hX3,HT',HM',hk5⟩
        case measure=>simp [intOf];omega
      · have e : R.take i = R:=List.take_of_length_le (by rw [Hnx.out];omega);have hM:=HM.out;rw [e] at hM;have hv:=madeX_val hM Hk.out HT.out.kind;have c:=rvvalue wr gx t (sortC cmpId I) x hX ht Hk.out HT.out.ok (by have:=HT.out.xlen;omega);rw [← HT.out.kind,rel_num HT.out.rel,rel_pairs HT.out.rel,← hv.1,← hv.2.1,← hv.2.2] at c;have hgr:=(hkr.block ga (Array.getElem?_eq_some_iff.1 hg5).1 (by simp;omega)).trans hg5;have hBr : Below ga w wr:=hB5.trans (hkr.below (by have:=(Array.getElem?_eq_some_iff.1 hg5).1;omega) (by simp;omega));clear hx0 HT0 HM0 hX HT HM hM e hv hkr hg5 hB5 hmr;(go_wp2_with fail);refine c.mono ?_;rintro e w6 ⟨A2,n2,cap2,rfl,hown,hb6⟩;have hzr:=(Array.getElem?_eq_some_iff.1 hgr).1;have hg6:=(hb6.block ga hzr).trans hgr;have hB6 : Below ga w w6:=hBr.trans (hb6.mono (by omega));have hl2 : (valP t R).length = n2:=by simpa using hown.len
        have hn2 : n2 ≤ 1000000:=by omega
        have hsto:=run_stS_at (P:=Tryz.prog) infoValV w6 ga (valVC valV0) (valVC ⟨valK t,valN t R,.slice A2 n2 cap2⟩) _ hg6 (by simp) (by simp) (valVC_one _ rfl);have hkf : Keep [ga] w6 (w6.setRow ga (valVC ⟨valK t,valN t R,.slice A2 n2 cap2⟩)):=⟨rfl,rfl,rfl,by simp [World.setRow],fun x _ hx=>setRow_other w6 ga x _ (by simpa using hx)⟩
        have Hfin:=Lib.hid (setRow_heap w6 ga _ (valVC ⟨valK t,valN t R,.slice A2 n2 cap2⟩) _ _ hg6);have HBf:=Lib.hid (hB6.trans (hkf.below (by have:=hB6.size;have:=Hga.out;omega) (by simp)));have HO:=Lib.hid (hown.kept hkf (fun x hx=>by have:=(hown.at_base hx).1;simp;omega)).slr;clear hkf hg6 hB6 hgr hBr hb6 hzr c hl2 hown hpl;(go_wp2_with fail);refine bodyPost_ret (results_cell_tmp Tryz.results14 _ _ ga 25 (valVC ⟨valK t,valN t R,.slice A2 n2 cap2⟩) (0,0) _ rfl Hfin.out Tryz.underlying25 rfl (by rw [valVC_size];exact infoValV)) rfl ?_;exact ⟨A2,n2,cap2,rfl,⟨HO.out,hn2⟩,by rw [Hga.out];exact HBf.out⟩
end
section
open Go.RowKit Stb
theorem srtM_new {R : List MarkV} {i : Nat} (hi : i < R.length) (h : R[i].id ∉ (onceM (R.take i)).map MarkV.id) : srtM (R.take (i + 1)) = insC cmpMk (srtM (R.take i)) R[i] ∧ (onceM (R.take (i + 1))).map MarkV.id = (onceM (R.take i)).map MarkV.id ++ [R[i].id]:=by
  unfold srtM;rw [onceM_take R i hi];unfold onceStep;rw [if_neg h,sortC_snoc,List.map_append];exact ⟨rfl,rfl⟩
theorem srtM_old {R : List MarkV} {i : Nat} (hi : i < R.length) (h : R[i].id ∈ (onceM (R.take i)).map MarkV.id) : srtM (R.take (i + 1)) = srtM (R.take i) ∧ (onceM (R.take (i + 1))).map MarkV.id = (onceM (R.take i)).map MarkV.id:=by
  unfold srtM;rw [onceM_take R i hi];unfold onceStep;rw [if_pos h];exact ⟨rfl,rfl⟩
theorem mk_cells {w : World} {q o : Nat} {x : MarkV} (h : rowAt w q o 34 = some (markVC x)) : rowAt w q o 32 = some (idC x.id) ∧ w.cell? ⟨q,o + 32,none⟩ = some (.int .i64 x.h):=by
  refine ⟨?_,?_⟩
  · have:=rowAt_sub h (j:=0) (m:=32) (by omega);rwa [markVC_e0] at this
  · have:=rowAt_cell h (j:=32) (by omega);rwa [markVC_g32] at this
@[go_sem ↓] theorem slMarkN_rw (x : Value) (lo hi mx : Option Value) : Instr.sliceAt 22 x lo hi mx = slS 22 x lo hi mx:=rfl
@[go_sem] theorem bsMarkN_run (w : World) : (bsS 22 0 #[]).run Tryz.prog w = .ok (.slice (some ⟨w.heap.size,0,none⟩) 0 0) (w.alloc (.cells #[] 41)):=run_bsS0 einfoMark w
set_option maxRecDepth 100000 in
set_option maxHeartbeats 4000000 in
theorem rsorted27 (A0 : Option Addr) (n0 cap0 : Nat) (R : List MarkV) (w : World) (hm : MarksIn w A0 n0 R) (hn : n0 ≤ 1000) :
    Calls Tryz.prog 18 #[.slice A0 n0 cap0] w fun e w'=>∃ A n cap,e = .returned (.slice A n cap) ∧ Own w' w.heap.size 41 34 A n cap ((srtM R).map markVC) ∧ Below w.heap.size w w':=by
  have hnx : R.length = n0:=hm.len;have Hnx:=Lib.hid hnx;clear hnx;go_enter Tryz.func18,Tryz.ntmps18
  (go_wp2_with fail);go_loopw [3,4,5] (fun out ids iv wr=>∃ (i : Nat) (A1 : Option Addr) (n cap1 : Nat) (At : Option Addr) (nt capt : Nat),i ≤ n0 ∧ iv = .int .i64 i ∧ out = .slice A1 n cap1 ∧ ids = .slice At nt capt ∧ Own wr w.heap.size 41 34 A1 n cap1 ((srtM (R.take i)).map markVC) ∧ Own wr w.heap.size 39 32 At nt capt (((onceM (R.take i)).map MarkV.id).map idC) ∧ (∀ x ∈ blk At,x ∉ blk A1) ∧ Below w.heap.size w wr) (fun _ _ iv _=>n0 - (intOf iv).toNat)
  case atStart=>exact ⟨0,none,0,0,none,0,0,Nat.zero_le _,rfl,rfl,rfl,Own.nil _ _ _ _,Own.nil _ _ _ _,by simp [blk],Below.refl _ _⟩
  case round =>
    obtain ⟨i,A1,n,cap1,At,nt,capt,hi,rfl,rfl,rfl,hown,hownt,hdis,hb⟩:=hrel;by_cases hlt : i < n0
    · have hltX : i < R.length:=by rw [Hnx.out];exact hlt
      obtain ⟨gx,o,rfl,hrx0,hid0,hbd0⟩:=MarksIn.get (SlR.below hm hb) hlt hltX;have hnew:=srtM_new hltX;have hold:=srtM_old hltX;have hOl : (srtM (R.take i)).length = n:=by simpa using hown.len
      have hTl : ((onceM (R.take i)).map MarkV.id).length = nt:=by simpa using hownt.len
      have hol : n ≤ 1000:=by have h1:=srtM_len (R.take i);have h2:=onceM_len (R.take i);rw [List.length_take] at h2;omega
      have hnt : nt ≤ 1000:=by have h2:=onceM_len (R.take i);rw [List.length_take] at h2;simp at hTl;omega
      have hidm : ∀ y ∈ srtM (R.take i),y.id ∈ (onceM (R.take i)).map MarkV.id:=fun y hy=>List.mem_map.2 ⟨y,(srtM_perm _).mem_iff.1 hy,rfl⟩;obtain ⟨O,hO⟩ : ∃ O,srtM (R.take i) = O:=⟨_,rfl⟩
      obtain ⟨T,hT⟩ : ∃ T,(onceM (R.take i)).map MarkV.id = T:=⟨_,rfl⟩
      obtain ⟨x,hx⟩ : ∃ x,R[i]'hltX = x:=⟨_,rfl⟩
      rw [hx] at hrx0 hid0 hnew hold;rw [hO] at hnew hold hown hOl hidm;rw [hT] at hnew hold hownt hTl hidm;have Hnew:=Lib.hid hnew;have Hold:=Lib.hid hold;have Hlen:=Lib.hid hOl;have HTl:=Lib.hid hTl;have Hidm:=Lib.hid hidm;have chas:=rhas6 wr At nt capt T x.id hownt.slr (by omega);have hqw : gx < w.heap.size:=by
        obtain ⟨q',o',e',hr'⟩:=SlR.at_ hm hlt;injection e' with e';injection e' with e' _
        subst e';exact rowAt_lt hr'
      clear hx hO hT hOl hTl hidm hnew hold hbd0;by_cases hin : x.id ∈ T
      · rw [decide_eq_true hin] at chas;have hE:=Hold.out hin;have HE:=Lib.hid hE;clear hE hin;(go_wp2_with fail);refine chas.mono ?_;rintro e w2 ⟨rfl,hb2⟩;have hown2:=hown.below hb2;have hownt2:=hownt.below hb2;have hbz:=bel2 hb hb2;clear chas hown hownt hb2 hb hrx0 hid0;(go_wp2_with fail);go_roundw
        case rel=>exact ⟨i + 1,A1,n,cap1,At,nt,capt,by omega,by go_num,rfl,rfl,(by rw [HE.out.1];exact hown2),(by rw [HE.out.2];exact hownt2),hdis,hbz⟩
        case measure=>simp [intOf];omega
      · rw [decide_eq_false hin] at chas;have hE:=Hnew.out hin;have Htk:=Lib.hid hE.1;have Hids:=Lib.hid hE.2;have Hne : Hid (∀ y ∈ O,y.id ≠ x.id):=fun y hy e=>hin (e ▸ Hidm.out y hy);clear hE hin Hnew Hold Hidm;(go_wp2_with fail);refine chas.mono ?_;rintro e w2 ⟨rfl,hb2⟩;have hown2:=hown.below hb2;have hownt2:=hownt.below hb2;have hbz:=bel2 hb hb2;have hx2 : rowAt w2 gx (o + i * 34) 34 = some (markVC x):=(rowAt_of_block (hb2.block gx (rowAt_lt hrx0)) _ _).trans hrx0;have hbx : Below w2.heap.size w2 (w2.alloc (.cells (idC x.id) 39)):=(Below.refl _ _).alloc (Nat.le_refl _) _;have hownt3:=hownt2.below hbx;have hri : rowAt (w2.alloc (.cells (idC x.id) 39)) w2.heap.size 0 32 = some (idC x.id):=by simp [go_sem]
        have hid2:=(mk_cells hx2).1;have hz2:=hbz.size;clear chas hown hownt hb2 hb hrx0 hid0;go_upto_region 8 with (at_builtin;refine L_append einfoId rfl hownt3 rfl hri (idC_one _) (by omega) (by omega) (by simp;omega) ?_;intro A3 cap3 w3 hown3 hk3 hsub3)
        have hownV : Own w3 w.heap.size 41 34 A1 n cap1 (O.map markVC):=(hown2.below hbx).kept hk3 (fun y hy hy'=>hdis y hy' hy);have htV : Own w3 w.heap.size 39 32 A3 (nt + 1) cap3 ((T ++ [x.id]).map idC):=by rw [List.map_append];exact hown3
        have hxV : rowAt w3 gx (o + i * 34) 34 = some (markVC x):=((hk3.row (by simp;omega) (fun hx=>by have:=(hownt2.at_base hx).1;omega) _ _).trans (rowAt_of_block (hbx.block gx (by omega)) _ _)).trans hx2;have hbV : Below w.heap.size w w3:=(hbz.trans (hbx.mono hz2)).trans (hk3.below (by simp;omega) (fun x hx=>(hownt2.at_base hx).1));clear hown2 hownt2 hbz hx2 hbx hownt3 hri hid2 hown3 hk3 hsub3 hdis hz2;obtain ⟨V,hVe⟩ : ∃ V,w3 = V:=⟨_,rfl⟩
        rw [hVe] at hownV htV hxV hbV ⊢;clear hVe;have hqV : gx < V.heap.size:=rowAt_lt hxV;have hsw2:=hownV.slw;(go_wp2_with fail);go_loopw [6] (fun j wj=>∃ m : Nat,m ≤ n ∧ j = .int .i64 m ∧ Hid (∀ i (hi : i < O.length),i < m → cmpMk O[i] x < 0) ∧ Below V.heap.size V wj) (fun j _=>n - (intOf j).toNat)
        case atStart=>exact ⟨0,Nat.zero_le _,rfl,(show ∀ i (hi : i < O.length),i < 0 → _ from fun i _ h=>absurd h (by omega)),Below.refl _ _⟩
        case round =>
          obtain ⟨m,hmO,rfl,hlow,hbj⟩:=hrel;have hrj : rowAt wr gx (o + i * 34) 34 = some (markVC x):=(rowAt_of_block (hbj.block gx hqV) _ _).trans hxV;obtain ⟨j1,j2⟩:=mk_cells hrj;have hswj:=hsw2.below hbj;by_cases hmlt : m < n
          · obtain ⟨q2,o2,rfl,hrO,_,_⟩:=MarksIn.get hswj.rd hmlt (by rw [Hlen.out];exact hmlt);have hmem : O[m]'(by rw [Hlen.out];exact hmlt) ∈ O:=List.getElem_mem _;have hxy:=Hne.out _ hmem;obtain ⟨y,hy⟩ : ∃ y,O[m]'(by rw [Hlen.out];exact hmlt) = y:=⟨_,rfl⟩
            rw [hy] at hrO hxy;obtain ⟨y1,y2⟩:=mk_cells hrO;have Hy:=Lib.hid hy;have c2:=rahead y.h y.id x.h x.id wr.drew;obtain ⟨ab,hab⟩ : ∃ ab,aheadB y.h y.id x.h x.id = ab:=⟨_,rfl⟩
            have hlm:=lt_mk hxy;have hlm' : cmpMk y x < 0 ↔ ab = true:=hlm.trans (by rw [← hab];exact Iff.rfl);have Hlm:=Lib.hid hlm';rw [hab] at c2;have Hxy:=Lib.hid hxy;clear hy hmem hrO hxy hab hlm hlm';cases ab with
            | true =>
              go_upto_region 9 with fail
              refine wp_region_lex (Bel wr) false (by kernel_rfl) (by kernel_rfl) (by kernel_rfl) (bel_drew wr) ?_;have hne:=bel_some wr;have hS:=bel_drew wr;have b1:=sub_row j1;have b2:=sub_cell j2;have b3:=sub_row y1;have b4:=sub_cell y2;repeat (refine wpLx_loose ?_ ?_;(focus (simp only [chainOp];done));intro K hK;go_simp;refine hK _ ?_;clear hK K)
              refine wpLx_chain ?_ ?_ ?_;(focus (exact hS));(focus (simp only [chainOp];done));intro K hK;go_simp;refine (c2).mono ?_;rintro e w' ⟨rfl,hb⟩;replace hS:=bel_next hS hb;refine ⟨_,rfl,hS,hK _ _ ?_⟩;clear hK K hb;repeat (refine wpLx_loose ?_ ?_;(focus (simp only [chainOp];done));intro K hK;go_simp;refine hK _ ?_;clear hK K)
              refine wpLx_nil ?_;intro hS;have hS' : Below wr.heap.size wr w':=hS;have hbz:=bel2 hbj hS';clear b1 b2 b3 b4 hne hS c2;(go_wp2_with fail);go_roundw
              case rel =>
                refine ⟨m + 1,by omega,by go_num,(show ∀ i (hi : i < O.length),i < m + 1 → cmpMk O[i] x < 0 from fun i hi hlt=>?_),hbz⟩;by_cases e : i = m
                · subst e;rw [Hy.out];exact Hlm.out.2 rfl
                · exact hlow.out i hi (by omega)
              case measure=>simp [intOf];omega
            | false =>
              have hat:=insC_at (c:=cmpMk) O x m (by rw [Hlen.out];exact hmO) hlow.out (fun hk'=>by
                rw [Hy.out];have h1 : cmpMk y x ≠ 0:=fun e'=>Hxy.out (by rw [(totMk.zero _ _).1 e']);have h2 : ¬ cmpMk y x < 0:=fun h=>(by cases Hlm.out.1 h);omega)
              have Hat:=Lib.hid hat;clear hat;go_upto_region 9 with fail
              refine wp_region_lex (Bel wr) false (by kernel_rfl) (by kernel_rfl) (by kernel_rfl) (bel_drew wr) ?_;have hne:=bel_some wr;have hS:=bel_drew wr;have b1:=sub_row j1;have b2:=sub_cell j2;have b3:=sub_row y1;have b4:=sub_cell y2;repeat (refine wpLx_loose ?_ ?_;(focus (simp only [chainOp];done));intro K hK;go_simp;refine hK _ ?_;clear hK K)
              refine wpLx_chain ?_ ?_ ?_;(focus (exact hS));(focus (simp only [chainOp];done));intro K hK;go_simp;refine (c2).mono ?_;rintro e w' ⟨rfl,hb⟩;replace hS:=bel_next hS hb;refine ⟨_,rfl,hS,hK _ _ ?_⟩;clear hK K hb;repeat (refine wpLx_loose ?_ ?_;(focus (simp only [chainOp];done));intro K hK;go_simp;refine hK _ ?_;clear hK K)
              refine wpLx_nil ?_;intro hS;have hS' : Below wr.heap.size wr w':=hS;have hbz:=bel2 hbj hS';have hrx : rowAt w' gx (o + i * 34) 34 = some (markVC x):=(rowAt_of_block (hS'.block gx (rowAt_lt hrj)) _ _).trans hrj;have hsw:=hsw2.below hbz;have hownt:=htV.below hbz;have hBw : Below w.heap.size w w':=hbV.trans (hbz.mono hbV.size);clear b1 b2 b3 b4 hne hS c2 hS' hbj hrj hswj j1 j2 y1 y2 hxV hbz hsw2 htV hownV hbV;obtain ⟨W,rfl⟩ : ∃ W,W = w':=⟨w',rfl⟩
              obtain ⟨A,hA1⟩ : ∃ A,(some ⟨q2,o2,none⟩ : Option Addr) = A:=⟨_,rfl⟩
              rw [hA1] at hsw ⊢;obtain ⟨d,hd⟩ : ∃ d,d = x:=⟨_,rfl⟩
              rw [← hd] at hrx Hat Htk Hids hownt ⊢;obtain ⟨cap,hcap⟩ : ∃ cap,cap = cap1:=⟨_,rfl⟩
              rw [← hcap] at hsw ⊢;clear hd hcap hA1;have hBx : Below W.heap.size W (W.alloc (.cells #[] 41)):=(Below.refl _ _).alloc (Nat.le_refl _) _;have hown0:=Own.empty W W.heap.size 41 34 (Nat.le_refl _);have hlo : ∀ w0 : World,(slS 22 (.slice A n cap) none (some (.int .i64 m)) none).run Tryz.prog w0 = .ok (.slice A m cap) w0:=fun w0=>SlW.lo einfoMark hsw hmO w0;obtain ⟨Ah,ch,hhi,hhs,hhf⟩:=hsw.hi (P:=Tryz.prog) einfoMark (m:=m) hmO;have hslo : SlR (W.alloc (.cells #[] 41)) A m 34 ((O.map markVC).take m):=(hsw.rd.below hBx).take_ hmO;have hf1:=hsw.nil;have hrone : ∀ r ∈ (O.map markVC).take m,∀ u ∈ r.toList,u.oneCell' = true:=fun r hr=>(by obtain ⟨y',_,rfl⟩:=List.mem_map.1 (List.mem_of_mem_take hr);exact markVC_one _);have hrone2 : ∀ r ∈ (O.map markVC).drop m,∀ u ∈ r.toList,u.oneCell' = true:=fun r hr=>(by obtain ⟨y',_,rfl⟩:=List.mem_map.1 (List.mem_of_mem_drop hr);exact markVC_one _);go_upto_region 12 with (at_builtin;refine L_appends einfoMark rfl hown0 rfl hslo hf1 hrone (by omega) (by omega) (by simp) ?_;intro A2 cap2 w2 hown2 hk2 hsub2)
              simp only [Nat.zero_add,List.nil_append] at hown2;have hwW : Below W.heap.size W w2:=hBx.trans (hk2.below (by simp) (by simp [blk]));have hrw2 : rowAt w2 gx (o + i * 34) 34 = some (markVC d):=(rowAt_of_block (hwW.block gx (rowAt_lt hrx)) _ _).trans hrx;have hB3 : Below w2.heap.size w2 (w2.alloc (.cells (markVC d) 41)):=(Below.refl _ _).alloc (Nat.le_refl _) _;have hown3:=hown2.below hB3;have hrow3 : rowAt (w2.alloc (.cells (markVC d) 41)) w2.heap.size 0 34 = some (markVC d):=by simp [go_sem]
              have hsz2:=hwW.size;go_upto_region 13 with (at_builtin;refine L_append einfoMark rfl hown3 rfl hrow3 (markVC_one _) (by omega) (by omega) (by simp;omega) ?_;intro A4 cap4 w4 hown4 hk4 hsub4)
              have hwW4 : Below W.heap.size W w4:=(hwW.trans (hB3.mono hsz2)).trans (hk4.below (by simp;omega) (fun x hx=>(hown2.at_base hx).1));have hs4:=hhs w4 (hsw.rd.below hwW4);have hsz4:=hwW4.size;clear hown3 hrow3 hB3 hown0 hBx hslo hrw2 hlo;go_upto_region 14 with (at_builtin;refine L_appends einfoMark rfl hown4 rfl hs4 hhf hrone2 (by omega) (by omega) (by omega) ?_;intro A5 cap5 w5 hown5 hk5 hsub5)
              have hwW5 : Below W.heap.size W w5:=hwW4.trans (hk5.below (by omega) (fun x hx=>(hown4.at_base hx).1));have hO5 : (O.map markVC).take m ++ [markVC d] ++ (O.map markVC).drop m = (O.take m ++ d :: O.drop m).map markVC:=by simp [List.map_take,List.map_drop]
              rw [hO5] at hown5;clear hown4 hown2 hO5 hs4 hhi hhs hrone hrone2 hf1;have hB5 : Below w.heap.size w w5:=hBw.trans (hwW5.mono hBw.size);have hL5 : (O.take m ++ d :: O.drop m).length = m + 1 + (n - m):=by simp [Hlen.out];omega
              have hOe : O.take m ++ d :: O.drop m = srtM (R.take (i + 1)):=by rw [Htk.out,Hat.out]
              rw [hOe] at hown5 hL5;have hown6 : Own w5 w.heap.size 41 34 A5 (m + 1 + (n - m)) cap5 ((srtM (R.take (i + 1))).map markVC):=hown5.mono hBw.size;have ht6:=hownt.below hwW5;have hdis : ∀ x ∈ blk A3,x ∉ blk A5:=fun x hx hx5=>(by have h1:=(hownt.at_base hx).2;have h2:=(hown5.at_base hx5).1;omega);clear hown5 hOe hL5;(go_wp2_with fail);go_roundw
              case rel=>exact ⟨i + 1,A5,m + 1 + (n - m),cap5,A3,nt + 1,cap3,by omega,by go_num,rfl,rfl,hown6,(by rw [Hids.out];exact ht6),hdis,hB5⟩
              case measure=>simp [intOf];omega
          · have hd : decide (m < n) = false:=by simpa using hmlt
            have hat:=insC_at (c:=cmpMk) O x m (by rw [Hlen.out];exact hmO) hlow.out (fun hk'=>absurd (by rw [← Hlen.out];exact hk') hmlt);have Hat:=Lib.hid hat;clear hat;go_upto_region 9 with fail
            refine wp_region_lex (Bel wr) false (by kernel_rfl) (by kernel_rfl) (by kernel_rfl) (bel_drew wr) ?_;have hne:=bel_some wr;have hS:=bel_drew wr;repeat (refine wpLx_loose ?_ ?_;(focus (simp only [chainOp];done));intro K hK;go_simp;refine hK _ ?_;clear hK K)
            refine wpLx_chain ?_ ?_ ?_;(focus (exact hS));(focus (simp only [chainOp];done));intro K hK;go_simp;refine hK _ _ ?_;clear hK K;repeat (refine wpLx_loose ?_ ?_;(focus (simp only [chainOp];done));intro K hK;go_simp;refine hK _ ?_;clear hK K)
            refine wpLx_nil ?_;intro hS;have hbz : Below V.heap.size V wr.drew:=hbj.drew;have hrx : rowAt wr.drew gx (o + i * 34) 34 = some (markVC x):=hrj;have hsw:=hsw2.below hbz;have hownt:=htV.below hbz;have hBw : Below w.heap.size w wr.drew:=hbV.trans (hbz.mono hbV.size);clear hne hS hbz hrj hbj hmlt hd hswj j1 j2 hxV hsw2 htV hownV hbV;obtain ⟨W,hW⟩ : ∃ W,wr.drew = W:=⟨_,rfl⟩
            rw [hW] at hrx hsw hownt hBw ⊢;clear hW;obtain ⟨A,hA1⟩ : ∃ A,A = A1:=⟨_,rfl⟩
            rw [← hA1] at hsw ⊢;obtain ⟨d,hd⟩ : ∃ d,d = x:=⟨_,rfl⟩
            rw [← hd] at hrx Hat Htk Hids hownt ⊢;obtain ⟨cap,hcap⟩ : ∃ cap,cap = cap1:=⟨_,rfl⟩
            rw [← hcap] at hsw ⊢;clear hd hcap hA1;have hBx : Below W.heap.size W (W.alloc (.cells #[] 41)):=(Below.refl _ _).alloc (Nat.le_refl _) _;have hown0:=Own.empty W W.heap.size 41 34 (Nat.le_refl _);have hlo : ∀ w0 : World,(slS 22 (.slice A n cap) none (some (.int .i64 m)) none).run Tryz.prog w0 = .ok (.slice A m cap) w0:=fun w0=>SlW.lo einfoMark hsw hmO w0;obtain ⟨Ah,ch,hhi,hhs,hhf⟩:=hsw.hi (P:=Tryz.prog) einfoMark (m:=m) hmO;have hslo : SlR (W.alloc (.cells #[] 41)) A m 34 ((O.map markVC).take m):=(hsw.rd.below hBx).take_ hmO;have hf1:=hsw.nil;have hrone : ∀ r ∈ (O.map markVC).take m,∀ u ∈ r.toList,u.oneCell' = true:=fun r hr=>(by obtain ⟨y',_,rfl⟩:=List.mem_map.1 (List.mem_of_mem_take hr);exact markVC_one _);have hrone2 : ∀ r ∈ (O.map markVC).drop m,∀ u ∈ r.toList,u.oneCell' = true:=fun r hr=>(by obtain ⟨y',_,rfl⟩:=List.mem_map.1 (List.mem_of_mem_drop hr);exact markVC_one _);go_upto_region 12 with (at_builtin;refine L_appends einfoMark rfl hown0 rfl hslo hf1 hrone (by omega) (by omega) (by simp) ?_;intro A2 cap2 w2 hown2 hk2 hsub2)
            simp only [Nat.zero_add,List.nil_append] at hown2;have hwW : Below W.heap.size W w2:=hBx.trans (hk2.below (by simp) (by simp [blk]));have hrw2 : rowAt w2 gx (o + i * 34) 34 = some (markVC d):=(rowAt_of_block (hwW.block gx (rowAt_lt hrx)) _ _).trans hrx;have hB3 : Below w2.heap.size w2 (w2.alloc (.cells (markVC d) 41)):=(Below.refl _ _).alloc (Nat.le_refl _) _;have hown3:=hown2.below hB3;have hrow3 : rowAt (w2.alloc (.cells (markVC d) 41)) w2.heap.size 0 34 = some (markVC d):=by simp [go_sem]
            have hsz2:=hwW.size;go_upto_region 13 with (at_builtin;refine L_append einfoMark rfl hown3 rfl hrow3 (markVC_one _) (by omega) (by omega) (by simp;omega) ?_;intro A4 cap4 w4 hown4 hk4 hsub4)
            have hwW4 : Below W.heap.size W w4:=(hwW.trans (hB3.mono hsz2)).trans (hk4.below (by simp;omega) (fun x hx=>(hown2.at_base hx).1));have hs4:=hhs w4 (hsw.rd.below hwW4);have hsz4:=hwW4.size;clear hown3 hrow3 hB3 hown0 hBx hslo hrw2 hlo;go_upto_region 14 with (at_builtin;refine L_appends einfoMark rfl hown4 rfl hs4 hhf hrone2 (by omega) (by omega) (by omega) ?_;intro A5 cap5 w5 hown5 hk5 hsub5)
            have hwW5 : Below W.heap.size W w5:=hwW4.trans (hk5.below (by omega) (fun x hx=>(hown4.at_base hx).1));have hO5 : (O.map markVC).take m ++ [markVC d] ++ (O.map markVC).drop m = (O.take m ++ d :: O.drop m).map markVC:=by simp [List.map_take,List.map_drop]
            rw [hO5] at hown5;clear hown4 hown2 hO5 hs4 hhi hhs hrone hrone2 hf1;have hB5 : Below w.heap.size w w5:=hBw.trans (hwW5.mono hBw.size);have hL5 : (O.take m ++ d :: O.drop m).length = m + 1 + (n - m):=by simp [Hlen.out];omega
            have hOe : O.take m ++ d :: O.drop m = srtM (R.take (i + 1)):=by rw [Htk.out,Hat.out]
            rw [hOe] at hown5 hL5;have hown6 : Own w5 w.heap.size 41 34 A5 (m + 1 + (n - m)) cap5 ((srtM (R.take (i + 1))).map markVC):=hown5.mono hBw.size;have ht6:=hownt.below hwW5;have hdis : ∀ x ∈ blk A3,x ∉ blk A5:=fun x hx hx5=>(by have h1:=(hownt.at_base hx).2;have h2:=(hown5.at_base hx5).1;omega);clear hown5 hOe hL5;(go_wp2_with fail);go_roundw
            case rel=>exact ⟨i + 1,A5,m + 1 + (n - m),cap5,A3,nt + 1,cap3,by omega,by go_num,rfl,rfl,hown6,(by rw [Hids.out];exact ht6),hdis,hB5⟩
            case measure=>simp [intOf];omega
    · have e : R.take i = R:=List.take_of_length_le (by rw [Hnx.out];omega);rw [e] at hown;clear e hownt;(go_wp2_with fail);go_ret;exact ⟨A1,n,cap1,rfl,hown,hb⟩
end
end Go.Proofs.YtgfpjjppeldhbaaGreatDoor
