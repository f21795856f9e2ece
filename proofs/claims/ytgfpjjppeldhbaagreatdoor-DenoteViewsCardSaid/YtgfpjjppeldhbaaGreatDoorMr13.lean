/- DenoteOrder and DenoteViews: row -/
import Derived.Test.YtgfpjjppeldhbaaGreatDoorMr11
namespace Go.Proofs.YtgfpjjppeldhbaaGreatDoor
section
open Go.RowKit Stb
structure MadeX (t : ByteArray) (P : List MarkV) (I : List Id32) (s : VSt) : Prop where
  ids : ∀ d,d ∈ I ↔ d ∈ P.map MarkV.id
  st : Means ((onceM P).filter fun m=>decide (fits t m)) s
theorem madeX_new (t : ByteArray) (k : Int) : MadeX t [] [] (VSt.new k):=⟨fun _=>Iff.rfl,means_new k⟩
theorem madeX_step {t : ByteArray} {P : List MarkV} {I : List Id32} {s : VSt} (h : MadeX t P I s) (m : MarkV) : MadeX t (P ++ [m]) (stepI m I) (stepS t m I s):=by
  unfold stepI stepS;by_cases hi : m.id ∈ I
  · rw [if_pos hi,if_pos hi];have hm:=(onceM_ids P m.id).2 ((h.ids _).1 hi);refine ⟨fun d=>?_,?_⟩
    · rw [h.ids d,List.map_append,List.mem_append];refine ⟨.inl,fun hh=>hh.elim id fun hh=>?_⟩;have e : d = m.id:=by simpa using hh
      rw [e];exact (h.ids _).1 hi
    · rw [onceM_snoc];unfold onceStep;rw [if_pos hm];exact h.st
  · rw [if_neg hi,if_neg hi];have hm : m.id ∉ (onceM P).map MarkV.id:=fun hh=>hi ((h.ids _).2 ((onceM_ids P m.id).1 hh));refine ⟨fun d=>?_,?_⟩
    · rw [List.mem_cons,h.ids d,List.map_append,List.mem_append];simp [or_comm]
    · rw [onceM_snoc];unfold onceStep;rw [if_neg hm,List.filter_append];unfold foldS;by_cases hf : fits t m
      · have e : [m].filter (fun m=>decide (fits t m)) = [m]:=by simp [hf]
        rw [if_pos hf,e];exact means_fold h.st (opO_ok _ hf.1).2.2.2.2.1 (fun a ha e=>hm (List.mem_map.2 ⟨a,(List.mem_filter.1 ha).1,e⟩))
      · have e : [m].filter (fun m=>decide (fits t m)) = []:=by simp [hf]
        rw [if_neg hf,e,List.append_nil];exact h.st
theorem madeX_val {t : ByteArray} {P : List MarkV} {I : List Id32} {s : VSt} (h : MadeX t P I s) (hk0 : kindB t ≠ 0) (hk : s.kind = kindB t) : valK t = s.kind ∧ valN t P = s.num ∧ valP t P = s.pairs:=by
  have hp : ((onceM P).filter fun m=>decide (fits t m)).Perm (fitM t P):=((srtM_perm P).symm).filter _;have hr:=kindB_range t;have h2:=means_pairs hp ((onceM_one P).sub List.filter_sublist) h.st (means_den t P) (hk.trans (stF_kind (k:=kindB t) (by omega) (by omega) _).symm);exact ⟨hk.symm,(if_neg hk0).trans h2.1.symm,(if_neg hk0).trans h2.2.symm⟩
@[go_sem ↓] theorem slMark_rw (x : Value) (lo hi mx : Option Value) : Instr.sliceAt 22 x lo hi mx = slS 22 x lo hi mx:=rfl
set_option maxRecDepth 100000 in
set_option maxHeartbeats 8000000 in
theorem denoteViews_any (t : ByteArray) (A : Option Addr) (n cap : Nat) (R : List MarkV) (w : World) (hp : PartsVar w) (ht : t.size ≤ 9223372036854775807) (h : MarksOk w A n R) (hcap : n ≤ cap) :
    Calls Tryz.prog 6 #[.string t,.slice A n cap] w fun e w'=>e = .returned (.bool true) ∧ Below w.heap.size w w':=by
  have hlen:=h.rows.len;have c1:=dmuch w A n cap R h;have hrows0:=h.rows;have Hlen:=Lib.hid hlen;have hpl:=hp.lt;clear h hlen;go_enter Tryz.func6,Tryz.ntmps6
  (go_wp2_with fail);refine c1.mono ?_;rintro e w1 ⟨bm,rfl,hfew,hbw⟩;have hp1:=hp.below hbw;have hrows:=SlR.below hrows0 hbw;have hz1 : w.heap.size ≤ w1.heap.size:=hbw.size;clear c1;cases bm with
  | true =>
    have cw:=awake27 w1 hp1;(go_wp2_with fail);refine cw.mono ?_;rintro e w9 ⟨rfl,hb9⟩;have hbF:=bel2 hbw hb9;clear cw;(go_wp2_with fail);go_ret;exact ⟨rfl,hbF⟩
  | false =>
  have hf:=hfew rfl;have hn30 : n ≤ 30:=by have:=hf.1;have:=Hlen.out;omega
  have Hf:=Lib.hid hf;have hoR : (onceM R).length ≤ 30:=Nat.le_trans (onceM_len R) (by rw [Hlen.out];omega);have HoR:=Lib.hid hoR;clear hfew hf hrows0 hoR;by_cases hk : kindB t = 0
  · have hcn : checkB t ≠ 0:=by unfold checkB;rw [if_pos hk];decide
    have c3:=vnew_bad t w1 ht hk;have c4:=fun w2 (hb2 : Below w1.heap.size w1 w2)=>dvalue_all t A n cap R w2 (SlR.below hrows hb2) (by omega) HoR.out Hf.out.2 (hp1.below hb2) ht;obtain ⟨E,hE⟩ : ∃ E,checkB t = E:=⟨_,rfl⟩
    rw [hE] at hcn c3;simp only [hE] at c4;have hcb : (E != 0) = true:=by simpa using hcn
    clear hcn hE hk;(go_wp2_with fail);refine c3.mono ?_;rintro e w2 ⟨rfl,hb2⟩;have c5:=c4 w2 hb2;have hb02:=bel2 hbw hb2;clear c3 c4 hb2;(go_wp2_with fail);refine c5.mono ?_;rintro e w3 ⟨A1,n1,k1,rfl,_,hb3⟩;have hb03:=bel2 hb02 hb3;clear c5 hb3 hb02;go_upto_region 6 with fail
    have hba : Below w3.heap.size w3 (w3.alloc (.cells (valVC ⟨valK t,valN t R,.slice A1 n1 k1⟩) 25)):=(Below.refl _ _).alloc (Nat.le_refl _) _;have hb04:=bel2 hb03 hba;obtain ⟨W4,hW4⟩ : ∃ W4,W4 = w3.alloc (.cells (valVC ⟨valK t,valN t R,.slice A1 n1 k1⟩) 25):=⟨_,rfl⟩
    rw [← hW4] at hb04 ⊢;clear hW4 hba hb03;have cw:=awake27 W4 (hp.below hb04);(go_wp2_with fail);refine cw.mono ?_;rintro e w9 ⟨rfl,hb9⟩;have hbF:=bel2 hb04 hb9;clear cw;(go_wp2_with fail);go_ret;exact ⟨rfl,hbF⟩
  · have hT0:=(ToldR.new t hk).toTold;have hM0:=madeX_new t (kindB t);have c3:=vnew_any t w1 ht hk (by omega);obtain ⟨s0,hs0⟩ : ∃ s0,VSt.new (kindB t) = s0:=⟨_,rfl⟩
    rw [hs0] at hT0 hM0 c3;have Hk:=Lib.hid hk;have HT0:=Lib.hid hT0;have HM0:=Lib.hid hM0;clear hk hs0 hT0 hM0;(go_wp2_with fail);refine c3.mono ?_;rintro e w2 ⟨g,b,O,v,rfl,hV,hbO,hgw,hb2⟩;have hS : ∀ x ∈ b :: O,w1.heap.size ≤ x:=fun x hx=>hbO x hx;have hb02:=bel2 hbw hb2;have hp2:=hp1.below hb2;have hrows2 : MarksIn w2 A n R:=SlR.below hrows hb2;have hbs : ∀ x ∈ b :: O,w.heap.size ≤ x:=fun x hx=>Nat.le_trans hz1 (hS x hx);have Hbs:=Lib.hid hbs;have HSm:=Lib.hid hV.small;clear c3 hbO hb2 hS hbs;(go_wp2_with fail);go_loopw [9] (fun iv wr=>∃ (i : Nat) (I : List Id32) (s : VSt),i ≤ n ∧ iv = .int .i64 i ∧ VAt wr g t b O I v s ∧ Hid (Told t i I s) ∧ Hid (MadeX t (R.take i) I s) ∧ Keep (b :: O) w2 wr) (fun iv _=>n - (intOf iv).toNat)
    case atStart=>exact ⟨0,[],s0,Nat.zero_le _,rfl,hV,HT0,HM0,Keep.refl _ _⟩
    case round =>
      clear hV HT0 HM0;obtain ⟨i,I,s,hi,rfl,hV,HT,HM,hkr⟩:=hrel;have hbr : Below w.heap.size w wr:=hb02.trans (hkr.below hb02.size Hbs.out);have hpr : PartsVar wr:=hp.below hbr;by_cases hlt : i < n
      · have hrowsr : MarksIn wr A n R:=SlR.kept_small hrows2 (by omega) hkr HSm.out
        · obtain ⟨gm,om,rfl,hrow,hid,hbody⟩:=MarksIn.get hrowsr hlt (by rw [Hlen.out];exact hlt);have hms:=Hf.out.2 (R[i]'(by rw [Hlen.out];exact hlt)) (List.getElem_mem (by rw [Hlen.out];exact hlt));have htk : R.take (i + 1) = R.take i ++ [R[i]'(by rw [Hlen.out];exact hlt)]:=by rw [List.take_add_one,List.getElem?_eq_getElem (by rw [Hlen.out];exact hlt)];rfl
          obtain ⟨m,hm⟩ : ∃ m,R[i]'(by rw [Hlen.out];exact hlt) = m:=⟨_,rfl⟩
          rw [hm] at hrow hms htk;have cf:=vfold_step m wr g t b O I v s hV hpr (by omega) ht HT.out.kind.symm (by have:=HT.out.len;omega);have hT':=HT.out.step m;have hM':=madeX_step HM.out m;rw [← htk] at hM';have hval:=madeX_val hM' Hk.out hT'.kind;have hoT : (onceM (R.take (i + 1))).length ≤ 30:=Nat.le_trans (onceM_take_len R _) HoR.out;have hfT : ∀ z ∈ R.take (i + 1),z.body.size ≤ 600:=fun z hz=>Hf.out.2 z (List.mem_of_mem_take hz);obtain ⟨I',hI'⟩ : ∃ I',stepI m I = I':=⟨_,rfl⟩
          obtain ⟨s',hs'⟩ : ∃ s',stepS t m I s = s':=⟨_,rfl⟩
          rw [hI',hs'] at cf hT' hM';rw [hs'] at hval;have HT':=Lib.hid hT';have HM':=Lib.hid hM';have Hval:=Lib.hid hval;have hlo : ∀ w0 : World,(slS 22 (.slice (some ⟨gm,om,none⟩) n cap) none (some (.int .i64 ((i : Int) + 1))) none).run Tryz.prog w0 = .ok (.slice (some ⟨gm,om,none⟩) (i + 1) cap) w0:=fun w0=>run_slS_lo einfoMark w0 (some ⟨gm,om,none⟩) n cap (i + 1) (by omega);have hE : checkB t = 0:=by unfold checkB;rw [if_neg Hk.out]
          clear hm hid hbody hI' hs' hT' hM' HT HM hval htk;(go_wp2_with fail);refine cf.mono ?_;rintro e w3 ⟨rfl,hV3,hk3⟩;have hrows3 : MarksIn w3 (some ⟨gm,om,none⟩) n R:=SlR.kept_small hrowsr (by omega) hk3 hV.small;have hk3' : Keep (b :: O) w2 w3:=Keep.trans hkr hk3 (fun y hy=>.inl hy);have hb3 : Below w.heap.size w w3:=hb02.trans (hk3'.below hb02.size Hbs.out);have htr : MarksIn w3 (some ⟨gm,om,none⟩) (i + 1) (R.take (i + 1)):=by
            have:=SlR.take_ hrows3 (m:=i + 1) (by omega)
            rwa [← List.map_take] at this
          have c4:=dvalue_all t (some ⟨gm,om,none⟩) (i + 1) cap (R.take (i + 1)) w3 htr (by omega) hoT hfT (hp.below hb3) ht;rw [hE,Hval.out.1,Hval.out.2.1,Hval.out.2.2] at c4;have cval:=fun w' h'=>vval_t HT'.out ht (by omega) w' g b O v h';have csame:=fun w' A B m m' c c' hx hy=>same_t w' s'.kind s'.num A B m m' c c' s'.pairs hx hy;obtain ⟨kd,hkd⟩ : ∃ kd,s'.kind = kd:=⟨_,rfl⟩
          obtain ⟨nm,hnm⟩ : ∃ nm,s'.num = nm:=⟨_,rfl⟩
          rw [hkd,hnm] at c4;rw [hkd,hnm] at cval csame;have Cval:=Lib.hid cval;have Csame:=Lib.hid csame;clear cf hrow hms hV hkr hbr hpr hrowsr hk3 htr hoT hfT hE cval csame hkd hnm Hval hrows3;(go_wp2_with fail);refine c4.mono ?_;rintro e w4 ⟨A1,n1,k1,rfl,hP1,hb4⟩;clear c4 hlo;go_upto_region 12 with fail
          obtain ⟨g1,hg1⟩ : ∃ g1,w4.heap.size = g1:=⟨_,rfl⟩
          have hba : Below w4.heap.size w4 (w4.alloc (.cells (valVC ⟨kd,nm,.slice A1 n1 k1⟩) 25)):=(Below.refl _ _).alloc (Nat.le_refl _) _;have hv1 : rowAt (w4.alloc (.cells (valVC ⟨kd,nm,.slice A1 n1 k1⟩) 25)) w4.heap.size 0 3 = some (valVC ⟨kd,nm,.slice A1 n1 k1⟩):=by simp [go_sem]
          have hb5 : Below w3.heap.size w3 (w4.alloc (.cells (valVC ⟨kd,nm,.slice A1 n1 k1⟩) 25)):=bel2 hb4 hba;have hP1' : PairsIn (w4.alloc (.cells (valVC ⟨kd,nm,.slice A1 n1 k1⟩) 25)) A1 n1 s'.pairs:=SlR.below hP1.1 hba;have hV5:=hV3.below hb5;have hk5 : Keep (b :: O) w2 (w4.alloc (.cells (valVC ⟨kd,nm,.slice A1 n1 k1⟩) 25)):=Keep.trans hk3' ((Keep.of_below hb5).mono (by simp)) (fun y hy=>.inl hy);obtain ⟨W5,hW5⟩ : ∃ W5,W5 = w4.alloc (.cells (valVC ⟨kd,nm,.slice A1 n1 k1⟩) 25):=⟨_,rfl⟩
          rw [← hW5] at hv1 hP1' hV5 hk5 ⊢;rw [hg1] at hv1 ⊢;have hn1:=hP1.2;clear hW5 hg1 hba hP1 hb4 hb5 hb3 hV3 hk3';have HV5:=Lib.hid hV5;clear hV5;refine wp_region_tree (.loose 0 (.loose 1 (.loose 2 (.loose 3 (.loose 4 (.one 5 (.one 6 (.loose 7 (.loose 8 .done))))))))) (Bel W5) false (by kernel_rfl) (by kernel_rfl) (by kernel_rfl) (by kernel_rfl) (bel_drew W5) ?_;have hne:=bel_some W5;have hS:=bel_drew W5;have b1:=sub_row hv1;repeat (refine wpTx_loose rfl ?_ ?_;(focus (simp only [chainOp];done));intro K hK;go_simp;refine hK _ ?_;clear hK K)
          refine wpTx_one ?_ rfl ?_ ?_;(focus (exact hS));(focus (simp only [chainOp];done));intro K hK;go_simp;refine (Cval.out _ (HV5.out.below hS)).mono ?_;rintro e w6 ⟨A2,n2,k2,rfl,hP2,hb6⟩;have hS2:=bel_next hS hb6;refine ⟨_,rfl,hS2,hK _ _ ?_⟩;clear hK K hS hb6;have hS:=hS2;clear hS2;have hP3:=SlR.below hP1' hS;refine wpTx_one ?_ rfl ?_ ?_;(focus (exact hS));(focus (simp only [chainOp];done));intro K hK;go_simp;refine (Csame.out _ _ _ _ _ _ _ ⟨hP3,hn1⟩ hP2).mono ?_;rintro e w7 ⟨rfl,hb7⟩;have hS2:=bel_next hS hb7;refine ⟨_,rfl,hS2,hK _ _ ?_⟩;clear hK K hS hb7 hP2 hP3;have hS:=hS2;clear hS2;repeat (refine wpTx_loose rfl ?_ ?_;(focus (simp only [chainOp];done));intro K hK;go_simp;refine hK _ ?_;clear hK K)
          refine wpTx_done ?_;intro hS;have hVn:=HV5.out.below hS;have hkn : Keep (b :: O) w2 _:=Keep.trans hk5 ((Keep.of_below hS).mono (by simp)) (fun y hy=>.inl hy);clear hS hne b1 hv1 hP1' hk5;(go_wp2_with fail);go_roundw
          case rel=>exact ⟨i + 1,I',s',by omega,by go_num,hVn,HT',HM',hkn⟩
          case measure=>simp [intOf];omega
      · have hbq:=hbr;have cw:=awake27 wr hpr;clear HT HM hV hkr hpr hbr;(go_wp2_with fail);refine cw.mono ?_;rintro e w9 ⟨rfl,hb9⟩;have hbF:=bel2 hbq hb9;clear cw;(go_wp2_with fail);go_ret;exact ⟨rfl,hbF⟩
end
section
open Go.ChangeShapes Go.WideShapes Go.ChangeAt Go.RowKit Go.WideMaps Go.WideElems
open Go.ChangeMaps (setBlock shut_map_nil open_string shut_string)
theorem maxLen_leV8 : maxLen ≤ 9223372036854775807:=by decide
theorem len_cap {H : Type} {enc : TypeId × Value → H} {base : Nat} {spare : Nat → Bool} {held : Bool} {P : Program} {w : World} {T E : TypeId} {A : Option Addr} {n cap : Nat} {d : DataW H} {p : List MemPlace} (u : P.underlying T = some (.slice E)) (h : DataW.Trod enc P w base spare held T (.slice A n cap) d p) : n ≤ cap:=by
  obtain ⟨fuel,hf⟩:=h;rcases Go.Deep.open_slice u hf with ⟨h0,hx⟩ | ⟨a,len,cap',m,f,D,Pl,hcs,hb,hlc,hcm,hm,hx,hel⟩
  · have e0 : (Value.slice A n cap).cells.toList = [Value.slice A n cap]:=rfl;rw [e0] at h0;injection h0 with h0 _
    injection h0 with _ h1 h2
    omega
  · have e0 : (Value.slice A n cap).cells.toList = [Value.slice A n cap]:=rfl;rw [e0] at hcs;injection hcs with h0 _
    injection h0 with _ h1 h2
    omega
set_option maxRecDepth 100000 in
theorem denoteViews_lifted (os : Os) (started : os.Started) (H : Type) (enc : TypeId × Value → H) :
    ReturnsInHanded {} Tryz.checked os 6 .any (fun w args=>(Rows.denoteViewsSpec.pre enc Tryz.prog Tryz.f6 Rows.denoteViewsRow.domain false w args ∧ laidMetH Tryz.prog [("petrel/op.parts",Rows.laid_petrel_op_parts)] w) ∧ sizedMet enc Tryz.prog Tryz.f6 (OpenSpec.ofChange Rows.denoteViewsSpec) false w args) (Rows.denoteViewsSpec.post enc Tryz.prog Tryz.f6 false true false false):=by
  refine returnsInHanded_of_change_and (C:=Tryz.checked) (X:=fun w _=>laidMetH Tryz.prog [("petrel/op.parts",Rows.laid_petrel_op_parts)] w) (fun _ _ _ hh h=>h.of_heap hh) Tryz.own started (by kernel_rfl) Tryz.func6
    (ChangeSpec.witness_at (enc:=enc) (C:=Tryz.checked) (os:=os) (X:=fun w _=>laidMetH Tryz.prog [("petrel/op.parts",Rows.laid_petrel_op_parts)] w) false (laidWorld Tryz.prog os) #[.string ⟨#[]⟩,.slice none 0 0] 8 rfl (by kernel_rfl) (by kernel_rfl) (by kernel_rfl) (by kernel_rfl) (by kernel_rfl) (laidWorld_met os _)) ?_
  intro W base args ds gs before hval0 hW hcnd hsz0 hL _;have hval : ∀ (j : Nat) t v,Tryz.f6.params[j]? = some t → args[j]? = some v → Value.okWide Tryz.prog W .any base t v:=hval0;have hW':=hW;have hg:=parts_of_laid hL;obtain ⟨p,q,hA0,hV,rfl,hfz,hnd⟩:=hW;have hA : DataW.TrodAll enc Tryz.prog W 0 (fun _=>true) true Tryz.f6.params.toList args.toList ds p:=hA0;rw [Tryz.params6] at hA hval;obtain ⟨v0,v1,d0,d1,p0,p1,rfl,rfl,rfl,h0,h1⟩:=trodAll_two hA;obtain ⟨rfl,rfl⟩:=trodVars_nil hV;obtain ⟨t,rfl,_,_,ht⟩:=open_string Tryz.underlying9 (hval 0 9 v0 rfl rfl) h0;obtain ⟨A,n,cap,R,rfl,hR,hRl,hok,hn,_⟩:=open_rows (k:=34) Tryz.underlying22 opensMarkV (by kernel_rfl) (by omega) (hval 1 22 v1 rfl rfl) h1;have hcap:=len_cap Tryz.underlying22 h1;clear hA0 hval0;have hml:=maxLen_leV8;refine (denoteViews_any t A n cap R W hg (by omega) ⟨hR,by omega,fun a ha=>by have:=(hok a ha).2;omega⟩ hcap).mono fun e W' ⟨he,hb⟩=>?_;subst he;exact ⟨_,rfl,law_post (tb:=4) Tryz.laidOut (by kernel_rfl) Tryz.underlying4 rfl rfl (by kernel_rfl) hW' hb⟩
theorem denoteViews_facts : joinedFacts Tryz.pinned.checked.prog 6 Tryz.f6 Rows.denoteViewsSpec Rows.denoteViewsRow = true:=by kernel_rfl
theorem denoteViews_named : Tryz.pinned.checked.prog.funcNamed Rows.denoteViewsRow.func = some 6:=by kernel_rfl
theorem denoteViews_inst : Tryz.f6.isInstance Tryz.pinned.checked.prog Rows.denoteViewsRow.origin Rows.denoteViewsRow.targs:=of_decide_eq_true (by kernel_rfl)
theorem denoteViews_wrap : Tryz.f6.isWrapper Tryz.pinned.checked.prog Rows.denoteViewsRow.wrapper Rows.denoteViewsRow.mainSum:=by unfold Func.isWrapper;first | (rw [if_pos (by decide +kernel)];kernel_rfl) | (rw [if_neg (by decide +kernel)];exact ⟨rfl,rfl⟩)
theorem denoteViews_holds : Rows.DenoteViewsSaid :=
  OpenClaim.holds_of_wide 6 Tryz.f6 rfl rfl rfl rfl rfl rfl rfl ⟨rfl,rfl,rfl,rfl,rfl⟩ rfl rfl rfl rfl rfl denoteViews_named Tryz.func6 denoteViews_facts denoteViews_inst denoteViews_wrap
    (fun os started H enc _=>denoteViews_lifted os started H enc)
theorem denoteViewsCard_holds : Rows.DenoteViewsCardSaid :=
  Claim7.holds_tied_plain_at .later [] [.data] true (true, "f245672c1a817d2508774d6a3a2bceb9efc48028e5509a509eb3e4f8d9835711") true
    denoteViews_holds (fun _ h=>by cases h) (by kernel_rfl) (fun _ h=>by cases h) denoteViews_row_tie rfl ⟨rfl,rfl⟩ (by kernel_rfl) rfl
    (fun f fn hf hfn=>by
      obtain rfl : f = 6:=Option.some.inj ((show Tryz.prog.funcNamed "petrel/petrellaw27.DenoteViews" = some 6 by kernel_rfl).symm.trans hf) |>.symm
      obtain rfl : fn = Tryz.f6:=(Option.some.inj (Tryz.func6.symm.trans hfn)).symm;exact ⟨by kernel_rfl,fun j t ht=>by
        rw [Tryz.params6] at ht;rcases j with _ | _ | j
        · have h3 : t = 9:=by simpa using ht.symm
          subst h3;exact (show Tryz.prog.wantsStandIn 9 = false by kernel_rfl)
        · have h3 : t = 22:=by simpa using ht.symm
          subst h3;exact (show Tryz.prog.wantsStandIn 22 = false by kernel_rfl)
        · simp at ht⟩)
    (by kernel_rfl)
end
end Go.Proofs.YtgfpjjppeldhbaaGreatDoor
