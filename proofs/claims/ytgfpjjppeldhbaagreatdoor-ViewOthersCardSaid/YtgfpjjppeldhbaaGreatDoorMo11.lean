/- Part 11 of the texts that lead to this claim: the walks of the functions and the plain law, in order. -/
import Derived.Test.YtgfpjjppeldhbaaGreatDoorMo10

/- Package multi: List. -/
namespace Go.Proofs.YtgfpjjppeldhbaaGreatDoor
open Go.RowKit Go.Sort Go.Shelf

/-- Pairs in order, as the sort leaves them. -/
def psort (S : List Pair) : List Pair := S.mergeSort fun x y => !(ltOf cmpPair y x)
theorem psort_le (S : List Pair) : (psort S).Pairwise (fun x y => ¬ cmpPair y x < 0) := by
  have htot : ∀ a b : Pair, ((!ltOf cmpPair b a) || !ltOf cmpPair a b) = true := fun a b => by
    unfold ltOf
    by_cases h1 : cmpPair b a < 0
    · have := totPair.asym h1; simp [this]
    · simp [h1]
  have htr : ∀ a b d : Pair, (!ltOf cmpPair b a) = true → (!ltOf cmpPair d b) = true → (!ltOf cmpPair d a) = true := fun a b d h1 h2 => by
    unfold ltOf at *
    simp only [Bool.not_eq_true', decide_eq_false_iff_not] at h1 h2 ⊢
    intro h3
    exact h2 (totPair.le_trans (a := d) (b := a) (d := b) (totPair.asym h3) (by
      by_cases e : a = b
      · subst e; exact absurd h3 h2
      · exact totPair.flip h1 (fun e' => e e'.symm)))
  exact List.Pairwise.imp (fun {a b} h => by simpa [ltOf] using h) (List.pairwise_mergeSort htr htot S)
theorem psort_perm (S : List Pair) : (psort S).Perm S := List.mergeSort_perm _ _

theorem isAggPair (w : World) : (isAgg 98).run Tryz.prog w = .ok true w := by simp [isAgg, run_underlying Tryz.underlying98]
theorem size_pairs (w : World) : (Go.sizeOf 98).run Tryz.prog w = .ok 2 w := by
  have h := infoPair
  cases hi : Tryz.prog.info? 98 with
  | none => rw [hi] at h; cases h
  | some i =>
    rw [hi] at h
    have hk : i.size = 2 := by simpa using h
    simp [Go.sizeOf, typeInfo, hi, hk]

set_option maxHeartbeats 1000000 in
theorem mpcmp (x y : Pair) (w : World) : Calls Tryz.prog 129 #[.agg (pairC x), .agg (pairC y)] w fun e w' => e = .returned (.int .i64 (cmpPair x y)) ∧ Gr w w' := by
  go_enter Tryz.func129, Tryz.ntmps129
  go_upto_region 1 with fail
  obtain ⟨W, hW⟩ : ∃ W, W = (w.alloc (.cells (pairC x) 98)).alloc (.cells (pairC y) 98) := ⟨_, rfl⟩
  have hB : Gr w W := by rw [hW]; exact ((Gr.refl _).alloc _).alloc _
  have a3 : W.cell? ⟨w.heap.size, 0, none⟩ = some (.string x.key) := by rw [hW]; simp [go_sem]
  have a4 : W.cell? ⟨w.heap.size + 1, 0, none⟩ = some (.string y.key) := by rw [hW]; simp [go_sem]
  have a5 : W.cell? ⟨w.heap.size, 1, none⟩ = some (.string x.val) := by rw [hW]; simp [go_sem]
  have a6 : W.cell? ⟨w.heap.size + 1, 1, none⟩ = some (.string y.val) := by rw [hW]; simp [go_sem]
  rw [← hW]
  clear hW
  refine wp_region_lex (Gr W) false (by kernel_rfl) (by kernel_rfl) (by kernel_rfl) (Gr.drew W) ?_
  have hne := gr_some W
  have hS := Gr.drew W
  have b3 := gsub_cell a3; have b4 := gsub_cell a4; have b5 := gsub_cell a5; have b6 := gsub_cell a6
  repeat (refine wpLx_loose ?_ ?_; (focus (simp only [chainOp]; done)); intro K hK; go_simp; refine hK _ ?_; clear hK K)
  refine wpLx_chain ?_ ?_ ?_
  focus (exact hS)
  focus (simp only [chainOp]; done)
  intro K hK
  go_simp
  refine (cmp_str _ _ _).mono ?_
  rintro e w' ⟨rfl, rfl⟩
  refine ⟨_, rfl, hS, hK _ _ ?_⟩
  clear hK K
  repeat (refine wpLx_loose ?_ ?_; (focus (simp only [chainOp]; done)); intro K hK; go_simp; refine hK _ ?_; clear hK K)
  refine wpLx_chain ?_ ?_ ?_
  focus (exact hS)
  focus (simp only [chainOp]; done)
  intro K hK
  go_simp
  refine (cmp_str _ _ _).mono ?_
  rintro e w' ⟨rfl, rfl⟩
  refine ⟨_, rfl, hS, hK _ _ ?_⟩
  clear hK K
  refine wpLx_chain ?_ ?_ ?_
  focus (exact hS)
  focus (simp only [chainOp]; done)
  intro K hK
  go_simp
  refine step_keep (Gr.alloc hS _) (fun hS => ?_)
  refine hK _ _ ?_
  clear hK K
  refine wpLx_chain ?_ ?_ ?_
  focus (exact hS)
  focus (simp only [chainOp]; done)
  intro K hK
  go_simp
  refine (or_any W.heap.size 2 [cmpS x.key y.key, cmpS x.val y.val] (by simp) (W.alloc (.cells #[.int .i64 (cmpS x.key y.key), .int .i64 (cmpS x.val y.val)] 3)).drew (or2_cells W _ _)).mono ?_
  rintro e w' ⟨rfl, rfl⟩
  refine ⟨_, rfl, hS, hK _ _ ?_⟩
  clear hK K
  repeat (refine wpLx_loose ?_ ?_; (focus (simp only [chainOp]; done)); intro K hK; go_simp; refine hK _ ?_; clear hK K)
  refine wpLx_nil ?_
  intro hS
  go_wp2_with fail
  go_ret
  exact ⟨rfl, hB.trans hS⟩

/-- slices.SortFunc at pairs of the call's own. -/
theorem sort_pairs (w : World) (B : Nat) (A : Option Addr) (n cap : Nat) (S : List Pair) (hown : Own w B 98 2 A n cap (S.map pairC)) (hn : S.length ≤ 1000000) :
    Calls Tryz.prog 128 #[.slice A n cap, .func (.func 129) #[] #[]] w fun e w' => e = .returned (.tuple #[]) ∧ Own w' B 98 2 A n cap ((psort S).map pairC) ∧ Keep (blk A) w w' := by
  have hl : S.length = n := by simpa using hown.len
  rcases hown.addr with rfl | ⟨g, rfl⟩
  · have hn0 : n = 0 := (hown.cap_le.2 rfl).1
    subst hn0
    have hS : S = [] := List.eq_nil_of_length_eq_zero hl
    subst hS
    refine (AnyF.slices_SortFunc_none Tryz.laySortPair none cap (.func (.func 129) #[] #[]) w).mono ?_
    rintro e w' ⟨rfl, rfl⟩
    exact ⟨rfl, by simpa [psort] using hown, Keep.refl _ _⟩
  · subst hl
    have hH := own_holds (enc := pairC) (by omega) pairC_size hown
    have hcmp : CmpLays Tryz.prog 129 #[] (fun x : Pair => (pairC x).toList) 2 cmpPair g 0 S.toArray.size w := fun m os dk _ x y => mpcmp x y _
    have hgl : g < w.heap.size := (hown.at_base (x := g) (by simp [blk])).2
    have hcon := AnyQ.slices_SortFunc_total Tryz.laySortPair 2 isAggPair size_pairs (fun x : Pair => (pairC x).toList) (by simp) (fun x v hv => pairC_one x v hv) cmpPair (swo_of totPair) 129 #[] g 0 cap S.toArray w
      (enters_of Tryz.func129 (by kernel_rfl) rfl) hcmp hH hgl (by simp; omega) (fun x y h1 h2 => by
        simp only [ltOf, decide_eq_false_iff_not] at h1 h2
        exact Classical.byContradiction fun e => h2 (totPair.flip h1 e))
    have e1 : S.toArray.size = S.length := by simp
    rw [e1] at hcon
    refine hcon.mono ?_
    rintro e w' ⟨rfl, n, os, rfl⟩
    have e2 : (S.toArray.toList.mergeSort fun x y => !(ltOf cmpPair y x)) = psort S := rfl
    rw [e2]
    obtain ⟨h1, h2⟩ := own_sorted (enc := pairC) (by omega) pairC_size hown n (psort S) (psort_perm S).length_eq os
    exact ⟨rfl, h1, h2.mono (by simp [blk])⟩

theorem compact_nil (w : World) (cap : Nat) : Calls Tryz.prog 131 #[.slice none 0 cap] w fun e w' => e = .returned (.slice none 0 cap) ∧ w = w' := by
  go_enter Tryz.func131, Tryz.ntmps131
  go_wp2_with fail
  go_ret
  exact ⟨rfl, rfl⟩
/-- The pairs of writings. -/
def mpair (x : MRow) : Pair := ⟨x.key, x.val⟩
def listM (X : List MRow) : List Pair := sortC cmpPair (X.map mpair)
theorem listM_len (X : List MRow) : (listM X).length ≤ X.length := by have := sortC_length (c := cmpPair) (X.map mpair); simpa [listM] using this

set_option maxRecDepth 100000 in
set_option maxHeartbeats 1000000 in
theorem mlist (w : World) (g bl bo : Nat) (X : List MRow) (O : List Id32) (h : MultiAt w g bl bo X O) (hn : X.length ≤ 1000000) :
    Calls Tryz.prog 60 #[.pointer (some ⟨g, 0, none⟩)] w fun e w' => ∃ A cap, e = .returned (.slice A (listM X).length cap) ∧ Own w' w.heap.size 98 2 A (listM X).length cap ((listM X).map pairC) ∧ Below w.heap.size w w' := by
  have c1 := msorted w g bl bo X O h hn
  go_enter Tryz.func60, Tryz.ntmps60
  go_wp2_with fail
  refine c1.mono ?_; rintro e w1 ⟨RA, rc, rfl, hrow, hb⟩
  have hsl := hrow.slr
  have haddr := hrow.addr
  clear hrow c1 h
  go_wp2_with fail
  go_loopw [3, 9] (fun out i wr => ∃ (k : Nat) (A : Option Addr) (cap : Nat), k ≤ X.length ∧ i = .int .i64 k ∧ out = .slice A k cap ∧ Own wr w1.heap.size 98 2 A k cap (((X.take k).map mpair).map pairC) ∧ Below w1.heap.size w1 wr) (fun _ i _ => X.length - (intOf i).toNat)
  case atStart => exact ⟨0, none, 0, Nat.zero_le _, rfl, rfl, Own.nil _ _ _ _, Below.refl _ _⟩
  case round =>
    obtain ⟨k, A, cap, hk, rfl, rfl, hown, hbr⟩ := hrel
    by_cases hlt : k < X.length
    · obtain ⟨q, o, rfl, hr⟩ := (hsl.below hbr).at_ hlt
      obtain rfl : o = 0 := by
        rcases haddr with e | ⟨g', e⟩
        · cases e
        · injection e with e; injection e
      rw [Nat.zero_add, List.getElem_map] at hr
      have htk : ((X.take (k + 1)).map mpair).map pairC = ((X.take k).map mpair).map pairC ++ [pairC (mpair (X[k]'hlt))] := by rw [List.take_add_one, List.getElem?_eq_getElem hlt, Option.toList_some, List.map_append, List.map_append]; rfl
      obtain ⟨x, hx⟩ : ∃ x, X[k]'hlt = x := ⟨_, rfl⟩
      rw [hx] at hr htk
      have Htk := Lib.hid htk
      clear hx htk
      have hszr := hbr.size
      have hby : Below wr.heap.size wr ((wr.alloc (.cells (mRowC x) 184)).alloc (.cells (pairC ⟨x.key, x.val⟩) 98)) := ((Below.refl _ _).alloc (Nat.le_refl _) _).alloc (by simp) _
      have hown2 := hown.below hby
      have hrow2 : rowAt ((wr.alloc (.cells (mRowC x) 184)).alloc (.cells (pairC ⟨x.key, x.val⟩) 98)) (wr.heap.size + 1) 0 2 = some (pairC ⟨x.key, x.val⟩) := by simp [go_sem]
      go_wp2_with (at_builtin; refine L_append einfoPair rfl hown2 rfl hrow2 (pairC_one _) (by omega) (by omega) (by simp; omega) ?_; intro A' cap' w2 hownA hkA hsubA)
      have hbA : Below w1.heap.size w1 w2 := hbr.trans ((hby.mono hszr).trans (hkA.below (B := w1.heap.size) (by simp; omega) fun y hy => (hown.at_base hy).1))
      go_wp2_with fail
      go_roundw
      case rel => exact ⟨k + 1, A', cap', by omega, by go_num, rfl, by rw [Htk.out]; exact hownA, hbA⟩
      case measure => simp [intOf]; omega
    · have e : X.take k = X := List.take_of_length_le (by omega)
      have hkX : k = X.length := by omega
      rw [e] at hown
      obtain ⟨S, hS⟩ : ∃ S, X.map mpair = S := ⟨_, rfl⟩
      have hSl : S.length = k := by rw [← hS]; simp [hkX]
      have hlist : listM X = sortC cmpPair (psort S) := by unfold listM; rw [hS]; exact sortC_congr totPair fun z => (psort_perm S).mem_iff.symm
      rw [hS] at hown
      have Hlist := Lib.hid hlist
      have cs := sort_pairs wr w1.heap.size A k cap S hown (by omega)
      have HkX := Lib.hid hkX
      have hkn : k ≤ 1000000 := by omega
      clear hS hlist e hkX
      go_wp2_with fail
      refine cs.mono ?_; rintro e w2 ⟨rfl, hown2, hk2⟩
      have hb2 : Below w1.heap.size w1 w2 := hbr.trans (hk2.below (B := w1.heap.size) hbr.size fun x hx => (hown.at_base hx).1)
      have hb02 := bel2 hb hb2
      have hszb := hb.size
      clear cs hk2 hb2 hbr
      rcases hown2.addr with rfl | ⟨q, rfl⟩
      · have hk0 : k = 0 := (hown2.cap_le.2 rfl).1
        have hc0 : cap = 0 := (hown2.cap_le.2 rfl).2
        have hS0 : S = [] := List.eq_nil_of_length_eq_zero (hSl.trans hk0)
        subst hS0
        have hl0 : listM X = [] := by rw [Hlist.out]; simp [psort, sortC]
        have Hl0 := Lib.hid hl0
        subst hk0
        clear hl0 hSl hc0
        have cn := compact_nil w2 cap
        go_wp2_with fail
        refine cn.mono ?_; rintro e w3 ⟨rfl, rfl⟩
        go_wp2_with fail
        go_ret
        exact ⟨none, cap, by rw [Hl0.out]; rfl, by rw [Hl0.out]; have := hown2.mono hszb; simpa [psort] using this, hb02⟩
      · have cc := compact_pairs w2 w1.heap.size q k cap (psort S) hown2 (by omega) (psort_le S)
        go_wp2_with fail
        refine cc.mono ?_; rintro e w3 ⟨rfl, hown3, hk3⟩
        have hb3 := hb02.trans (hk3.below (B := w.heap.size) hb02.size (by have := (hown2.at_base (x := q) (by simp [blk])).1; simp; omega))
        rw [← Hlist.out] at hown3 ⊢
        have Hown3 := Lib.hid (hown3.mono (B' := w.heap.size) hszb)
        clear cc hk3 hown2 hown hown3 hb02
        go_wp2_with fail
        go_ret
        exact ⟨_, cap, rfl, Hown3.out, hb3⟩

end Go.Proofs.YtgfpjjppeldhbaaGreatDoor

/- Package seq: Order. -/
namespace Go.Proofs.YtgfpjjppeldhbaaGreatDoor
open Go.RowKit

theorem cell0_of (w : World) (g : Nat) (v : Value) (t : TypeId) (h : w.heap[g]? = some (.cells #[v] t (0, 0))) : w.cell? ⟨g, 0, none⟩ = some v := by rw [cell_of_row w g 0 _ _ _ h]; rfl
theorem frozen_of (w : World) (g j : Nat) (cs : Array Value) (t : TypeId) (h : w.heap[g]? = some (.cells cs t (0, 0))) : w.frozen? ⟨g, j, none⟩ = false := by simp [World.frozen?, h]
/-- The state of the walk down: what was there stays; what is out lies behind 'go'. -/
structure DownAt (w0 : World) (gs go gd B : Nat) (g : Nat) (w : World) (P : List NodeV) (A : Option Addr) (cap : Nat) : Prop where
  bel : Below w0.heap.size w0 w
  hgs : w.heap[gs]? = some (.cells #[.pointer (some ⟨g, 0, none⟩)] 106 (0, 0))
  hgo : w.heap[go]? = some (.cells #[.slice A P.length cap] 50 (0, 0))
  hgd : w.heap[gd]? = some (.cells #[.func (.func 204) #[] #[.pointer (some ⟨gs, 0, none⟩), .pointer (some ⟨go, 0, none⟩), .pointer (some ⟨gd, 0, none⟩)]] 214 (0, 0))
  own : Own w B 39 32 A P.length cap ((P.map NodeV.id).map idC)
  B : B ≤ w.heap.size

set_option maxRecDepth 100000 in
set_option maxHeartbeats 4000000 in
theorem sqdown (w0 : World) (M : List Nat) (g bn bb bg : Nat) (N : List NodeV) (G : List Id32) (h : SeqAt w0 M g bn bb bg N G) (hN : N.length ≤ 100000) (gs go gd B : Nat) (h1 : w0.heap.size ≤ gs) (h2 : w0.heap.size ≤ go) (h3 : w0.heap.size ≤ gd) (n1 : gs ≠ go) (n2 : gd ≠ go) (b1 : gs < B) (b2 : go < B) (b3 : gd < B) :
    ∀ (k : Nat) (r : Id32) (P : List NodeV) (A : Option Addr) (cap : Nat) (w : World), Deep (kids N) NodeV.id k r → DownAt w0 gs go gd B g w P A cap → P.length + (preD (kids N) NodeV.id k r).length ≤ 1000000 →
    Calls Tryz.prog 204 #[.agg (idC r), .pointer (some ⟨gs, 0, none⟩), .pointer (some ⟨go, 0, none⟩), .pointer (some ⟨gd, 0, none⟩)] w fun e w' => e = .returned (.tuple #[]) ∧ ∃ A' cap', DownAt w0 gs go gd B g w' (P ++ preD (kids N) NodeV.id k r) A' cap' := by
  intro k
  induction k with
  | zero => intro r P A cap w hd; exact hd.elim
  | succ k ih =>
    intro r P A cap w hd hD hlen
    obtain ⟨BM, es', clk', hb, hsl, hno⟩ := h.behind
    obtain ⟨⟨As, sn, sc⟩, hsw, hsM, hlook⟩ := blook hb hsl hno r
    dsimp only at hsw hsM hlook
    have hdk : ∀ c ∈ kids N r, Deep (kids N) NodeV.id k c.id := hd
    have hpre : preD (kids N) NodeV.id (k + 1) r = (kids N r).flatMap fun c => c :: preD (kids N) NodeV.id k c.id := rfl
    have hkl := kids_length N r
    obtain ⟨K, hK⟩ : ∃ K, kids N r = K := ⟨_, rfl⟩
    rw [hK] at hsw hdk hpre hkl
    rw [hpre] at hlen ⊢
    have hlK : K.length = sn := by have := hsw.len; simpa using this
    have hsnb : sn ≤ 100000 := by omega
    have HlK := Lib.hid hlK
    have Hdk := Lib.hid hdk
    clear hd hdk hpre hK hlK hkl
    obtain ⟨f, hf⟩ : ∃ f : NodeV → List NodeV, (fun c => c :: preD (kids N) NodeV.id k c.id) = f := ⟨_, rfl⟩
    have hfc : ∀ c, f c = c :: preD (kids N) NodeV.id k c.id := fun c => by rw [← hf]
    rw [hf] at hlen ⊢
    have Hfc := Lib.hid hfc
    have Hlen := Lib.hid hlen
    clear hf hfc hlen
    have hBw : Below w.heap.size w (w.alloc (.cells (idC r) 39)) := (Below.refl _ _).alloc (Nat.le_refl _) _
    have hr0 : rowAt (w.alloc (.cells (idC r) 39)) w.heap.size 0 32 = some (idC r) := by simp [go_sem]
    have hD1 : DownAt w0 gs go gd B g (w.alloc (.cells (idC r) 39)) P A cap := by
      have hB := hD.B
      have hs := hBw.size
      exact ⟨bel2 hD.bel hBw, (hBw.block gs (by omega)).trans hD.hgs, (hBw.block go (by omega)).trans hD.hgo, (hBw.block gd (by omega)).trans hD.hgd, hD.own.below hBw, by omega⟩
    go_enter Tryz.func204, Tryz.ntmps204
    go_upto_region 1 with fail
    obtain ⟨W, hW⟩ : ∃ W, W = w.alloc (.cells (idC r) 39) := ⟨_, rfl⟩
    obtain ⟨ga, hga⟩ : ∃ ga, w.heap.size = ga := ⟨_, rfl⟩
    rw [hga] at hr0 ⊢
    rw [← hW] at hD1 hr0 ⊢
    clear hW hga hD hBw
    have hcs : W.cell? ⟨gs, 0, none⟩ = some (.pointer (some ⟨g, 0, none⟩)) := by rw [cell_of_row W gs 0 _ _ _ hD1.hgs]; rfl
    have hc1 : W.cell? ⟨g, 1, none⟩ = some (.map (some bb)) := (hD1.bel.cell (p := ⟨g, 1, none⟩) h.ltg).trans h.cell1
    have hk : ∀ x : Subtype (Bel W), (Instr.lookup 189 (.map (some bb)) (.agg (idC r)) false).run Tryz.prog x.1 = .ok (.slice As sn sc) x.1 := fun x => hlook x.1 ((hb.kept (Keep.of_below hD1.bel) (by simp)).kept (Keep.of_below x.2) (by simp))
    refine wp_region_lex (Bel W) false (by kernel_rfl) (by kernel_rfl) (by kernel_rfl) (bel_drew W) ?_
    have hne := bel_some W
    have hS := bel_drew W
    have b1 := sub_cell hcs; have b2 := sub_cell hc1; have b3 := sub_row hr0
    repeat (refine wpLx_loose ?_ ?_; (focus (simp only [chainOp]; done)); intro K hK; go_simp; refine hK _ ?_; clear hK K)
    refine wpLx_nil ?_
    intro hS
    have hD2 : DownAt w0 gs go gd B g W.drew P A cap := ⟨hD1.bel.drew, hD1.hgs, hD1.hgo, hD1.hgd, hD1.own.kept (Keep.drew W) (by simp), hD1.B⟩
    clear b1 b2 b3 hne hS hk hcs hc1 hr0 hD1 hlook hb hsl hno
    obtain ⟨W1, hW1⟩ : ∃ W1, W.drew = W1 := ⟨_, rfl⟩
    rw [hW1] at hD2 ⊢
    clear hW1 hS
    go_wp2_with fail
    go_loopw [14] (fun iv wr => ∃ (i : Nat) (A' : Option Addr) (cap' : Nat), i ≤ sn ∧ iv = .int .i64 i ∧ DownAt w0 gs go gd B g wr (P ++ (K.take i).flatMap f) A' cap') (fun iv _ => sn - (intOf iv).toNat)
    case atStart => exact ⟨0, A, cap, Nat.zero_le _, rfl, by simpa using hD2⟩
    case round =>
      obtain ⟨i, A', cap', hi, rfl, hDr⟩ := hrel
      by_cases hlt : i < sn
      · obtain ⟨q, o, rfl, hrO⟩ := (hsw.below hDr.bel).rd.at_ hlt
        rw [List.getElem_map, List.getElem_map] at hrO
        have hmem : K[i]'(by rw [HlK.out]; exact hlt) ∈ K := List.getElem_mem _
        have hspl : K.flatMap f = (K.take i).flatMap f ++ f (K[i]'(by rw [HlK.out]; exact hlt)) ++ (K.drop (i + 1)).flatMap f := by
          rw [List.append_assoc, ← List.flatMap_cons, ← List.drop_eq_getElem_cons (show i < K.length by rw [HlK.out]; exact hlt), ← List.flatMap_append, List.take_append_drop]
        have htk : (K.take (i + 1)).flatMap f = (K.take i).flatMap f ++ f (K[i]'(by rw [HlK.out]; exact hlt)) := by
          rw [List.take_add_one, List.getElem?_eq_getElem (by rw [HlK.out]; exact hlt), Option.toList_some, List.flatMap_append]; simp
        obtain ⟨c, hc⟩ : ∃ c, K[i]'(by rw [HlK.out]; exact hlt) = c := ⟨_, rfl⟩
        rw [hc] at hrO hmem hspl htk
        have hdc := Hdk.out c hmem
        have hl2 : (P ++ (K.take i).flatMap f).length + 1 + (preD (kids N) NodeV.id k c.id).length ≤ 1000000 := by
          have := Hlen.out
          rw [hspl, Hfc.out c] at this
          simp only [List.length_append, List.length_cons] at this ⊢
          omega
        obtain ⟨Q, hQ⟩ : ∃ Q, P ++ (K.take i).flatMap f = Q := ⟨_, rfl⟩
        have hQn : P ++ (K.take (i + 1)).flatMap f = Q ++ [c] ++ preD (kids N) NodeV.id k c.id := by rw [htk, Hfc.out c, ← hQ]; simp
        rw [hQ] at hDr hl2
        have HQn := Lib.hid hQn
        have Hl2 := Lib.hid hl2
        have hlq : Q.length + 1 ≤ 1000000 := by omega
        clear hc hspl htk hQ hQn hmem hl2
        have hBr := hDr.B
        have hby : Below wr.heap.size wr ((wr.alloc (.cells (idC c.id) 39)).alloc (.cells (idC c.id) 39)) := ((Below.refl _ _).alloc (Nat.le_refl _) _).alloc (by simp) _
        have hby1 : Below wr.heap.size wr (wr.alloc (.cells (idC c.id) 39)) := (Below.refl _ _).alloc (Nat.le_refl _) _
        have hcg1 : (wr.alloc (.cells (idC c.id) 39)).cell? ⟨go, 0, none⟩ = some (.slice A' Q.length cap') := (hby1.cell (p := ⟨go, 0, none⟩) (show go < wr.heap.size by omega)).trans (by rw [cell_of_row wr go 0 _ _ _ hDr.hgo]; rfl)
        have hown2 := hDr.own.below hby
        have hrow2 : rowAt ((wr.alloc (.cells (idC c.id) 39)).alloc (.cells (idC c.id) 39)) (wr.heap.size + 1) 0 32 = some (idC c.id) := by simp [go_sem]
        have hgo2 := (hby.block go (by omega)).trans hDr.hgo
        have hgoB : go < ((wr.alloc (.cells (idC c.id) 39)).alloc (.cells (idC c.id) 39)).heap.size := by have := hby.size; omega
        have hBB : B ≤ ((wr.alloc (.cells (idC c.id) 39)).alloc (.cells (idC c.id) 39)).heap.size := by have := hby.size; omega
        have hgoA : go ∉ blk A' := fun hx => by have := (hDr.own.at_base hx).1; omega
        go_upto_region 5 with (at_builtin; refine L_append einfoId rfl hown2 rfl hrow2 (idC_one _) (by omega) (by omega) hBB ?_; intro A2 cap2 w2 hownA hkA hsubA; have hgo3 := (hkA.block go hgoB hgoA).trans hgo2; have hcg3 := cell0_of w2 go _ _ hgo3; have hf3 := frozen_of w2 go 0 _ _ hgo3)
        have hb0w : w0.heap.size ≤ wr.heap.size := hDr.bel.size
        have hbz2 : Below w0.heap.size w0 w2 := (bel2 hDr.bel hby).trans (hkA.below (B := w0.heap.size) (by have := hby.size; omega) (fun x hx => by have := (hDr.own.at_base hx).1; omega))
        have hks := Keep.setCell w2 ⟨go, 0, none⟩ (.slice A2 (Q.length + 1) cap2)
        have hbz3 : Below w0.heap.size w0 (w2.setCell ⟨go, 0, none⟩ (.slice A2 (Q.length + 1) cap2)) := hbz2.trans (hks.below (B := w0.heap.size) hbz2.size (by simpa using h2))
        have hsz2 : wr.heap.size + 2 ≤ w2.heap.size := by have := hkA.size; simpa using this
        have hgs3 := (hks.block gs (by omega) (by simpa using n1)).trans ((hkA.block gs (by have := hby.size; omega) (fun hx => by have := (hDr.own.at_base hx).1; omega)).trans ((hby.block gs (by omega)).trans hDr.hgs))
        have hgd3 := (hks.block gd (by omega) (by simpa using n2)).trans ((hkA.block gd (by have := hby.size; omega) (fun hx => by have := (hDr.own.at_base hx).1; omega)).trans ((hby.block gd (by omega)).trans hDr.hgd))
        have hgo4 : (w2.setCell ⟨go, 0, none⟩ (.slice A2 (Q.length + 1) cap2)).heap[go]? = some (.cells #[.slice A2 (Q.length + 1) cap2] 50 (0, 0)) := by rw [heap_setCell_same hgo3]; rfl
        have hown4 := hownA.kept hks (fun x hx hm => by
          have e : x = go := by simpa using hm
          have := (hownA.at_base hx).1
          omega)
        have hl1 : (Q ++ [c]).length = Q.length + 1 := by simp
        have hD4 : DownAt w0 gs go gd B g (w2.setCell ⟨go, 0, none⟩ (.slice A2 (Q.length + 1) cap2)) (Q ++ [c]) A2 cap2 :=
          ⟨hbz3, hgs3, by rw [hl1]; exact hgo4, hgd3, by rw [hl1]; simpa using hown4, by have := hks.size; omega⟩
        have hrb : rowAt (w2.setCell ⟨go, 0, none⟩ (.slice A2 (Q.length + 1) cap2)) wr.heap.size 0 32 = some (idC c.id) := (hks.row (by omega) (by simp; omega) _ _).trans ((hkA.row (by simp; omega) (fun hx => by have := (hDr.own.at_base hx).2; omega) _ _).trans (by simp [go_sem]))
        have cih := ih c.id (Q ++ [c]) A2 cap2 _ hdc hD4 (by rw [hl1]; exact Hl2.out)
        have hcd := cell0_of _ gd _ _ hgd3
        have HbA : Hid (B ≤ wr.heap.size) := hBr
        clear hbz2 hbz3 hks hgs3 hgd3 hgo4 hown4 hl1 hD4 hgo3 hcg3 hf3 hownA hkA hsubA hown2 hrow2 hgo2 hgoA hgoB hBB hby hby1 hcg1 hrO hDr hBr
        obtain ⟨w5, hw5⟩ : ∃ w5, w2.setCell ⟨go, 0, none⟩ (.slice A2 (Q.length + 1) cap2) = w5 := ⟨_, rfl⟩
        rw [hw5] at hrb cih hcd ⊢
        clear hw5
        go_wp2_with fail
        refine cih.mono ?_; rintro e w6 ⟨rfl, A6, cap6, hD6⟩
        have hD7 : DownAt w0 gs go gd B g w6 (P ++ (K.take (i + 1)).flatMap f) A6 cap6 := by rw [HQn.out]; exact hD6
        have HD7 := Lib.hid hD7
        clear hD6 hD7 cih hrb hcd
        go_wp2_with fail
        go_roundw
        case rel => exact ⟨i + 1, A6, cap6, by omega, by go_num, HD7.out⟩
        case measure => simp [intOf]; omega
      · have e : i = sn := by omega
        subst e
        rw [List.take_of_length_le (by rw [HlK.out]; exact Nat.le_refl _)] at hDr
        go_wp2_with fail
        go_end0
        exact ⟨rfl, A', cap', hDr⟩

set_option maxRecDepth 100000 in
set_option maxHeartbeats 2000000 in
theorem sqorder (w : World) (M : List Nat) (g bn bb bg : Nat) (N : List NodeV) (G : List Id32) (h : SeqAt w M g bn bb bg N G) (hl : N.length ≤ 100000) :
    Calls Tryz.prog 132 #[.pointer (some ⟨g, 0, none⟩)] w fun e w' => ∃ A cap, e = .returned (.slice A (orderN N).length cap) ∧ Own w' w.heap.size 39 32 A (orderN N).length cap (((orderN N).map NodeV.id).map idC) ∧ Below w.heap.size w w' := by
  have hf : Forest N := ⟨h.one, fun a ha => (nodeE_id (h.ok a ha)).1⟩
  have hb0 : Below w.heap.size w (w.alloc (.cells #[.pointer (some ⟨g, 0, none⟩)] 106)) := (Below.refl _ _).alloc (Nat.le_refl _) _
  have h0 := h.below hb0
  have hsf := fun (a : Addr) (c : Array Value) (w : World) => run_store Tryz.prog w a (.func (.func 204) #[] c) .plain rfl
  have hB3 : Below w.heap.size w (((w.alloc (.cells #[.pointer (some ⟨g, 0, none⟩)] 106)).alloc (.cells #[.slice none 0 0] 50)).alloc (.cells #[.func (.func 204) #[] #[.pointer (some ⟨w.heap.size, 0, none⟩), .pointer (some ⟨w.heap.size + 1, 0, none⟩), .pointer (some ⟨w.heap.size + 1 + 1, 0, none⟩)]] 214)) := (((Below.refl _ _).alloc (Nat.le_refl _) _).alloc (by simp) _).alloc (by simp; omega) _
  have hD : DownAt w w.heap.size (w.heap.size + 1) (w.heap.size + 1 + 1) (w.heap.size + 3) g (((w.alloc (.cells #[.pointer (some ⟨g, 0, none⟩)] 106)).alloc (.cells #[.slice none 0 0] 50)).alloc (.cells #[.func (.func 204) #[] #[.pointer (some ⟨w.heap.size, 0, none⟩), .pointer (some ⟨w.heap.size + 1, 0, none⟩), .pointer (some ⟨w.heap.size + 1 + 1, 0, none⟩)]] 214)) [] none 0 := by
    refine ⟨hB3, ?_, ?_, ?_, Own.nil _ _ _ _, by simp⟩
    · exact ((Keep.alloc _ _).block _ (by simp; omega) (by simp)).trans (((Keep.alloc _ _).block _ (by simp) (by simp)).trans (heap_alloc_new w _))
    · have e := heap_alloc_new (w.alloc (.cells #[.pointer (some ⟨g, 0, none⟩)] 106 (0, 0))) (.cells #[.slice none 0 0] 50 (0, 0))
      have e1 : (w.alloc (.cells #[.pointer (some ⟨g, 0, none⟩)] 106 (0, 0))).heap.size = w.heap.size + 1 := by simp
      rw [e1] at e
      exact ((Keep.alloc _ _).block _ (by simp) (by simp)).trans e
    · have e := heap_alloc_new ((w.alloc (.cells #[.pointer (some ⟨g, 0, none⟩)] 106 (0, 0))).alloc (.cells #[.slice none 0 0] 50 (0, 0))) (.cells #[.func (.func 204) #[] #[.pointer (some ⟨w.heap.size, 0, none⟩), .pointer (some ⟨w.heap.size + 1, 0, none⟩), .pointer (some ⟨w.heap.size + 1 + 1, 0, none⟩)]] 214 (0, 0))
      have e1 : ((w.alloc (.cells #[.pointer (some ⟨g, 0, none⟩)] 106 (0, 0))).alloc (.cells #[.slice none 0 0] 50 (0, 0))).heap.size = w.heap.size + 1 + 1 := by simp
      rw [e1] at e
      exact e
  have hlo := orderN_length hf
  have cd := sqdown w M g bn bb bg N G h hl w.heap.size (w.heap.size + 1) (w.heap.size + 1 + 1) (w.heap.size + 3) (Nat.le_refl _) (by omega) (by omega) (by omega) (by omega) (by omega) (by omega) (by omega) (N.length + 1) id0 [] none 0 _ hf.deep hD (by show 0 + (orderN N).length ≤ _; omega)
  have e0 : preD (kids N) NodeV.id (N.length + 1) id0 = orderN N := rfl
  rw [e0] at cd
  simp only [List.nil_append] at cd
  obtain ⟨P, hP⟩ : ∃ P, orderN N = P := ⟨_, rfl⟩
  rw [hP] at cd ⊢
  clear hP hlo hf hD hB3 e0
  go_enter Tryz.func132, Tryz.ntmps132
  go_wp2_with fail
  refine (sqnone_live _ g bn h0.cell0).mono ?_; rintro e w1 ⟨rfl, rfl⟩
  clear h0 hb0
  go_wp2_with fail
  refine cd.mono ?_; rintro e w2 ⟨rfl, A2, cap2, hD2⟩
  have hc2 := cell0_of _ _ _ _ hD2.hgo
  have hown := hD2.own.mono (B' := w.heap.size) (by omega)
  have hbel := hD2.bel
  clear cd hD2 hsf
  go_wp2_with fail
  go_ret
  exact ⟨A2, cap2, rfl, hown, hbel⟩

/-- The pairs that a list shows. -/
def listS (N : List NodeV) (G : List Id32) : List Pair := (seen N G).map fun v => ⟨⟨#[]⟩, v⟩
theorem listS_len {N : List NodeV} {G : List Id32} (hf : Forest N) : (listS N G).length ≤ N.length := by
  unfold listS seen
  rw [List.length_map, List.length_map]
  exact Nat.le_trans (List.length_filter_le _ _) (orderN_length hf)

end Go.Proofs.YtgfpjjppeldhbaaGreatDoor

/- Package seq: List. -/
namespace Go.Proofs.YtgfpjjppeldhbaaGreatDoor
open Go.RowKit

@[go_sem] theorem buildPair_v (v : ByteArray) (w : World) : (bdS 98 #[(1, .string v)]).run Tryz.prog w = .ok (.agg (pairC ⟨⟨#[]⟩, v⟩)) w := by kernel_rfl
def pS (T : List NodeV) (G : List Id32) : List Pair := ((T.filter fun n => decide (n.id ∉ G)).map NodeV.val).map fun v => ⟨⟨#[]⟩, v⟩
theorem pS_snoc (T : List NodeV) (G : List Id32) (c : NodeV) : pS (T ++ [c]) G = if c.id ∈ G then pS T G else pS T G ++ [⟨⟨#[]⟩, c.val⟩] := by
  unfold pS
  rw [List.filter_append]
  by_cases e : c.id ∈ G <;> simp [e]
theorem pS_len (T : List NodeV) (G : List Id32) : (pS T G).length ≤ T.length := by
  unfold pS; rw [List.length_map, List.length_map]; exact List.length_filter_le _ _

set_option maxRecDepth 100000 in
set_option maxHeartbeats 4000000 in
theorem sqlist (w : World) (M : List Nat) (g bn bb bg : Nat) (N : List NodeV) (G : List Id32) (h : SeqAt w M g bn bb bg N G) (hl : N.length ≤ 100000) :
    Calls Tryz.prog 61 #[.pointer (some ⟨g, 0, none⟩)] w fun e w' => ∃ A cap, e = .returned (.slice A (listS N G).length cap) ∧ Own w' w.heap.size 98 2 A (listS N G).length cap ((listS N G).map pairC) ∧ Below w.heap.size w w' := by
  have hf : Forest N := ⟨h.one, fun a ha => (nodeE_id (h.ok a ha)).1⟩
  have c1 := sqorder w M g bn bb bg N G h hl
  have hN := (orderN_nodup hf).2
  have hlo := orderN_length hf
  have hls : listS N G = pS (orderN N) G := rfl
  rw [hls]
  obtain ⟨L, hL⟩ : ∃ L, orderN N = L := ⟨_, rfl⟩
  rw [hL] at c1 hN hlo ⊢
  clear hL hls hf
  go_enter Tryz.func61, Tryz.ntmps61
  go_wp2_with fail
  refine c1.mono ?_; rintro e w1 ⟨RA, rc, rfl, hrow, hb⟩
  have hsl := hrow.slr
  have haddr := hrow.addr
  clear hrow c1
  go_wp2_with fail
  go_loopw [3, 9] (fun out i wr => ∃ (k : Nat) (A : Option Addr) (cap : Nat), k ≤ L.length ∧ i = .int .i64 k ∧ out = .slice A (pS (L.take k) G).length cap ∧ Own wr w1.heap.size 98 2 A (pS (L.take k) G).length cap ((pS (L.take k) G).map pairC) ∧ Below w1.heap.size w1 wr) (fun _ i _ => L.length - (intOf i).toNat)
  case atStart => exact ⟨0, none, 0, Nat.zero_le _, rfl, rfl, Own.nil _ _ _ _, Below.refl _ _⟩
  case round =>
    obtain ⟨k, A, cap, hk, rfl, rfl, hown, hbr⟩ := hrel
    by_cases hlt : k < L.length
    · obtain ⟨q, o, rfl, hr⟩ := (hsl.below hbr).at_ hlt
      obtain rfl : o = 0 := by
        rcases haddr with e | ⟨g', e⟩
        · cases e
        · injection e with e; injection e
      rw [Nat.zero_add, List.getElem_map, List.getElem_map] at hr
      have htk : pS (L.take (k + 1)) G = if (L[k]'hlt).id ∈ G then pS (L.take k) G else pS (L.take k) G ++ [⟨⟨#[]⟩, (L[k]'hlt).val⟩] := by
        rw [List.take_add_one, List.getElem?_eq_getElem hlt, Option.toList_some, pS_snoc]
      have hcN := hN _ (List.getElem_mem hlt)
      have hpl : (pS (L.take k) G).length + 1 ≤ 1000000 := by have := pS_len (L.take k) G; simp at this; omega
      obtain ⟨c, hc⟩ : ∃ c, L[k]'hlt = c := ⟨_, rfl⟩
      rw [hc] at hr htk hcN
      obtain ⟨T0, hT0⟩ : ∃ T0, pS (L.take k) G = T0 := ⟨_, rfl⟩
      rw [hT0] at htk hpl hown ⊢
      have Htk := Lib.hid htk
      clear hc hT0 htk
      have hszr := hbr.size
      have hbx : Below wr.heap.size wr (wr.alloc (.cells (idC c.id) 39)) := (Below.refl _ _).alloc (Nat.le_refl _) _
      have hbw : Below w.heap.size w (wr.alloc (.cells (idC c.id) 39)) := (bel2 hb hbr).trans (hbx.mono (by have := hb.size; omega))
      have hown1 := hown.below hbx
      have hb1r : Below w1.heap.size w1 (wr.alloc (.cells (idC c.id) 39)) := hbr.trans (hbx.mono hszr)
      have hrc : rowAt (wr.alloc (.cells (idC c.id) 39)) wr.heap.size 0 32 = some (idC c.id) := by simp [go_sem]
      have hs1 := h.below hbw
      go_upto_region 5 with fail
      obtain ⟨W, hW⟩ : ∃ W, wr.alloc (.cells (idC c.id) 39) = W := ⟨_, rfl⟩
      obtain ⟨gx, hgx⟩ : ∃ gx, wr.heap.size = gx := ⟨_, rfl⟩
      have hgxA : gx ∉ blk A := fun hx => by have := (hown.at_base hx).2; omega
      rw [hgx] at hrc ⊢
      rw [hW] at hown1 hb1r hrc hs1 ⊢
      have hc2 := hs1.cell2
      have hkk : ∀ y : Subtype (Bel W), (Instr.lookup 75 (.map (some bg)) (.agg (idC c.id)) false).run Tryz.prog y.1 = .ok (.bool (decide (c.id ∈ G))) y.1 := fun y => ilook (hs1.gone.below y.2)
      obtain ⟨rr, hrr⟩ : ∃ rr, decide (c.id ∈ G) = rr := ⟨_, rfl⟩
      rw [hrr] at hkk
      have Hrr := Lib.hid hrr
      clear hW hgx hrr hr hown hbr hbx hbw
      refine wp_region_lex (Bel W) false (by kernel_rfl) (by kernel_rfl) (by kernel_rfl) (bel_drew W) ?_
      have hne := bel_some W
      have hS := bel_drew W
      have b1 := sub_cell hc2; have b2 := sub_row hrc
      repeat (refine wpLx_loose ?_ ?_; (focus (simp only [chainOp]; done)); intro K hK; go_simp; refine hK _ ?_; clear hK K)
      refine wpLx_nil ?_
      intro hS
      have hs2 := hs1.below (bel_drew W)
      have hown2 := hown1.kept (Keep.drew W) (by simp)
      have hb2r : Below w1.heap.size w1 W.drew := hb1r.drew
      have hrc2 : rowAt W.drew gx 0 32 = some (idC c.id) := hrc
      clear b1 b2 hne hS hkk hc2 hrc hs1 hown1 hb1r
      obtain ⟨V, hV⟩ : ∃ V, W.drew = V := ⟨_, rfl⟩
      rw [hV] at hs2 hown2 hb2r hrc2 ⊢
      clear hV
      cases rr with
      | true =>
        have e5 := Htk.out
        rw [if_pos (of_decide_eq_true Hrr.out)] at e5
        have E5 := Lib.hid e5
        clear e5
        go_wp2_with fail
        go_roundw
        case rel => exact ⟨k + 1, A, cap, by omega, by go_num, by rw [E5.out], by rw [E5.out]; exact hown2, hb2r⟩
        case measure => simp [intOf]; omega
      | false =>
        have e5 := Htk.out
        rw [if_neg (of_decide_eq_false Hrr.out)] at e5
        have E5 := Lib.hid e5
        clear e5
        have hc0 := hs2.cell0
        obtain ⟨es, clk, hn⟩ := hs2.nodes
        have hgA : g ∉ blk A := fun hx => by have := (hown2.at_base hx).1; have := h.ltg; have := hb.size; omega
        have hbnA : bn ∉ blk A := fun hx => by have := (hown2.at_base hx).1; have := h.lt.1; have := hb.size; omega
        have hkn : ∀ y : Subtype (Kp (blk A) V), (Instr.lookup 188 (.map (some bn)) (.agg (idC c.id)) false).run Tryz.prog y.1 = .ok (.agg (sNodeC ⟨c.h, c.ref, c.val⟩)) y.1 := fun y => nlook (hn.kept y.2 hbnA) hcN false
        go_upto_region 6 with fail
        refine wp_region_lex (Kp (blk A) V) false (by kernel_rfl) (by kernel_rfl) (by kernel_rfl) (kp_drew (blk A) V) ?_
        have hne := kp_some (blk A) V
        have hS := kp_drew (blk A) V
        have b1 := ksub_cell hc0 hgA
        have b2 := ksub_row hrc2 (S := blk A) hgxA
        repeat (refine wpLx_loose ?_ ?_; (focus (simp only [chainOp]; done)); intro K hK; go_simp; refine hK _ ?_; clear hK K)
        refine wpLx_chain ?_ ?_ ?_
        focus (exact hS)
        focus (simp only [chainOp]; done)
        intro K hK
        go_simp
        refine step_keep (Keep.trans (Keep.trans (Keep.refl (blk A) V) (Keep.drew _) (by simp)) (Keep.alloc _ _) (by simp)) (fun hS2 => ?_)
        refine hK _ _ ?_
        clear hK K
        have hk0 : Keep [] V (V.drew.alloc (.cells (pairC ⟨⟨#[]⟩, c.val⟩) 98)) := Keep.trans (Keep.drew V) (Keep.alloc _ _) (by simp)
        have hownr := hown2.kept hk0 (by simp)
        have hrow2 : rowAt (V.drew.alloc (.cells (pairC ⟨⟨#[]⟩, c.val⟩) 98)) V.heap.size 0 2 = some (pairC ⟨⟨#[]⟩, c.val⟩) := by simp [go_sem]
        have hszV := hb2r.size
        refine Lx_append einfoPair rfl hownr rfl hrow2 (pairC_one _) (by omega) (by omega) (by simp; omega) ?_
        intro A3 cap3 w3 hown3 hk3 hsub3
        refine step_keep (Keep.trans (hk0.mono (S' := blk A) (by simp)) hk3 (fun x hx => .inl hx)) (fun hS3 => ?_)
        repeat (refine wpLx_loose ?_ ?_; (focus (simp only [chainOp]; done)); intro K hK; go_simp; refine hK _ ?_; clear hK K)
        refine wpLx_nil ?_
        intro hS
        have hb3 : Below w1.heap.size w1 w3 := hb2r.trans ((Keep.trans (hk0.mono (S' := blk A) (by simp)) hk3 (fun x hx => .inl hx)).below hszV (fun x hx => (hown2.at_base hx).1))
        clear hne hS hS2 hS3 b1 b2 hkn
        go_wp2_with fail
        go_roundw
        case rel => exact ⟨k + 1, A3, cap3, by omega, by go_num, by rw [E5.out]; simp, by rw [E5.out]; simpa using hown3, hb3⟩
        case measure => simp [intOf]; omega
    · have e : L.take k = L := List.take_of_length_le (by omega)
      rw [e] at hown ⊢
      have Hown := Lib.hid (hown.mono (B' := w.heap.size) hb.size)
      have Hb := Lib.hid (bel2 hb hbr)
      clear hown e
      go_wp2_with fail
      go_ret
      exact ⟨A, cap, rfl, Hown.out, Hb.out⟩

end Go.Proofs.YtgfpjjppeldhbaaGreatDoor

/- Package view: the state of any kind, what an operation does to it. -/
namespace Go.Proofs.YtgfpjjppeldhbaaGreatDoor
open Go.RowKit

/-- A view's state: of each kind. -/
inductive VSt where
  | t (n : Int)
  | b (L G : List BRow)
  | l (L : List LRow)
  | m (X : List MRow) (O : List Id32)
  | s (N : List NodeV) (G : List Id32)
/-- It lies in blocks O, of which those of M may turn. -/
def StAt (w : World) (O M : List Nat) (v : Value) : VSt → Prop
  | .t n => ∃ g, v = .iface 100 (.pointer (some ⟨g, 0, none⟩)) ∧ TallyAt w g n ∧ O = [g]
  | .b L G => ∃ g bl bg, v = .iface 102 (.pointer (some ⟨g, 0, none⟩)) ∧ BagAt w g bl bg L G ∧ O = [g, bl, bg]
  | .l L => ∃ g b, v = .iface 104 (.pointer (some ⟨g, 0, none⟩)) ∧ LastAt w g b L ∧ O = [g, b]
  | .m X Ov => ∃ g bl bo, v = .iface 105 (.pointer (some ⟨g, 0, none⟩)) ∧ MultiAt w g bl bo X Ov ∧ O = [g, bl, bo]
  | .s N G => ∃ g bn bb bg, v = .iface 106 (.pointer (some ⟨g, 0, none⟩)) ∧ SeqAt w M g bn bb bg N G ∧ O = [g, bn, bb, bg]
def VSt.kind : VSt → Int
  | .t _ => 1
  | .b .. => 2
  | .l _ => 3
  | .m .. => 4
  | .s .. => 5
def VSt.len : VSt → Nat
  | .t _ => 0
  | .b L _ => L.length
  | .l L => L.length
  | .m X _ => X.length
  | .s N _ => N.length
/-- What a mark's operation does. -/
def doS (m : MarkV) (o : OpV) : VSt → VSt
  | .t n => .t (wrap64 (n + o.n))
  | .b L G => if o.k = 2 then .b (addB L G ⟨m.id, o.val⟩) G else .b (remL L o.val o.refs) (remG G o.val o.refs)
  | .l L => .l (setL L o.key ⟨o.val, o.n, m.id⟩)
  | .m X Ov => .m (setX X Ov ⟨m.id, o.key, o.val⟩ o.refs) (putO Ov o.refs)
  | .s N G => if o.k = 6 then .s (addN N ⟨m.id, m.h, o.ref, o.val⟩) G else .s N (insC cmpId G o.ref)
theorem doS_b2 (m : MarkV) (o : OpV) (L G : List BRow) (h : o.k = 2) : doS m o (.b L G) = .b (addB L G ⟨m.id, o.val⟩) G := if_pos h
theorem doS_b3 (m : MarkV) (o : OpV) (L G : List BRow) (h : ¬ o.k = 2) : doS m o (.b L G) = .b (remL L o.val o.refs) (remG G o.val o.refs) := if_neg h
theorem doS_s6 (m : MarkV) (o : OpV) (N : List NodeV) (G : List Id32) (h : o.k = 6) : doS m o (.s N G) = .s (addN N ⟨m.id, m.h, o.ref, o.val⟩) G := if_pos h
theorem doS_s7 (m : MarkV) (o : OpV) (N : List NodeV) (G : List Id32) (h : ¬ o.k = 6) : doS m o (.s N G) = .s N (insC cmpId G o.ref) := if_neg h
theorem doS_kind (m : MarkV) (o : OpV) (s : VSt) : (doS m o s).kind = s.kind := by
  cases s <;> simp only [doS] <;> (try split) <;> rfl
theorem remL_len (v : ByteArray) : ∀ (T : List Id32) (L : List BRow), (remL L v T).length ≤ L.length
  | [], L => Nat.le_refl _
  | t :: T, L => Nat.le_trans (remL_len v T _) (List.length_filter_le _ _)
theorem doS_len (m : MarkV) (o : OpV) (s : VSt) : (doS m o s).len ≤ s.len + 1 := by
  cases s with
  | t n => exact Nat.zero_le _
  | b L G =>
    by_cases h : o.k = 2
    · rw [doS_b2 m o L G h]
      show (addB L G ⟨m.id, o.val⟩).length ≤ L.length + 1
      unfold addB
      have := insC_length (c := cmpRow) L ⟨m.id, o.val⟩
      repeat' split
      all_goals omega
    · rw [doS_b3 m o L G h]
      show (remL L o.val o.refs).length ≤ L.length + 1
      have := remL_len o.val o.refs L; omega
  | l L => exact setL_length _ _ _
  | m X Ov =>
    show (setX X Ov ⟨m.id, o.key, o.val⟩ o.refs).length ≤ X.length + 1
    unfold setX livR
    exact Nat.le_trans (List.length_filter_le _ _) (insC_length (c := cmpMR) X _)
  | s N G =>
    by_cases h : o.k = 6
    · rw [doS_s6 m o N G h]
      show (addN N ⟨m.id, m.h, o.ref, o.val⟩).length ≤ N.length + 1
      unfold addN; repeat' split
      all_goals simp
    · rw [doS_s7 m o N G h]; exact Nat.le_succ N.length
theorem StAt.kept {w w' : World} {O M S : List Nat} {v : Value} {s : VSt} (h : StAt w O M v s) (k : Keep S w w') (hO : ∀ x ∈ O, x ∉ S) (hS : ∀ x ∈ S, x ∈ M ∨ w.heap.size ≤ x) : StAt w' O M v s := by
  cases s with
  | t n => obtain ⟨g, e, h1, rfl⟩ := h; exact ⟨g, e, h1.kept k (hO g (by simp)), rfl⟩
  | b L G => obtain ⟨g, bl, bg, e, h1, rfl⟩ := h; exact ⟨g, bl, bg, e, h1.kept k (hO g (by simp)) (hO bl (by simp)) (hO bg (by simp)), rfl⟩
  | l L => obtain ⟨g, b, e, h1, rfl⟩ := h; exact ⟨g, b, e, h1.kept k (hO g (by simp)) (hO b (by simp)), rfl⟩
  | m X Ov => obtain ⟨g, bl, bo, e, h1, rfl⟩ := h; exact ⟨g, bl, bo, e, h1.kept k (hO g (by simp)) (hO bl (by simp)) (hO bo (by simp)), rfl⟩
  | s N G => obtain ⟨g, bn, bb, bg, e, h1, rfl⟩ := h; exact ⟨g, bn, bb, bg, e, h1.kept k hS (hO g (by simp)) (hO bn (by simp)) (hO bb (by simp)) (hO bg (by simp)), rfl⟩
theorem StAt.below {w w' : World} {O M : List Nat} {v : Value} {s : VSt} (h : StAt w O M v s) (k : Below w.heap.size w w') : StAt w' O M v s := h.kept (Keep.of_below k) (by simp) (by simp)

/-- An operation that fits a topic's kind. -/
structure OpFit (s : VSt) (o : OpV) : Prop where
  kind : belongs o.k = s.kind
  key : o.key.size ≤ 16
  val : o.val.size ≤ 16
  refs : o.refs.length ≤ 8
  lo : -2147483648 ≤ o.n
  hi : o.n < 2147483648

theorem vdoes (m : MarkV) (o : OpV) (A : Option Addr) (c : Nat) (w : World) (g : Nat) (t : ByteArray) (b : Nat) (I : List Id32) (v : Value) (O M : List Nat) (s : VSt) (h : ViewAt w g t b I v) (hs : StAt w O M v s) (hM : ∀ x ∈ M, x < w.heap.size) (ho : OpFit s o) (hA : TagsIn w A o.refs.length o.refs) (hl : s.len ≤ 1000) :
    Calls Tryz.prog 64 #[.pointer (some ⟨g, 0, none⟩), .agg (markVC m), .agg (opC o A c)] w fun e w' => e = .returned (.tuple #[]) ∧ StAt w' O M v (doS m o s) ∧ Keep O w w' := by
  cases s with
  | t n =>
    obtain ⟨gt, rfl, h1, rfl⟩ := hs
    refine (vdoes_t m o A c w g gt t b I n h h1 ho.lo ho.hi).mono ?_
    rintro e w' ⟨rfl, h2, hk⟩
    exact ⟨rfl, ⟨gt, rfl, h2, rfl⟩, hk⟩
  | b L G =>
    obtain ⟨gt, bl, bg, rfl, h1, rfl⟩ := hs
    by_cases h2 : o.k = 2
    · refine (vdoes_b2 m o A c w g gt bl bg t b I L G h h1 h2 ho.val).mono ?_
      rintro e w' ⟨rfl, h3, hk⟩
      refine ⟨rfl, ?_, hk.mono (by simp)⟩
      rw [doS_b2 m o L G h2]
      exact ⟨gt, bl, bg, rfl, h3, rfl⟩
    · refine (vdoes_b3 m o A c w g gt bl bg t b I L G h h1 (by simpa using h2) ho.val hA ho.refs).mono ?_
      rintro e w' ⟨rfl, h3, hk⟩
      refine ⟨rfl, ?_, hk.mono (by intro x hx; simp at hx ⊢; omega)⟩
      rw [doS_b3 m o L G h2]
      exact ⟨gt, bl, bg, rfl, h3, rfl⟩
  | l L =>
    obtain ⟨gt, bl, rfl, h1, rfl⟩ := hs
    refine (vdoes_l m o A c w g gt bl t b I L h h1 ho.key ho.val).mono ?_
    rintro e w' ⟨rfl, h3, hk⟩
    exact ⟨rfl, ⟨gt, bl, rfl, h3, rfl⟩, hk.mono (by simp)⟩
  | m X Ov =>
    obtain ⟨gt, bl, bo, rfl, h1, rfl⟩ := hs
    refine (vdoes_m m o A c w g gt bl bo t b I X Ov h h1 ho.key ho.val hA ho.refs (by have : X.length ≤ 1000 := hl; omega)).mono ?_
    rintro e w' ⟨rfl, h3, hk⟩
    exact ⟨rfl, ⟨gt, bl, bo, rfl, h3, rfl⟩, hk.mono (by intro x hx; simp at hx ⊢; omega)⟩
  | s N G =>
    obtain ⟨gt, bn, bb, bg, rfl, h1, rfl⟩ := hs
    by_cases h2 : o.k = 6
    · refine (vdoes_s6 m o A c w g gt bn bb bg t b I M N G h h1 hM h2 ho.val (by have : N.length ≤ 1000 := hl; omega)).mono ?_
      rintro e w' ⟨rfl, h3, hk⟩
      refine ⟨rfl, ?_, hk.mono (by intro x hx; simp at hx ⊢; omega)⟩
      rw [doS_s6 m o N G h2]
      exact ⟨gt, bn, bb, bg, rfl, h3, rfl⟩
    · refine (vdoes_s7 m o A c w g gt bn bb bg t b I M N G h h1 (by simpa using h2)).mono ?_
      rintro e w' ⟨rfl, h3, hk⟩
      refine ⟨rfl, ?_, hk.mono (by intro x hx; simp at hx ⊢; omega)⟩
      rw [doS_s7 m o N G h2]
      exact ⟨gt, bn, bb, bg, rfl, h3, rfl⟩

/-! ### Value -/
def VSt.num : VSt → Int
  | .t n => n
  | _ => 0
def VSt.pairs : VSt → List Pair
  | .t _ => []
  | .b L _ => (listB L).map pairV
  | .l L => L.map pairOf
  | .m X _ => listM X
  | .s N G => listS N G
theorem vvalue (w : World) (g : Nat) (t : ByteArray) (b : Nat) (I : List Id32) (v : Value) (O M : List Nat) (s : VSt) (h : ViewAt w g t b I v) (hs : StAt w O M v s) (ht : t.size ≤ 9223372036854775807) (hk : kindB t = s.kind) (hl : s.len ≤ 1000) :
    Calls Tryz.prog 24 #[.pointer (some ⟨g, 0, none⟩)] w fun e w' => ∃ A cap, e = .returned (.agg (valVC ⟨s.kind, s.num, .slice A s.pairs.length cap⟩)) ∧ Own w' w.heap.size 98 2 A s.pairs.length cap (s.pairs.map pairC) ∧ Below w.heap.size w w' := by
  cases s with
  | t n =>
    obtain ⟨gt, rfl, h1, rfl⟩ := hs
    refine (vvalue_t w g gt t b I n h h1 ht hk).mono ?_
    rintro e w' ⟨rfl, hb⟩
    exact ⟨none, 0, rfl, Own.nil _ _ _ _, hb⟩
  | b L G =>
    obtain ⟨gt, bl, bg, rfl, h1, rfl⟩ := hs
    refine (vvalue_b w g gt t b I h ht hk (listB L).length ((listB L).map fun s => pairC (pairV s)) (fun w' hb => blist w' gt bl bg L G (h1.below hb) (by have : L.length ≤ 1000 := hl; omega))).mono ?_
    rintro e w' ⟨A, cap, rfl, ho, hb⟩
    have e1 : (VSt.b L G).pairs.length = (listB L).length := by simp [VSt.pairs]
    refine ⟨A, cap, by rw [e1]; rfl, ?_, hb⟩
    rw [e1]
    simpa [VSt.pairs, List.map_map, Function.comp_def] using ho
  | l L =>
    obtain ⟨gt, bl, rfl, h1, rfl⟩ := hs
    refine (vvalue_l w g gt t b I h ht hk L.length (listC L) (fun w' hb => llist w' gt bl L (h1.below hb) (by have : L.length ≤ 1000 := hl; omega))).mono ?_
    rintro e w' ⟨A, cap, rfl, ho, hb⟩
    have e1 : (VSt.l L).pairs.length = L.length := by simp [VSt.pairs]
    refine ⟨A, cap, by rw [e1]; rfl, ?_, hb⟩
    rw [e1]
    simpa [VSt.pairs, listC, List.map_map, Function.comp_def] using ho
  | m X Ov =>
    obtain ⟨gt, bl, bo, rfl, h1, rfl⟩ := hs
    exact vvalue_m w g gt t b I h ht hk (listM X).length ((listM X).map pairC) (fun w' hb => mlist w' gt bl bo X Ov (h1.below hb) (by have : X.length ≤ 1000 := hl; omega))
  | s N G =>
    obtain ⟨gt, bn, bb, bg, rfl, h1, rfl⟩ := hs
    exact vvalue_s w g gt t b I h ht hk (listS N G).length ((listS N G).map pairC) (fun w' hb => sqlist w' M gt bn bb bg N G (h1.below hb) (by have : N.length ≤ 1000 := hl; omega))

end Go.Proofs.YtgfpjjppeldhbaaGreatDoor

/- Marks that came in: are they too many (petrellaw26.much)? -/
namespace Go.Proofs.YtgfpjjppeldhbaaGreatDoor
open Go.RowKit

abbrev MarksIn (w : World) (A : Option Addr) (n : Nat) (R : List MarkV) : Prop := SlR w A n 34 (R.map markVC)
theorem MarksIn.get {w : World} {A : Option Addr} {n : Nat} {R : List MarkV} (h : MarksIn w A n R) {i : Nat} (hi : i < n) (hR : i < R.length) :
    ∃ g o, A = some ⟨g, o, none⟩ ∧ rowAt w g (o + i * 34) 34 = some (markVC R[i]) ∧ rowAt w g (o + i * 34) 32 = some (idC (R[i]).id) ∧ w.cell? ⟨g, o + i * 34 + 33, none⟩ = some (.string (R[i]).body) := by
  obtain ⟨g, o, e, hr⟩ := SlR.at_ h hi
  rw [List.getElem_map] at hr
  refine ⟨g, o, e, hr, ?_, ?_⟩
  · have := rowAt_sub hr (j := 0) (m := 32) (by omega)
    rwa [markVC_e0] at this
  · have := rowAt_cell hr (j := 33) (by omega)
    rwa [markVC_g33] at this
theorem MarksIn.len {w : World} {A : Option Addr} {n : Nat} {R : List MarkV} (h : MarksIn w A n R) : R.length = n := by simpa using h.1
/-- Marks that came in. -/
structure MarksOk (w : World) (A : Option Addr) (n : Nat) (R : List MarkV) : Prop where
  rows : MarksIn w A n R
  big : n ≤ 9223372036854775807
  each : ∀ a ∈ R, a.body.size ≤ 9223372036854775807
def FewMarks (R : List MarkV) : Prop := R.length ≤ 30 ∧ ∀ a ∈ R, a.body.size ≤ 600

set_option maxHeartbeats 1000000 in
theorem vmuch (w : World) (A : Option Addr) (n cap : Nat) (R : List MarkV) (h : MarksOk w A n R) :
    Calls Tryz.prog 20 #[.slice A n cap] w fun e w' => ∃ b, e = .returned (.bool b) ∧ (b = false → FewMarks R) ∧ Below w.heap.size w w' := by
  have hlen := h.rows.len
  have hn := h.big
  have hrows := h.rows
  have hs := h.each
  have Hlen := Lib.hid hlen
  go_enter Tryz.func20, Tryz.ntmps20
  go_wp2_with fail
  go_loopw [3] (fun i wr => ∃ k : Nat, k ≤ n ∧ k ≤ 30 ∧ i = .int .i64 k ∧ Hid (∀ j (hj : j < R.length), j < k → (R[j]).body.size ≤ 600) ∧ Below w.heap.size w wr) (fun i _ => n - (intOf i).toNat)
  case atStart => exact ⟨0, Nat.zero_le _, by omega, rfl, (show ∀ j (hj : j < R.length), j < 0 → _ from fun j _ h => absurd h (by omega)), Below.refl _ _⟩
  case round =>
    obtain ⟨k, hk, hk40, rfl, hd, hb⟩ := hrel
    by_cases hlt : k < n ∧ k < 30
    · obtain ⟨hlt, hlt40⟩ := hlt
      obtain ⟨g, o, rfl, _, _, hval⟩ := MarksIn.get (SlR.below hrows hb) hlt (by omega)
      have hsk := hs R[k] (List.getElem_mem (by omega))
      obtain ⟨x, hx⟩ : ∃ x, R[k]'(by omega) = x := ⟨_, rfl⟩
      have Hx := Lib.hid hx
      rw [hx] at hval hsk
      clear hx
      by_cases h1 : 600 < x.body.size
      · go_wp2_with fail
        go_ret
        exact ⟨true, rfl, nofun, hb⟩
      · have hd2 : ∀ j (hj : j < R.length), j < k + 1 → (R[j]).body.size ≤ 600 := fun j hj hjk => by
          rcases Nat.lt_or_ge j k with h3 | h3
          · exact hd.out j hj h3
          · obtain rfl : j = k := by omega
            have := Hx.out
            rw [this]; omega
        have Hd2 := Lib.hid hd2
        clear hd2 hd
        go_wp2_with fail
        go_roundw
        case rel => exact ⟨k + 1, by omega, by omega, by go_num, Hd2, hb⟩
        case measure => simp [intOf]; omega
    · have hstop : n ≤ k ∨ 30 ≤ k := by omega
      by_cases hm : 30 < n
      · go_wp2_with fail
        go_ret
        exact ⟨true, ret_bool (decide_eq_true (by omega)), nofun, hb⟩
      · have hfew : FewMarks R := ⟨by omega, fun a ha => by
          obtain ⟨j, hj, rfl⟩ := List.getElem_of_mem ha
          exact hd.out j hj (by omega)⟩
        have Hf := Lib.hid hfew
        clear hfew hd
        go_wp2_with fail
        go_ret
        exact ⟨false, ret_bool (decide_eq_false (by omega)), fun _ => Hf.out, hb⟩

end Go.Proofs.YtgfpjjppeldhbaaGreatDoor

/- Package view: New, Fold of any kind; the state kept. -/
namespace Go.Proofs.YtgfpjjppeldhbaaGreatDoor
open Go.RowKit

/-- A view as it lies: state s in blocks O; b and O may turn. -/
structure VAt (w : World) (g : Nat) (t : ByteArray) (b : Nat) (O : List Nat) (I : List Id32) (v : Value) (s : VSt) : Prop where
  view : ViewAt w g t b I v
  st : StAt w O (b :: O) v s
  gM : g ∉ b :: O
  bO : b ∉ O
  lt : ∀ x ∈ b :: O, x < w.heap.size
  b0 : 0 ∉ b :: O
theorem VAt.below {w w' : World} {g : Nat} {t : ByteArray} {b : Nat} {O : List Nat} {I : List Id32} {v : Value} {s : VSt} (h : VAt w g t b O I v s) (k : Below w.heap.size w w') : VAt w' g t b O I v s :=
  ⟨h.view.below k, h.st.below k, h.gM, h.bO, fun x hx => Nat.lt_of_lt_of_le (h.lt x hx) k.size, h.b0⟩

/-- A fresh state. -/
def VSt.new (k : Int) : VSt := if k = 1 then .t 0 else if k = 2 then .b [] [] else if k = 3 then .l [] else if k = 4 then .m [] [] else .s [] []
theorem kindB_range (t : ByteArray) : kindB t = 0 ∨ kindB t = 1 ∨ kindB t = 2 ∨ kindB t = 3 ∨ kindB t = 4 ∨ kindB t = 5 := by
  unfold kindB kindC
  repeat' split
  all_goals simp
theorem vnew_vat {w2 w3 w' : World} {g b : Nat} {t : ByteArray} {O : List Nat} {v : Value} {s : VSt} (hv : ViewAt w' g t b [] v) (hs : StAt w3 O O v s) (hO : ∀ x ∈ O, w2.heap.size ≤ x ∧ x < w3.heap.size) (hb : Below w3.heap.size w3 w') (hg : g = w3.heap.size) (hb2 : b < w2.heap.size) (hbp : 0 < b) (hm : StAt w3 O O v s → StAt w3 O (b :: O) v s) : VAt w' g t b O [] v s := by
  have h3 := (hm hs).below hb
  refine ⟨hv, h3, ?_, ?_, ?_, ?_⟩
  · intro hx
    rcases List.mem_cons.1 hx with h | h
    · exact hv.ne h
    · have := (hO _ h).2; omega
  · intro h; have := (hO _ h).1; omega
  · intro x hx
    rcases List.mem_cons.1 hx with h | h
    · rw [h]; exact hv.ids.lt
    · have := (hO _ h).2; have := hb.size; omega
  · intro hx
    rcases List.mem_cons.1 hx with h | h
    · omega
    · have := (hO _ h).1; omega

theorem vnew_any (t : ByteArray) (w : World) (ht : t.size ≤ 9223372036854775807) (hk0 : kindB t ≠ 0) (hw : 0 < w.heap.size) :
    Calls Tryz.prog 23 #[.string t] w fun e w' => ∃ g b O v, e = .returned (.tuple #[.pointer (some ⟨g, 0, none⟩), .int .i64 0]) ∧ VAt w' g t b O [] v (VSt.new (kindB t)) ∧ (∀ x ∈ b :: O, w.heap.size ≤ x) ∧ w.heap.size ≤ g ∧ Below w.heap.size w w' := by
  rcases kindB_range t with h | h | h | h | h | h
  · exact absurd h hk0
  · have hf : ∀ w, Calls Tryz.prog 55 #[.int .i64 1] w fun e w' => ∃ gs, e = .returned (.iface 100 (.pointer (some ⟨gs, 0, none⟩))) ∧ (TallyAt w' gs 0 ∧ w.heap.size ≤ gs) ∧ Below w.heap.size w w' := fun w => (vfresh_t w).mono fun e w' ⟨h1, h2, h3⟩ => ⟨_, h1, ⟨h2, Nat.le_refl _⟩, h3⟩
    refine (vnew t w ht 1 h (by omega) _ _ hf).mono ?_
    rintro e w' ⟨g, b, gs, w2, w3, rfl, hv, ⟨hz, hz2⟩, hb23, hb3, hg, hb1, hb2, hB⟩
    refine ⟨g, b, [gs], .iface 100 (.pointer (some ⟨gs, 0, none⟩)), rfl, ?_, ?_, ?_, hB⟩
    · rw [h]
      refine vnew_vat (s := .t 0) (w2 := w2) hv ⟨gs, rfl, hz, rfl⟩ (fun x hx => ?_) hb3 hg hb2 (by omega) (fun h => ?_)
      · obtain rfl : x = gs := by simpa using hx
        exact ⟨hz2, hz.lt⟩
      · obtain ⟨g', e, h1, h2⟩ := h; exact ⟨g', e, h1, h2⟩
    · intro x hx; simp at hx; omega
    · have := hb23.size; omega
  · refine (vnew t w ht 2 h (by omega) _ _ vfresh_b).mono ?_
    rintro e w' ⟨g, b, gs, w2, w3, rfl, hv, ⟨bl, bg, hz, z1, z2, z3⟩, hb23, hb3, hg, hb1, hb2, hB⟩
    refine ⟨g, b, [gs, bl, bg], .iface 102 (.pointer (some ⟨gs, 0, none⟩)), rfl, ?_, ?_, ?_, hB⟩
    · rw [h]
      refine vnew_vat (s := .b [] []) (w2 := w2) hv ⟨gs, bl, bg, rfl, hz, rfl⟩ (fun x hx => ?_) hb3 hg hb2 (by omega) (fun h => ?_)
      · have h1 := hz.lt.1; have h2 := hz.live.lt; have h3 := hz.gone.lt
        simp at hx; rcases hx with rfl | rfl | rfl <;> omega
      · exact h
    · intro x hx; simp at hx; omega
    · have := hb23.size; omega
  · refine (vnew t w ht 3 h (by omega) _ _ vfresh_l).mono ?_
    rintro e w' ⟨g, b, gs, w2, w3, rfl, hv, ⟨bl, hz, z1, z2⟩, hb23, hb3, hg, hb1, hb2, hB⟩
    refine ⟨g, b, [gs, bl], .iface 104 (.pointer (some ⟨gs, 0, none⟩)), rfl, ?_, ?_, ?_, hB⟩
    · rw [h]
      refine vnew_vat (s := .l []) (w2 := w2) hv ⟨gs, bl, rfl, hz, rfl⟩ (fun x hx => ?_) hb3 hg hb2 (by omega) (fun h => ?_)
      · have h1 := hz.lt
        simp at hx; rcases hx with rfl | rfl <;> omega
      · exact h
    · intro x hx; simp at hx; omega
    · have := hb23.size; omega
  · refine (vnew t w ht 4 h (by omega) _ _ vfresh_m).mono ?_
    rintro e w' ⟨g, b, gs, w2, w3, rfl, hv, ⟨bl, bg, hz, z1, z2, z3⟩, hb23, hb3, hg, hb1, hb2, hB⟩
    refine ⟨g, b, [gs, bl, bg], .iface 105 (.pointer (some ⟨gs, 0, none⟩)), rfl, ?_, ?_, ?_, hB⟩
    · rw [h]
      refine vnew_vat (s := .m [] []) (w2 := w2) hv ⟨gs, bl, bg, rfl, hz, rfl⟩ (fun x hx => ?_) hb3 hg hb2 (by omega) (fun h => ?_)
      · have h1 := hz.lt.1; have h2 := hz.live.lt; have h3 := hz.over.lt
        simp at hx; rcases hx with rfl | rfl | rfl <;> omega
      · exact h
    · intro x hx; simp at hx; omega
    · have := hb23.size; omega
  · refine (vnew t w ht 5 h (by omega) _ _ vfresh_s).mono ?_
    rintro e w' ⟨g, b, gs, w2, w3, rfl, hv, ⟨bn, bb, bg, hz, z1, z2, z3, z4⟩, hb23, hb3, hg, hb1, hb2, hB⟩
    have hz0 := hz [bn, bb, bg] (by simp) (by simp) (by simp)
    have hm : SeqAt w3 (b :: [gs, bn, bb, bg]) gs bn bb bg [] [] := hz _ (by simp) (by simp) (by simp)
    refine ⟨g, b, [gs, bn, bb, bg], .iface 106 (.pointer (some ⟨gs, 0, none⟩)), rfl, ?_, ?_, ?_, hB⟩
    · rw [h]
      refine vnew_vat (s := .s [] []) (w2 := w2) hv ⟨gs, bn, bb, bg, rfl, hz _ (by simp) (by simp) (by simp), rfl⟩ (fun x hx => ?_) hb3 hg hb2 (by omega) (fun _ => ⟨gs, bn, bb, bg, rfl, hm, rfl⟩)
      have h1 := hz0.ltg; obtain ⟨_, _, hn⟩ := hz0.nodes; obtain ⟨_, _, _, hbb, _⟩ := hz0.behind; have h4 := hz0.gone.lt
      have h2 := hn.lt; have h3 := hbb.lt
      simp at hx; rcases hx with rfl | rfl | rfl | rfl <;> omega
    · intro x hx; simp at hx; omega
    · have := hb23.size; omega

/-! ### Fold -/
theorem opO_lo (l : List UInt8) (h : opE l = 0) : -2147483648 ≤ (opO l).n := by
  have hn := opO_ok l h
  have hk : 1 ≤ numV 1 l 0 ∧ numV 1 l 0 ≤ 7 := by
    unfold opE at h
    split at h
    · contradiction
    split at h
    · cases h
    · omega
  have h2 := num_take (numV 1 l 0) (rawL 1 l 0) 0 hk.1 hk.2
  have e : (takeO (numV 1 l 0) (rawL 1 l 0) 0).o = opO l := rfl
  rw [e, decide_eq_true hn.2.2.2.2.2.2.2] at h2
  unfold numO at h2
  simp only [Bool.and_eq_true, decide_eq_true_eq] at h2
  exact h2.2.2
def foldS (t : ByteArray) (m : MarkV) (s : VSt) : VSt := if fits t m then doS m (opO m.body.data.toList) s else s
theorem foldS_kind (t : ByteArray) (m : MarkV) (s : VSt) : (foldS t m s).kind = s.kind := by
  unfold foldS; split
  · exact doS_kind _ _ _
  · rfl
theorem foldS_len (t : ByteArray) (m : MarkV) (s : VSt) : (foldS t m s).len ≤ s.len + 1 := by
  unfold foldS; split
  · exact doS_len _ _ _
  · omega
theorem vfold_vat (m : MarkV) (w : World) (g : Nat) (t : ByteArray) (b : Nat) (O : List Nat) (I : List Id32) (v : Value) (s : VSt) (h : VAt w g t b O I v s) (hm : m.id ∉ I) (hp : PartsVar w) (hs : m.body.size ≤ 9223372036854775807) (ht : t.size ≤ 9223372036854775807) (hk : kindB t = s.kind) (hl : s.len ≤ 1000) :
    Calls Tryz.prog 26 #[.pointer (some ⟨g, 0, none⟩), .agg (markVC m)] w fun e w' => e = .returned (.bool true) ∧ VAt w' g t b O (m.id :: I) v (foldS t m s) ∧ Keep (b :: O) w w' := by
  have hgO : g ∉ O := fun hx => h.gM (List.mem_cons_of_mem _ hx)
  have hOb : ∀ x ∈ O, x ∉ [b] := fun x hx hxb => h.bO (by have : x = b := by simpa using hxb
                                                          rwa [← this])
  refine vfold_new m w g t b I v h.view hm hp (fun e => h.b0 (by simp [e])) hs ht (fun w' => VAt w' g t b O (m.id :: I) v (foldS t m s) ∧ Keep (b :: O) w w') ?_ ?_
  · intro hf w' hv hkp
    have e : foldS t m s = s := if_neg hf
    rw [e]
    exact ⟨⟨hv, h.st.kept hkp hOb (fun x hx => .inl (by have : x = b := by simpa using hx
                                                        simp [this])), h.gM, h.bO, fun x hx => Nat.lt_of_lt_of_le (h.lt x hx) hkp.size, h.b0⟩, hkp.mono (by simp)⟩
  · intro hf w1 A c hv hkp hp1 hown
    have e : foldS t m s = doS m (opO m.body.data.toList) s := if_pos hf
    rw [e]
    have hok := opO_ok _ hf.1
    have hst : StAt w1 O (b :: O) v s := h.st.kept hkp hOb (fun x hx => .inl (by have : x = b := by simpa using hx
                                                                                 simp [this]))
    refine (vdoes m _ A c w1 g t b (m.id :: I) v O (b :: O) s hv hst (fun x hx => Nat.lt_of_lt_of_le (h.lt x hx) hkp.size) ⟨hf.2.trans hk, hok.2.2.2.1, hok.2.2.2.2.1, hok.2.2.2.2.2.1, opO_lo _ hf.1, hok.2.2.2.2.2.2.2⟩ hown.slr hl).mono ?_
    rintro e w' ⟨rfl, h1, hk2⟩
    exact ⟨rfl, ⟨hv.kept hk2 hgO h.bO, h1, h.gM, h.bO, fun x hx => Nat.lt_of_lt_of_le (h.lt x hx) (Nat.le_trans hkp.size hk2.size), h.b0⟩, Keep.trans (hkp.mono (S' := b :: O) (by simp)) (hk2.mono (S' := b :: O) (fun x hx => .inl (List.mem_cons_of_mem _ hx))) (fun x hx => .inl hx)⟩

end Go.Proofs.YtgfpjjppeldhbaaGreatDoor

/- The reference Has (petrelref06): does an id stand there? -/
namespace Go.Proofs.YtgfpjjppeldhbaaGreatDoor
open Go.RowKit

set_option maxHeartbeats 1000000 in
/-- The reference's Has. -/
theorem rhas6 (w : World) (A : Option Addr) (n cap : Nat) (R : List Id32) (d : Id32) (h : TagsIn w A n R) (hn : n ≤ 9223372036854775807) :
    Calls Tryz.prog 36 #[.slice A n cap, .agg (idC d)] w fun e w' => e = .returned (.bool (decide (d ∈ R))) ∧ Below w.heap.size w w' := by
  have hlen := h.len
  have hB : Below w.heap.size w (w.alloc (.cells (idC d) 39)) := (Below.refl _ _).alloc (Nat.le_refl _) _
  have hd0 : rowAt (w.alloc (.cells (idC d) 39)) w.heap.size 0 32 = some (idC d) := by simp [go_sem]
  have Hlen := Lib.hid hlen
  clear hlen
  go_enter Tryz.func36, Tryz.ntmps36
  go_wp2_with fail
  generalize w.alloc (.cells (idC d) 39) = W at *
  go_loopw [5] (fun i wr => ∃ k : Nat, k ≤ n ∧ i = .int .i64 k ∧ Hid (d ∉ R.take k) ∧ Below W.heap.size W wr) (fun i _ => n - (intOf i).toNat)
  case atStart => exact ⟨0, Nat.zero_le _, rfl, (show d ∉ R.take 0 by simp), Below.refl _ _⟩
  case round =>
    obtain ⟨k, hk, rfl, hno, hb⟩ := hrel
    by_cases hlt : k < n
    · obtain ⟨q, o, rfl, hr⟩ := TagsIn.get (SlR.below (SlR.below h hB) hb) hlt (by rw [Hlen.out]; exact hlt)
      have hdr : rowAt wr w.heap.size 0 32 = some (idC d) := (rowAt_of_block (hb.block _ (rowAt_lt hd0)) _ _).trans hd0
      have htk : R.take (k + 1) = R.take k ++ [R[k]'(by rw [Hlen.out]; exact hlt)] := by rw [List.take_add_one, List.getElem?_eq_getElem (by rw [Hlen.out]; exact hlt)]; rfl
      have hmem : R[k]'(by rw [Hlen.out]; exact hlt) ∈ R := List.getElem_mem _
      obtain ⟨x, hx⟩ : ∃ x, R[k]'(by rw [Hlen.out]; exact hlt) = x := ⟨_, rfl⟩
      rw [hx] at hr htk hmem
      have Htk := Lib.hid htk
      have Hm := Lib.hid hmem
      clear hx htk hmem
      go_upto_region 4 with fail
      refine wp_region_lex (Bel wr) false (by kernel_rfl) (by kernel_rfl) (by kernel_rfl) (bel_drew wr) ?_
      have hne := bel_some wr
      have hS := bel_drew wr
      have b1 := sub_row hr; have b2 := sub_row hdr
      repeat (refine wpLx_loose ?_ ?_; (focus (simp only [chainOp]; done)); intro K hK; go_simp; refine hK _ ?_; clear hK K)
      refine wpLx_nil ?_
      intro hS
      clear hne hS b1 b2 hr hdr
      go_wp2_with fail
      · have he : (x == d) = true := by assumption
        have e : x = d := by simpa using he
        have Hin : Hid (decide (d ∈ R) = true) := decide_eq_true (by rw [← e]; exact Hm.out)
        clear e
        go_ret
        exact ⟨ret_bool (by rw [Hin.out]), hB.trans (hb.drew.mono hB.size)⟩
      · have he : (x == d) = false := by assumption
        have e : ¬ x = d := by simpa using he
        have hno' : Hid (d ∉ R.take (k + 1)) := by
          show _
          rw [Htk.out, List.mem_append, List.mem_singleton]
          rintro (h1 | h1)
          · exact hno.out h1
          · exact e h1.symm
        clear e
        go_roundw
        case rel => exact ⟨k + 1, by omega, by go_num, hno', hb.drew⟩
        case measure => simp [intOf]; omega
    · have hall : d ∉ R := by
        have := hno.out
        rwa [List.take_of_length_le (by rw [Hlen.out]; omega)] at this
      have Hn : Hid (decide (d ∈ R) = false) := decide_eq_false hall
      clear hall
      go_wp2_with fail
      go_ret
      exact ⟨ret_bool (by rw [Hn.out]), hB.trans (hb.mono hB.size)⟩

end Go.Proofs.YtgfpjjppeldhbaaGreatDoor

/- The reference's order of ids: the walk. -/
namespace Go.Proofs.YtgfpjjppeldhbaaGreatDoor
open Go.RowKit

theorem idB_lt (d : Id32) {k : Nat} (h : k < 32) : idB d k = ((d.l[k]'(by rw [d.h]; exact h)).toNat : Int) := by
  unfold idB; rw [List.getD_eq_getElem?_getD, List.getElem?_eq_getElem (by rw [d.h]; exact h)]; rfl
theorem drop_id (d : Id32) {k : Nat} (h : k < 32) : d.l.drop k = d.l[k]'(by rw [d.h]; exact h) :: d.l.drop (k + 1) := List.drop_eq_getElem_cons (by rw [d.h]; exact h)

theorem cmpB_cons (u v : UInt8) (l m : List UInt8) : cmpB (u :: l) (v :: m) = if u < v then -1 else if v < u then 1 else cmpB l m := rfl
set_option maxHeartbeats 2000000 in
theorem rcompare (a b : Id32) (w : World) : Calls Tryz.prog 114 #[.agg (idC a), .agg (idC b)] w fun e w' => e = .returned (.int .i64 (cmpId a b)) ∧ Below w.heap.size w w' := by
  go_enter Tryz.func114, Tryz.ntmps114
  go_wp2_with fail
  have hca : Hid (∀ k, k < 32 → ((w.alloc (.cells (idC a) 39)).alloc (.cells (idC b) 39)).cell? ⟨w.heap.size, k, none⟩ = some (.int .u8 (idB a k))) := fun k hk => by simp [go_sem, hk]
  have hcb : Hid (∀ k, k < 32 → ((w.alloc (.cells (idC a) 39)).alloc (.cells (idC b) 39)).cell? ⟨w.heap.size + 1, k, none⟩ = some (.int .u8 (idB b k))) := fun k hk => by simp [go_sem, hk]
  have hB : Below w.heap.size w ((w.alloc (.cells (idC a) 39)).alloc (.cells (idC b) 39)) := ((Below.refl _ _).alloc (Nat.le_refl _) _).alloc (by simp) _
  generalize (w.alloc (.cells (idC a) 39)).alloc (.cells (idC b) 39) = W at *
  go_loopw [5] (fun i wr => ∃ k : Nat, k ≤ 32 ∧ i = .int .i64 k ∧ Hid (cmpB (a.l.drop k) (b.l.drop k) = cmpId a b) ∧ Below W.heap.size W wr) (fun i _ => 32 - (intOf i).toNat)
  case atStart => exact ⟨0, by omega, rfl, rfl, Below.refl _ _⟩
  case round =>
    obtain ⟨k, hk, rfl, hd, hb⟩ := hrel
    by_cases hlt : k < 32
    · have ca := (hb.cell (p := ⟨w.heap.size, k, none⟩) (World.block_lt_of_cell? W _ (hca.out k hlt))).trans (hca.out k hlt)
      have cb := (hb.cell (p := ⟨w.heap.size + 1, k, none⟩) (World.block_lt_of_cell? W _ (hcb.out k hlt))).trans (hcb.out k hlt)
      have hdr : cmpId a b = if idB a k < idB b k then -1 else if idB b k < idB a k then 1 else cmpB (a.l.drop (k + 1)) (b.l.drop (k + 1)) := by
        rw [← hd.out, drop_id a hlt, drop_id b hlt, idB_lt a hlt, idB_lt b hlt, cmpB_cons]
        simp only [UInt8.lt_iff_toNat_lt, Int.ofNat_lt]
      obtain ⟨x, hx⟩ : ∃ x, idB a k = x := ⟨_, rfl⟩
      obtain ⟨y, hy⟩ : ∃ y, idB b k = y := ⟨_, rfl⟩
      rw [hx, hy] at hdr
      rw [hx] at ca
      rw [hy] at cb
      have Hdr := Lib.hid hdr
      clear hdr hx hy
      go_upto_region 4 with fail
      refine wp_region_lex (Bel wr) false (by kernel_rfl) (by kernel_rfl) (by kernel_rfl) (bel_drew wr) ?_
      have hne := bel_some wr
      have hS := bel_drew wr
      have b1 := sub_cell ca; have b2 := sub_cell cb
      repeat (refine wpLx_loose ?_ ?_; (focus (simp only [chainOp]; done)); intro K hK; go_simp; refine hK _ ?_; clear hK K)
      refine wpLx_nil ?_
      intro hS
      have hb1 : Below W.heap.size W wr.drew := hb.drew
      clear hne hS b1 b2
      by_cases h1 : x < y
      · go_wp2_with fail
        go_ret
        exact ⟨ret_int (by rw [Hdr.out, if_pos (by omega)]), hB.trans (hb1.mono hB.size)⟩
      · go_upto_region 6 with fail
        refine wp_region_lex (Bel wr.drew) false (by kernel_rfl) (by kernel_rfl) (by kernel_rfl) (bel_drew wr.drew) ?_
        have hne := bel_some wr.drew
        have hS := bel_drew wr.drew
        have b1 := sub_cell (W := wr.drew) ca; have b2 := sub_cell (W := wr.drew) cb
        repeat (refine wpLx_loose ?_ ?_; (focus (simp only [chainOp]; done)); intro K hK; go_simp; refine hK _ ?_; clear hK K)
        refine wpLx_nil ?_
        intro hS
        clear hne hS b1 b2
        by_cases h2 : y < x
        · go_wp2_with fail
          go_ret
          exact ⟨ret_int (by rw [Hdr.out, if_neg (by omega), if_pos (by omega)]), hB.trans (hb1.drew.mono hB.size)⟩
        · go_wp2_with fail
          go_roundw
          case rel => exact ⟨k + 1, by omega, by go_num, (show cmpB _ _ = _ by rw [Hdr.out, if_neg (by omega), if_neg (by omega)]), hb1.drew⟩
          case measure => simp [intOf]; omega
    · have hk32 : k = 32 := by omega
      subst hk32
      go_wp2_with fail
      go_ret
      have h0 := hd.out
      rw [List.drop_eq_nil_of_le (by rw [a.h]; omega), List.drop_eq_nil_of_le (by rw [b.h]; omega)] at h0
      exact ⟨ret_int (by rw [← h0]; rfl), hB.trans (hb.mono hB.size)⟩

end Go.Proofs.YtgfpjjppeldhbaaGreatDoor

/- The reference's sets of ids (petrelref06): With, Set. -/
namespace Go.Proofs.YtgfpjjppeldhbaaGreatDoor
open Go.RowKit

@[go_sem] theorem bsIdN_run (w : World) : (bsS 50 0 #[]).run Tryz.prog w = .ok (.slice (some ⟨w.heap.size, 0, none⟩) 0 0) (w.alloc (.cells #[] 39)) := run_bsS0 einfoId w
@[go_sem ↓] theorem slId_rw (x : Value) (lo hi mx : Option Value) : Instr.sliceAt 50 x lo hi mx = slS 50 x lo hi mx := rfl
abbrev IdsW (w : World) (A : Option Addr) (n cap : Nat) (R : List Id32) : Prop := SlW w A n cap 32 (R.map idC)
theorem onesId (X : List Id32) : ∀ r ∈ X.map idC, ∀ u ∈ r.toList, u.oneCell' = true := by
  intro r hr; obtain ⟨x, _, rfl⟩ := List.mem_map.1 hr; exact idC_one x

set_option maxRecDepth 100000 in
set_option maxHeartbeats 4000000 in
theorem rwith (w : World) (A : Option Addr) (n cap : Nat) (O : List Id32) (d : Id32) (h : IdsW w A n cap O) (hn : n ≤ 1000000) (hris : Ris cmpId O) :
    Calls Tryz.prog 72 #[.slice A n cap, .agg (idC d)] w fun e w' => ∃ A' cap', e = .returned (.slice A' (insC cmpId O d).length cap') ∧ IdsW w' A' (insC cmpId O d).length cap' (insC cmpId O d) ∧ (∀ x ∈ blk A', x ∈ blk A ∨ w.heap.size ≤ x) ∧ Below w.heap.size w w' := by
  have hlen : O.length = n := by simpa using h.len
  have hB : Below w.heap.size w (w.alloc (.cells (idC d) 39)) := (Below.refl _ _).alloc (Nat.le_refl _) _
  have hd0 : rowAt (w.alloc (.cells (idC d) 39)) w.heap.size 0 32 = some (idC d) := by simp [go_sem]
  have h0 := h.below hB
  have c1 := rhas6 (w.alloc (.cells (idC d) 39)) A n cap O d h0.rd (by omega)
  have Hlen := Lib.hid hlen
  clear hlen
  by_cases hin : d ∈ O
  · rw [decide_eq_true hin] at c1
    have hat := insC_old totId hris hin
    have Hat := Lib.hid hat
    clear hat hin
    go_enter Tryz.func72, Tryz.ntmps72
    go_wp2_with fail
    refine c1.mono ?_; rintro e w1 ⟨rfl, hb1⟩
    have h1 := h0.below hb1
    have hbb := bel2 hB hb1
    clear c1
    go_wp2_with fail
    go_ret
    refine ⟨A, cap, by rw [Hat.out, Hlen.out]; rfl, by rw [Hat.out, Hlen.out]; exact h1, fun x hx => .inl hx, hbb⟩
  · rw [decide_eq_false hin] at c1
    have Hin := Lib.hid hin
    clear hin
    go_enter Tryz.func72, Tryz.ntmps72
    go_upto_region 1 with fail
    obtain ⟨gx, hgx⟩ : ∃ gx, w.heap.size = gx := ⟨_, rfl⟩
    have Hgx := Lib.hid hgx
    rw [hgx] at hd0 hB ⊢
    obtain ⟨W0, hW0⟩ : ∃ W0, W0 = w.alloc (.cells (idC d) 39) := ⟨_, rfl⟩
    rw [← hW0] at h0 hd0 hB c1 ⊢
    clear hW0 hgx
    go_wp2_with fail
    refine c1.mono ?_; rintro e w1 ⟨rfl, hb1⟩
    have h1 := h0.below hb1
    have hbb : Below gx w w1 := hB.trans (hb1.mono (by have := hB.size; have := Hgx.out; omega))
    have hr1 : rowAt w1 gx 0 32 = some (idC d) := (rowAt_of_block (hb1.block gx (rowAt_lt hd0)) _ _).trans hd0
    clear c1 hd0 hb1 hB h0
    go_wp2_with fail
    go_loopw [5] (fun j wj => ∃ m : Nat, m ≤ n ∧ j = .int .i64 m ∧ Hid (∀ i (hi : i < O.length), i < m → cmpId O[i] d < 0) ∧ Below w1.heap.size w1 wj) (fun j _ => n - (intOf j).toNat)
    case atStart => exact ⟨0, Nat.zero_le _, rfl, (show ∀ i (hi : i < O.length), i < 0 → _ from fun i _ h => absurd h (by omega)), Below.refl _ _⟩
    case round =>
      obtain ⟨m, hmO, rfl, hlow, hbj⟩ := hrel
      have hrj : rowAt wr gx 0 32 = some (idC d) := (rowAt_of_block (hbj.block gx (rowAt_lt hr1)) _ _).trans hr1
      have hswj := h1.below hbj
      by_cases hmlt : m < n
      · obtain ⟨q, o, rfl, hrO⟩ := TagsIn.get hswj.rd hmlt (by rw [Hlen.out]; exact hmlt)
        have hmem : O[m]'(by rw [Hlen.out]; exact hmlt) ∈ O := List.getElem_mem _
        obtain ⟨y, hy⟩ : ∃ y, O[m]'(by rw [Hlen.out]; exact hmlt) = y := ⟨_, rfl⟩
        rw [hy] at hrO hmem
        have Hy := Lib.hid hy
        have Hmem := Lib.hid hmem
        clear hy hmem
        have c2 := rcompare y d wr.drew
        obtain ⟨c, hc⟩ : ∃ c, cmpId y d = c := ⟨_, rfl⟩
        rw [hc] at c2
        have Hc := Lib.hid hc
        clear hc
        go_upto_region 4 with fail
        refine wp_region_lex (Bel wr) false (by kernel_rfl) (by kernel_rfl) (by kernel_rfl) (bel_drew wr) ?_
        have hne := bel_some wr
        have hS := bel_drew wr
        have b1 := sub_row hrj; have b2 := sub_row hrO
        repeat (refine wpLx_loose ?_ ?_; (focus (simp only [chainOp]; done)); intro K hK; go_simp; refine hK _ ?_; clear hK K)
        refine wpLx_chain ?_ ?_ ?_
        focus (exact hS)
        focus (simp only [chainOp]; done)
        intro K hK
        go_simp
        refine (c2).mono ?_
        rintro e w' ⟨rfl, hb⟩
        replace hS := bel_next hS hb
        refine ⟨_, rfl, hS, hK _ _ ?_⟩
        clear hK K hb
        repeat (refine wpLx_loose ?_ ?_; (focus (simp only [chainOp]; done)); intro K hK; go_simp; refine hK _ ?_; clear hK K)
        refine wpLx_nil ?_
        intro hS
        have hS' : Below wr.heap.size wr w' := hS
        have hbz := bel2 hbj hS'
        clear b1 b2 hne hS c2
        by_cases hyx : c < 0
        · go_wp2_with fail
          go_roundw
          case rel =>
            refine ⟨m + 1, by omega, by go_num, (show ∀ i (hi : i < O.length), i < m + 1 → cmpId O[i] d < 0 from fun i hi hlt => ?_), hbz⟩
            by_cases e : i = m
            · subst e; rw [Hy.out, Hc.out]; exact hyx
            · exact hlow.out i hi (by omega)
          case measure => simp [intOf]; omega
        · have hat := insC_at (c := cmpId) O d m (by rw [Hlen.out]; exact hmO) hlow.out (fun hk' => by
            rw [Hy.out, Hc.out]
            have h1 : c ≠ 0 := fun e => Hin.out (by rw [← (totId.zero _ _).1 (Hc.out.trans e)]; exact Hmem.out)
            omega)
          have Hat := Lib.hid hat
          have hsw := h1.below hbz
          have hrx : rowAt w' gx 0 32 = some (idC d) := (rowAt_of_block (hbz.block gx (rowAt_lt hr1)) _ _).trans hr1
          have hBw : Below gx w w' := hbb.trans (hbz.mono (by have := rowAt_lt hr1; omega))
          clear hat hrO hrj hbj hbz hS' hswj
          obtain ⟨W, rfl⟩ : ∃ W, W = w' := ⟨w', rfl⟩
          obtain ⟨A, hA1⟩ : ∃ A, (some ⟨q, o, none⟩ : Option Addr) = A := ⟨_, rfl⟩
          rw [hA1] at hsw ⊢
          clear hA1
          have hBx : Below W.heap.size W (W.alloc (.cells #[] 39)) := (Below.refl _ _).alloc (Nat.le_refl _) _
          have hown0 := Own.empty W W.heap.size 39 32 (Nat.le_refl _)
          have hlo : ∀ w0 : World, (slS 50 (.slice A n cap) none (some (.int .i64 m)) none).run Tryz.prog w0 = .ok (.slice A m cap) w0 := fun w0 => SlW.lo einfoId hsw hmO w0
          obtain ⟨Ah, ch, hhi, hhs, hhf⟩ := hsw.hi (P := Tryz.prog) einfoId (m := m) hmO
          have hslo : SlR (W.alloc (.cells #[] 39)) A m 32 ((O.map idC).take m) := (hsw.rd.below hBx).take_ hmO
          have hf1 := hsw.nil
          have hrone : ∀ r ∈ (O.map idC).take m, ∀ u ∈ r.toList, u.oneCell' = true := fun r hr => by obtain ⟨y', _, rfl⟩ := List.mem_map.1 (List.mem_of_mem_take hr); exact idC_one _
          have hrone2 : ∀ r ∈ (O.map idC).drop m, ∀ u ∈ r.toList, u.oneCell' = true := fun r hr => by obtain ⟨y', _, rfl⟩ := List.mem_map.1 (List.mem_of_mem_drop hr); exact idC_one _
          go_upto_region 7 with (at_builtin; refine L_appends einfoId rfl hown0 rfl hslo hf1 hrone (by omega) (by omega) (by simp) ?_; intro A2 cap2 w2 hown2 hk2 hsub2)
          simp only [Nat.zero_add, List.nil_append] at hown2
          have hwW : Below W.heap.size W w2 := hBx.trans (hk2.below (by simp) (by simp [blk]))
          have hrw2 : rowAt w2 gx (0) 32 = some (idC d) := (rowAt_of_block (hwW.block gx (rowAt_lt hrx)) _ _).trans hrx
          have hB3 : Below w2.heap.size w2 (w2.alloc (.cells (idC d) 39)) := (Below.refl _ _).alloc (Nat.le_refl _) _
          have hown3 := hown2.below hB3
          have hrow3 : rowAt (w2.alloc (.cells (idC d) 39)) w2.heap.size 0 32 = some (idC d) := by simp [go_sem]
          have hsz2 := hwW.size
          go_upto_region 8 with (at_builtin; refine L_append einfoId rfl hown3 rfl hrow3 (idC_one _) (by omega) (by omega) (by simp; omega) ?_; intro A4 cap4 w4 hown4 hk4 hsub4)
          have hwW4 : Below W.heap.size W w4 := (hwW.trans (hB3.mono hsz2)).trans (hk4.below (by simp; omega) (fun x hx => (hown2.at_base hx).1))
          have hs4 := hhs w4 (hsw.rd.below hwW4)
          have hsz4 := hwW4.size
          clear hown3 hrow3 hB3 hown0 hBx hslo hrw2 hlo
          go_upto_region 9 with (at_builtin; refine L_appends einfoId rfl hown4 rfl hs4 hhf hrone2 (by omega) (by omega) (by omega) ?_; intro A5 cap5 w5 hown5 hk5 hsub5)
          have hwW5 : Below W.heap.size W w5 := hwW4.trans (hk5.below (by omega) (fun x hx => (hown4.at_base hx).1))
          have hO5 : (O.map idC).take m ++ [idC d] ++ (O.map idC).drop m = (O.take m ++ d :: O.drop m).map idC := by simp [List.map_take, List.map_drop]
          rw [hO5] at hown5
          clear hown4 hown2 hO5 hs4 hhi hhs hrone hrone2 hf1
          have hL5 : (O.take m ++ d :: O.drop m).length = m + 1 + (n - m) := by simp [Hlen.out]; omega
          have hLn : (insC cmpId O d).length = m + 1 + (n - m) := by rw [Hat.out, hL5]
          rw [← Hat.out] at hown5
          have HLn := Lib.hid hLn
          have hBf := hBw.trans (hwW5.mono (by have := rowAt_lt hrx; omega))
          have hbase : ∀ x ∈ blk A5, w.heap.size ≤ x := fun x hx => by have h1 := (hown5.at_base hx).1; have h2 := hBw.size; have h3 := Hgx.out; omega
          have HB := Lib.hid hBf
          have Hbase := Lib.hid hbase
          have Hown5 := Lib.hid hown5
          clear hL5 hLn hBf hbase hown5
          go_wp2_with fail
          go_ret
          exact ⟨A5, cap5, by rw [HLn.out]; rfl, by rw [HLn.out]; exact Hown5.out.slw, fun x hx => .inr (Hbase.out x hx), by rw [Hgx.out]; exact HB.out⟩
      · have hd : decide (m < n) = false := by simpa using hmlt
        have hat := insC_at (c := cmpId) O d m (by rw [Hlen.out]; exact hmO) hlow.out (fun hk' => absurd (by rw [← Hlen.out]; exact hk') hmlt)
        have Hat := Lib.hid hat
        clear hat
        go_upto_region 4 with fail
        refine wp_region_lex (Bel wr) false (by kernel_rfl) (by kernel_rfl) (by kernel_rfl) (bel_drew wr) ?_
        have hne := bel_some wr
        have hS := bel_drew wr
        repeat (refine wpLx_loose ?_ ?_; (focus (simp only [chainOp]; done)); intro K hK; go_simp; refine hK _ ?_; clear hK K)
        refine wpLx_chain ?_ ?_ ?_
        focus (exact hS)
        focus (simp only [chainOp]; done)
        intro K hK
        go_simp
        refine hK _ _ ?_
        clear hK K
        repeat (refine wpLx_loose ?_ ?_; (focus (simp only [chainOp]; done)); intro K hK; go_simp; refine hK _ ?_; clear hK K)
        refine wpLx_nil ?_
        intro hS
        have hbz := hbj.drew
        have hsw := h1.below hbz
        have hrx : rowAt wr.drew gx 0 32 = some (idC d) := hrj
        have hBw : Below gx w wr.drew := hbb.trans (hbz.mono (by have := rowAt_lt hr1; omega))
        clear hne hS hbz hrj hbj hmlt hd hswj
        obtain ⟨W, hW⟩ : ∃ W, wr.drew = W := ⟨_, rfl⟩
        rw [hW] at hsw hBw hrx ⊢
        clear hW
        have hBx : Below W.heap.size W (W.alloc (.cells #[] 39)) := (Below.refl _ _).alloc (Nat.le_refl _) _
        have hown0 := Own.empty W W.heap.size 39 32 (Nat.le_refl _)
        have hlo : ∀ w0 : World, (slS 50 (.slice A n cap) none (some (.int .i64 m)) none).run Tryz.prog w0 = .ok (.slice A m cap) w0 := fun w0 => SlW.lo einfoId hsw hmO w0
        obtain ⟨Ah, ch, hhi, hhs, hhf⟩ := hsw.hi (P := Tryz.prog) einfoId (m := m) hmO
        have hslo : SlR (W.alloc (.cells #[] 39)) A m 32 ((O.map idC).take m) := (hsw.rd.below hBx).take_ hmO
        have hf1 := hsw.nil
        have hrone : ∀ r ∈ (O.map idC).take m, ∀ u ∈ r.toList, u.oneCell' = true := fun r hr => by obtain ⟨y', _, rfl⟩ := List.mem_map.1 (List.mem_of_mem_take hr); exact idC_one _
        have hrone2 : ∀ r ∈ (O.map idC).drop m, ∀ u ∈ r.toList, u.oneCell' = true := fun r hr => by obtain ⟨y', _, rfl⟩ := List.mem_map.1 (List.mem_of_mem_drop hr); exact idC_one _
        go_upto_region 7 with (at_builtin; refine L_appends einfoId rfl hown0 rfl hslo hf1 hrone (by omega) (by omega) (by simp) ?_; intro A2 cap2 w2 hown2 hk2 hsub2)
        simp only [Nat.zero_add, List.nil_append] at hown2
        have hwW : Below W.heap.size W w2 := hBx.trans (hk2.below (by simp) (by simp [blk]))
        have hrw2 : rowAt w2 gx (0) 32 = some (idC d) := (rowAt_of_block (hwW.block gx (rowAt_lt hrx)) _ _).trans hrx
        have hB3 : Below w2.heap.size w2 (w2.alloc (.cells (idC d) 39)) := (Below.refl _ _).alloc (Nat.le_refl _) _
        have hown3 := hown2.below hB3
        have hrow3 : rowAt (w2.alloc (.cells (idC d) 39)) w2.heap.size 0 32 = some (idC d) := by simp [go_sem]
        have hsz2 := hwW.size
        go_upto_region 8 with (at_builtin; refine L_append einfoId rfl hown3 rfl hrow3 (idC_one _) (by omega) (by omega) (by simp; omega) ?_; intro A4 cap4 w4 hown4 hk4 hsub4)
        have hwW4 : Below W.heap.size W w4 := (hwW.trans (hB3.mono hsz2)).trans (hk4.below (by simp; omega) (fun x hx => (hown2.at_base hx).1))
        have hs4 := hhs w4 (hsw.rd.below hwW4)
        have hsz4 := hwW4.size
        clear hown3 hrow3 hB3 hown0 hBx hslo hrw2 hlo
        go_upto_region 9 with (at_builtin; refine L_appends einfoId rfl hown4 rfl hs4 hhf hrone2 (by omega) (by omega) (by omega) ?_; intro A5 cap5 w5 hown5 hk5 hsub5)
        have hwW5 : Below W.heap.size W w5 := hwW4.trans (hk5.below (by omega) (fun x hx => (hown4.at_base hx).1))
        have hO5 : (O.map idC).take m ++ [idC d] ++ (O.map idC).drop m = (O.take m ++ d :: O.drop m).map idC := by simp [List.map_take, List.map_drop]
        rw [hO5] at hown5
        clear hown4 hown2 hO5 hs4 hhi hhs hrone hrone2 hf1
        have hL5 : (O.take m ++ d :: O.drop m).length = m + 1 + (n - m) := by simp [Hlen.out]; omega
        have hLn : (insC cmpId O d).length = m + 1 + (n - m) := by rw [Hat.out, hL5]
        rw [← Hat.out] at hown5
        have HLn := Lib.hid hLn
        have hBf := hBw.trans (hwW5.mono (by have := rowAt_lt hrx; omega))
        have hbase : ∀ x ∈ blk A5, w.heap.size ≤ x := fun x hx => by have h1 := (hown5.at_base hx).1; have h2 := hBw.size; have h3 := Hgx.out; omega
        have HB := Lib.hid hBf
        have Hbase := Lib.hid hbase
        have Hown5 := Lib.hid hown5
        clear hL5 hLn hBf hbase hown5
        go_wp2_with fail
        go_ret
        exact ⟨A5, cap5, by rw [HLn.out]; rfl, by rw [HLn.out]; exact Hown5.out.slw, fun x hx => .inr (Hbase.out x hx), by rw [Hgx.out]; exact HB.out⟩

/-- Ids put into a set, one by one. -/
theorem insC_len1 (O : List Id32) (d : Id32) : (insC cmpId O d).length ≤ O.length + 1 := insC_length O d
theorem foldl_insLen (L : List Id32) : ∀ O : List Id32, (L.foldl (insC cmpId) O).length ≤ O.length + L.length := by
  induction L with
  | nil => intro O; simp
  | cons x L ih => intro O; have h1 := ih (insC cmpId O x); have h2 := insC_length (c := cmpId) O x; simp only [List.foldl_cons, List.length_cons]; omega

set_option maxHeartbeats 1000000 in
theorem rset (w : World) (A : Option Addr) (n cap : Nat) (R : List Id32) (h : TagsIn w A n R) (hn : n ≤ 1000000) :
    Calls Tryz.prog 165 #[.slice A n cap] w fun e w' => ∃ A' cap', e = .returned (.slice A' (sortC cmpId R).length cap') ∧ IdsW w' A' (sortC cmpId R).length cap' (sortC cmpId R) ∧ (∀ x ∈ blk A', w.heap.size ≤ x) ∧ Below w.heap.size w w' := by
  have hlen := h.len
  have Hlen := Lib.hid hlen
  clear hlen
  go_enter Tryz.func165, Tryz.ntmps165
  go_wp2_with fail
  go_loopw [3, 4] (fun out i wr => ∃ (k : Nat) (A1 : Option Addr) (n1 cap1 : Nat) (O : List Id32), k ≤ n ∧ i = .int .i64 k ∧ out = .slice A1 n1 cap1 ∧ Hid (O = sortC cmpId (R.take k)) ∧ IdsW wr A1 n1 cap1 O ∧ (∀ x ∈ blk A1, w.heap.size ≤ x) ∧ Below w.heap.size w wr) (fun _ i _ => n - (intOf i).toNat)
  case atStart => exact ⟨0, none, 0, 0, [], Nat.zero_le _, rfl, rfl, rfl, SlW.none_, by simp [blk], Below.refl _ _⟩
  case round =>
    obtain ⟨k, A1, n1, cap1, O, hk, rfl, rfl, hO, hsw, hbs, hb⟩ := hrel
    have hn1 : O.length = n1 := by simpa using hsw.len
    by_cases hlt : k < n
    · obtain ⟨q, o, rfl, hr⟩ := TagsIn.get (SlR.below h hb) hlt (by rw [Hlen.out]; exact hlt)
      have htk : sortC cmpId (R.take (k + 1)) = insC cmpId O (R[k]'(by rw [Hlen.out]; exact hlt)) := by
        rw [List.take_add_one, List.getElem?_eq_getElem (by rw [Hlen.out]; exact hlt), Option.toList_some, sortC_snoc, hO.out]
      have hol : n1 ≤ 1000000 := by have := sortC_length (c := cmpId) (R.take k); rw [← hO.out] at this; simp at this; have := Hlen.out; omega
      have hris : Ris cmpId O := by rw [hO.out]; exact ris_sortC totId _
      obtain ⟨d, hd⟩ : ∃ d, R[k]'(by rw [Hlen.out]; exact hlt) = d := ⟨_, rfl⟩
      rw [hd] at hr htk
      have Htk := Lib.hid htk
      have Hol := Lib.hid hol
      have Hris := Lib.hid hris
      clear hd htk hn1 hol hris
      have c1 := rwith wr A1 n1 cap1 O d hsw Hol.out Hris.out
      go_wp2_with fail
      refine c1.mono ?_; rintro e w1 ⟨A2, cap2, rfl, hsw2, hsub2, hb1⟩
      have hbb := hb.trans (hb1.mono hb.size)
      have hsz := hb.size
      clear c1
      go_wp2_with fail
      go_roundw
      case rel => exact ⟨k + 1, A2, _, cap2, _, by omega, by go_num, rfl, (show _ = _ from Htk.out.symm), hsw2, fun x hx => (hsub2 x hx).elim (hbs x) (fun h => by omega), hbb⟩
      case measure => simp [intOf]; omega
    · have e : R.take k = R := List.take_of_length_le (by rw [Hlen.out]; omega)
      have hO' := hO.out
      rw [e] at hO'
      subst hO'
      subst hn1
      clear hO e
      go_wp2_with fail
      go_ret
      exact ⟨A1, cap1, rfl, hsw, hbs, hb⟩

set_option maxHeartbeats 1000000 in
theorem rboth (w : World) (A B : Option Addr) (n m cap cap' : Nat) (X Y : List Id32) (hx : TagsIn w A n X) (hy : TagsIn w B m Y) (hn : n ≤ 500000) (hm : m ≤ 500000) :
    Calls Tryz.prog 216 #[.slice A n cap, .slice B m cap'] w fun e w' => ∃ A' cap', e = .returned (.slice A' (sortC cmpId (X ++ Y)).length cap') ∧ IdsW w' A' (sortC cmpId (X ++ Y)).length cap' (sortC cmpId (X ++ Y)) ∧ (∀ x ∈ blk A', w.heap.size ≤ x) ∧ Below w.heap.size w w' := by
  have hlx := hx.len
  have hlen := hy.len
  have hXl := sortC_length (c := cmpId) X
  rw [hlx] at hXl
  have Hlen := Lib.hid hlen
  have Hlx := Lib.hid hlx
  clear hlen hlx
  have c0 := rset w A n cap X hx (by omega)
  go_enter Tryz.func216, Tryz.ntmps216
  go_wp2_with fail
  refine c0.mono ?_; rintro e w1 ⟨A1, cap1, rfl, hs1, hbs1, hb1⟩
  clear c0
  go_wp2_with fail
  go_loopw [5, 6] (fun out i wr => ∃ (k : Nat) (A2 : Option Addr) (n2 cap2 : Nat) (O : List Id32), k ≤ m ∧ i = .int .i64 k ∧ out = .slice A2 n2 cap2 ∧ Hid (O = sortC cmpId (X ++ Y.take k)) ∧ IdsW wr A2 n2 cap2 O ∧ (∀ x ∈ blk A2, w.heap.size ≤ x) ∧ Below w.heap.size w wr) (fun _ i _ => m - (intOf i).toNat)
  case atStart => exact ⟨0, A1, _, cap1, _, Nat.zero_le _, rfl, rfl, (show _ = _ by simp), hs1, hbs1, hb1⟩
  case round =>
    obtain ⟨k, A2, n2, cap2, O, hk, rfl, rfl, hO, hsw, hbs, hb⟩ := hrel
    have hn1 : O.length = n2 := by simpa using hsw.len
    by_cases hlt : k < m
    · obtain ⟨q, o, rfl, hr⟩ := TagsIn.get (SlR.below hy hb) hlt (by rw [Hlen.out]; exact hlt)
      have htk : sortC cmpId (X ++ Y.take (k + 1)) = insC cmpId O (Y[k]'(by rw [Hlen.out]; exact hlt)) := by
        rw [List.take_add_one, List.getElem?_eq_getElem (by rw [Hlen.out]; exact hlt), Option.toList_some, ← List.append_assoc, sortC_snoc, hO.out]
      have hol : n2 ≤ 1000000 := by have := sortC_length (c := cmpId) (X ++ Y.take k); rw [← hO.out] at this; simp at this; have := Hlen.out; have := Hlx.out; omega
      have hris : Ris cmpId O := by rw [hO.out]; exact ris_sortC totId _
      obtain ⟨d, hd⟩ : ∃ d, Y[k]'(by rw [Hlen.out]; exact hlt) = d := ⟨_, rfl⟩
      rw [hd] at hr htk
      have Htk := Lib.hid htk
      have Hol := Lib.hid hol
      have Hris := Lib.hid hris
      clear hd htk hn1 hol hris
      have c1 := rwith wr A2 n2 cap2 O d hsw Hol.out Hris.out
      go_wp2_with fail
      refine c1.mono ?_; rintro e w2 ⟨A3, cap3, rfl, hsw2, hsub2, hb2⟩
      have hbb := hb.trans (hb2.mono hb.size)
      have hsz := hb.size
      clear c1
      go_wp2_with fail
      go_roundw
      case rel => exact ⟨k + 1, A3, _, cap3, _, by omega, by go_num, rfl, (show _ = _ from Htk.out.symm), hsw2, fun x hx => (hsub2 x hx).elim (hbs x) (fun h => by omega), hbb⟩
      case measure => simp [intOf]; omega
    · have e : Y.take k = Y := List.take_of_length_le (by rw [Hlen.out]; omega)
      have hO' := hO.out
      rw [e] at hO'
      subst hO'
      subst hn1
      clear hO e
      go_wp2_with fail
      go_ret
      exact ⟨A2, cap2, rfl, hsw, hbs, hb⟩

end Go.Proofs.YtgfpjjppeldhbaaGreatDoor

/- The reference of operations (petrelref07): has, Belongs. -/
namespace Go.Proofs.YtgfpjjppeldhbaaGreatDoor
open Go.RowKit

def hasS (k : Nat) : ByteArray := if k = 1 then ⟨#[78]⟩ else if k = 2 then ⟨#[86]⟩ else if k = 3 then ⟨#[86, 83]⟩ else if k = 4 then ⟨#[75, 86, 78]⟩ else if k = 5 then ⟨#[75, 86, 83]⟩ else if k = 6 then ⟨#[82, 86]⟩ else if k = 7 then ⟨#[82]⟩ else ⟨#[]⟩
theorem rop_has (k : Nat) (w : World) (hk : k ≤ 9223372036854775807) : Calls Tryz.prog 66 #[.int .i64 k] w fun e w' => e = .returned (.string (hasS k)) ∧ w = w' := by
  by_cases h : k ≤ 7
  · have h8 : k = 0 ∨ k = 1 ∨ k = 2 ∨ k = 3 ∨ k = 4 ∨ k = 5 ∨ k = 6 ∨ k = 7 := by omega
    rcases h8 with rfl | rfl | rfl | rfl | rfl | rfl | rfl | rfl
    all_goals
      go_enter Tryz.func66, Tryz.ntmps66
      go_wp2_with fail
      go_ret
      exact ⟨rfl, rfl⟩
  · have hs : hasS k = ⟨#[]⟩ := by unfold hasS; rw [if_neg (by omega), if_neg (by omega), if_neg (by omega), if_neg (by omega), if_neg (by omega), if_neg (by omega), if_neg (by omega)]
    have Hs := Lib.hid hs
    have h1 : ((k : Int) == 1) = false := by simp; omega
    have h2 : ((k : Int) == 2) = false := by simp; omega
    have h3 : ((k : Int) == 3) = false := by simp; omega
    have h4 : ((k : Int) == 4) = false := by simp; omega
    have h5 : ((k : Int) == 5) = false := by simp; omega
    have h6 : ((k : Int) == 6) = false := by simp; omega
    have h7 : ((k : Int) == 7) = false := by simp; omega
    clear hs h
    go_enter Tryz.func66, Tryz.ntmps66
    go_wp2_with fail
    go_ret
    exact ⟨by rw [Hs.out]; rfl, rfl⟩
theorem rop_belongs (k : Nat) (w : World) (hk : k ≤ 9223372036854775807) : Calls Tryz.prog 28 #[.int .i64 k] w fun e w' => e = .returned (.int .i64 (belongs k)) ∧ w = w' := by
  have hb : belongs k = if k = 1 then 1 else if k = 2 ∨ k = 3 then 2 else if k = 4 then 3 else if k = 5 then 4 else if k = 6 ∨ k = 7 then 5 else 0 := rfl
  have Hb := Lib.hid hb
  clear hb
  go_enter Tryz.func28, Tryz.ntmps28
  go_wp2_with fail
  all_goals
    go_ret
    exact ⟨ret_int (by rw [Hb.out]; simp at *; omega), rfl⟩

end Go.Proofs.YtgfpjjppeldhbaaGreatDoor
