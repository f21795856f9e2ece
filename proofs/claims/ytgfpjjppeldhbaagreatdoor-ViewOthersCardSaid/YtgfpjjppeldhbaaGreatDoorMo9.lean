/- Part 9 of the texts that lead to this claim: the walks of the functions and the plain law, in order. -/
import Derived.Test.YtgfpjjppeldhbaaGreatDoorMo8

/- Package seq: hang. -/
namespace Go.Proofs.YtgfpjjppeldhbaaGreatDoor
open Go.RowKit

theorem kids_snoc (N : List NodeV) (n : NodeV) (r : Id32) : kids (N ++ [n]) r = if n.ref = r then insC cmpN (kids N r) n else kids N r := by
  rw [← kids_cons]; exact kids_congr (fun x => by simp [or_comm]) r
theorem mem_putL {κ ν : Type} [DecidableEq κ] {M : List (κ × ν)} {k : κ} {v : ν} {p : κ × ν} (h : p ∈ putL M k v) : p = (k, v) ∨ (p ∈ M ∧ p.1 ≠ k) := by
  unfold putL at h
  split at h
  · obtain ⟨q, hq, rfl⟩ := List.mem_map.1 h
    split
    · exact .inl rfl
    · rename_i hne; exact .inr ⟨hq, hne⟩
  · rename_i hno
    rcases List.mem_append.1 h with h | h
    · exact .inr ⟨h, fun e => hno (List.mem_map.2 ⟨p, h, e⟩)⟩
    · exact .inl (by simpa using h)
theorem keys_putL {κ ν : Type} [DecidableEq κ] {M : List (κ × ν)} {k r : κ} {v : ν} (h : r ∉ (putL M k v).map (·.1)) : r ∉ M.map (·.1) ∧ r ≠ k := by
  unfold putL at h
  split at h
  · rename_i hin
    have e : (M.map fun p => if p.1 = k then (k, v) else p).map (·.1) = M.map (·.1) := by
      rw [List.map_map]
      refine List.map_congr_left fun p _ => ?_
      simp only [Function.comp_apply]
      split
      · rename_i h; exact h.symm
      · rfl
    rw [e] at h
    exact ⟨h, fun e => h (by rw [e]; exact hin)⟩
  · rw [List.map_append, List.mem_append] at h
    exact ⟨fun h1 => h (.inl h1), fun e => h (.inr (by simp [e]))⟩
theorem zeroSlIds (w : World) : (zeroValue 50).run Tryz.prog w = .ok (.slice none 0 0) w := by kernel_rfl
theorem blook {w : World} {M : List Nat} {bb : Nat} {N : List NodeV} {BM : List (Id32 × Sl)} {es : Array MapEntry} {clk : Nat} (hb : MapAt w bb idV slV okId BM es clk)
    (hsl : ∀ p ∈ BM, SlW w p.2.A p.2.n p.2.c 32 (((kids N p.1).map NodeV.id).map idC) ∧ ∀ x ∈ blk p.2.A, x ∉ M ∧ x < w.heap.size) (hno : ∀ r, r ∉ BM.map (·.1) → kids N r = []) (r : Id32) :
    ∃ s : Sl, SlW w s.A s.n s.c 32 (((kids N r).map NodeV.id).map idC) ∧ (∀ x ∈ blk s.A, x ∉ M ∧ x < w.heap.size) ∧
      ∀ w', MapAt w' bb idV slV okId BM es clk → (Instr.lookup 189 (.map (some bb)) (.agg (idC r)) false).run Tryz.prog w' = .ok (.slice s.A s.n s.c) w' := by
  by_cases h : r ∈ BM.map (·.1)
  · obtain ⟨p, hp, rfl⟩ := List.mem_map.1 h
    exact ⟨p.2, (hsl p hp).1, (hsl p hp).2, fun w' hm => hm.hit idKey Tryz.underlying189 trivial hp false⟩
  · refine ⟨⟨none, 0, 0⟩, ?_, by simp [blk], fun w' hm => hm.miss idKey Tryz.underlying189 (zeroSlIds w') trivial h false⟩
    rw [hno r h]; exact SlW.none_
theorem nlook {w : World} {bn : Nat} {N : List NodeV} {es : Array MapEntry} {clk : Nat} (hn : MapAt w bn idV nodeVV okId (N.map fun n => (n.id, snode n)) es clk) {y : NodeV} (hy : y ∈ N) (comma : Bool) :
    (Instr.lookup 188 (.map (some bn)) (.agg (idC y.id)) comma).run Tryz.prog w = .ok (if comma then .tuple #[.agg (sNodeC (snode y)), .bool true] else .agg (sNodeC (snode y))) w :=
  hn.hit idKey Tryz.underlying188 trivial (List.mem_map.2 ⟨y, hy, rfl⟩) comma

@[go_sem ↓] theorem slIdC_rw (x : Value) (lo hi mx : Option Value) : Instr.sliceAt 50 x lo hi mx = slS 50 x lo hi mx := rfl
@[go_sem ↓] theorem bsIds3_run (w : World) (A B C : Option Addr) (n m k a b c : Nat) : (Instr.buildSlice 370 3 #[(0, .slice A n a), (1, .slice B m b), (2, .slice C k c)]).run Tryz.prog w = .ok (.slice (some ⟨w.heap.size, 0, none⟩) 3 3) (w.alloc (.cells #[.slice A n a, .slice B m b, .slice C k c] 50)) := by kernel_rfl
set_option maxRecDepth 100000 in
set_option maxHeartbeats 4000000 in
theorem sqhang (n : NodeV) (w : World) (M : List Nat) (g bn bb bg : Nat) (N : List NodeV) (G : List Id32) (h : SeqAt w M g bn bb bg N G) (hM : ∀ x ∈ M, x < w.heap.size) (hnew : n.id ∉ N.map NodeV.id) (hE : nodeE n = 0) (hl : N.length ≤ 100000) :
    Calls Tryz.prog 215 #[.pointer (some ⟨g, 0, none⟩), .agg (idC n.id), .agg (sNodeC (snode n))] w fun e w' => e = .returned (.tuple #[]) ∧ SeqAt w' M g bn bb bg (N ++ [n]) G ∧ Keep [bn, bb] w w' := by
  have hB : Below w.heap.size w ((w.alloc (.cells (idC n.id) 39)).alloc (.cells (sNodeC (snode n)) 193)) := ((Below.refl _ _).alloc (Nat.le_refl _) _).alloc (by simp) _
  have h1 := h.below hB
  have hrd : rowAt ((w.alloc (.cells (idC n.id) 39)).alloc (.cells (sNodeC (snode n)) 193)) w.heap.size 0 32 = some (idC n.id) := by simp [go_sem]
  have hrn : rowAt ((w.alloc (.cells (idC n.id) 39)).alloc (.cells (sNodeC (snode n)) 193)) (w.heap.size + 1) 0 34 = some (sNodeC (snode n)) := by simp [go_sem]
  have hltw := h.lt
  have hgw := h.ltg
  go_enter Tryz.func215, Tryz.ntmps215
  go_upto_region 1 with fail
  obtain ⟨ga, hga⟩ : ∃ ga, w.heap.size = ga := ⟨_, rfl⟩
  have Hga := Lib.hid hga
  rw [hga] at hrd hrn hB hltw hgw hM ⊢
  obtain ⟨W, hW⟩ : ∃ W, W = (w.alloc (.cells (idC n.id) 39)).alloc (.cells (sNodeC (snode n)) 193) := ⟨_, rfl⟩
  rw [← hW] at h1 hrd hrn hB ⊢
  clear hW hga
  have hrr : rowAt W (ga + 1) 1 32 = some (idC n.ref) := by have := rowAt_sub hrn (j := 1) (m := 32) (by omega); rw [sNodeC_e1] at this; simpa [snode] using this
  have hch : W.cell? ⟨ga + 1, 0, none⟩ = some (.int .i64 n.h) := by have := rowAt_cell hrn (j := 0) (by omega); rw [sNodeC_g0] at this; simpa [snode] using this
  obtain ⟨es, clk, hn⟩ := h1.nodes
  obtain ⟨BM, es', clk', hb, hsl, hno⟩ := h1.behind
  obtain ⟨⟨A, sn, sc⟩, hsw, hsM, hlook⟩ := blook hb hsl hno n.ref
  dsimp only at hsw hsM hlook
  have hKN : ∀ y ∈ kids N n.ref, y ∈ N := fun y hy => (mem_kids.1 hy).1
  have hKl := kids_length N n.ref
  have hKn : n ∉ kids N n.ref := fun hm => hnew (List.mem_map.2 ⟨n, hKN n hm, rfl⟩)
  have hc1 := h1.cell1
  have hk : ∀ x : Subtype (Bel W), (Instr.lookup 189 (.map (some bb)) (.agg (idC n.ref)) false).run Tryz.prog x.1 = .ok (.slice A sn sc) x.1 := fun x => hlook x.1 (hb.kept (Keep.of_below x.2) (by simp))
  refine wp_region_lex (Bel W) false (by kernel_rfl) (by kernel_rfl) (by kernel_rfl) (bel_drew W) ?_
  have hne := bel_some W
  have hS := bel_drew W
  have b1 := sub_cell hc1; have b2 := sub_row hrr
  repeat (refine wpLx_loose ?_ ?_; (focus (simp only [chainOp]; done)); intro K hK; go_simp; refine hK _ ?_; clear hK K)
  refine wpLx_nil ?_
  intro hS
  have hB1 : Below ga w W.drew := hB.drew
  have h2 : SeqAt W.drew M g bn bb bg N G := h1.below (bel_drew W)
  have hn2 := hn.kept (Keep.drew W) (by simp)
  have hsw2 := hsw.below (bel_drew W)
  have hrd2 : rowAt W.drew ga 0 32 = some (idC n.id) := hrd
  have hrn2 : rowAt W.drew (ga + 1) 0 34 = some (sNodeC (snode n)) := hrn
  have hrr2 : rowAt W.drew (ga + 1) 1 32 = some (idC n.ref) := hrr
  have hch2 : W.drew.cell? ⟨ga + 1, 0, none⟩ = some (.int .i64 n.h) := hch
  clear b1 b2 hne hS hk hlook hc1 hb hsl hno hn hsw hrd hrn hrr hch h1 hB
  have hlen : (kids N n.ref).length = sn := by have := hsw2.len; simpa using this
  obtain ⟨K, hK⟩ : ∃ K, kids N n.ref = K := ⟨_, rfl⟩
  rw [hK] at hsw2 hKN hKl hKn hlen
  have HK := Lib.hid hK
  have Hlen := Lib.hid hlen
  have hsnl : sn ≤ 100000 := by omega
  clear hK hlen hKl
  obtain ⟨W1, hW1⟩ : ∃ W1, W.drew = W1 := ⟨_, rfl⟩
  rw [hW1] at hB1 h2 hn2 hsw2 hrd2 hrn2 hrr2 hch2 ⊢
  have hW1s : W1.heap.size = W.heap.size := by rw [← hW1]; rfl
  rw [← hW1s] at hsM
  clear hW1 hW1s
  go_wp2_with fail
  go_loopw [7] (fun j wj => ∃ m : Nat, m ≤ sn ∧ j = .int .i64 m ∧ Hid (∀ i (hi : i < K.length), i < m → cmpN K[i] n < 0) ∧ Below W1.heap.size W1 wj) (fun j _ => sn - (intOf j).toNat)
  case atStart => exact ⟨0, Nat.zero_le _, rfl, (show ∀ i (hi : i < K.length), i < 0 → _ from fun i _ h => absurd h (by omega)), Below.refl _ _⟩
  case round =>
    obtain ⟨m, hmO, rfl, hlow, hbj⟩ := hrel
    have hrdj : rowAt wr ga 0 32 = some (idC n.id) := (rowAt_of_block (hbj.block ga (rowAt_lt hrd2)) _ _).trans hrd2
    have hchj : wr.cell? ⟨ga + 1, 0, none⟩ = some (.int .i64 n.h) := (hbj.cell (p := ⟨ga + 1, 0, none⟩) (rowAt_lt hrn2)).trans hch2
    have hsj := h2.below hbj
    have hswj := hsw2.below hbj
    by_cases hmlt : m < sn
    · obtain ⟨q, o, rfl, hrO⟩ := hswj.rd.at_ hmlt
      rw [List.getElem_map, List.getElem_map] at hrO
      have hmem : K[m]'(by rw [Hlen.out]; exact hmlt) ∈ K := List.getElem_mem _
      obtain ⟨y, hy⟩ : ∃ y, K[m]'(by rw [Hlen.out]; exact hmlt) = y := ⟨_, rfl⟩
      rw [hy] at hrO hmem
      have hyN := hKN y hmem
      have hne' : n.id ≠ y.id := fun e => hnew (List.mem_map.2 ⟨y, hyN, e.symm⟩)
      have hca := cmpN_ahead (a := n) (b := y) hne'
      have hk2 : ∀ x : Subtype (Bel wr), (Instr.lookup 188 (.map (some bn)) (.agg (idC y.id)) false).run Tryz.prog x.1 = .ok (.agg (sNodeC ⟨y.h, y.ref, y.val⟩)) x.1 := fun x => nlook ((hn2.kept (Keep.of_below hbj) (by simp)).kept (Keep.of_below x.2) (by simp)) hyN false
      have hc0 := hsj.cell0
      have c2 := hahead n.h n.id y.h y.id wr.drew
      obtain ⟨c, hc⟩ : ∃ c, aheadB n.h n.id y.h y.id = c := ⟨_, rfl⟩
      rw [hc] at c2 hca
      have Hy := Lib.hid hy
      have Hca := Lib.hid hca
      have Hmem := Lib.hid hmem
      clear hc hy hca hmem hne'
      go_upto_region 3 with fail
      refine wp_region_lex (Bel wr) false (by kernel_rfl) (by kernel_rfl) (by kernel_rfl) (bel_drew wr) ?_
      have hne := bel_some wr
      have hS := bel_drew wr
      have b1 := sub_row hrdj; have b2 := sub_row hrO; have b3 := sub_cell hchj; have b4 := sub_cell hc0
      repeat (refine wpLx_loose ?_ ?_; (focus (simp only [chainOp]; done)); intro K hK; go_simp; refine hK _ ?_; clear hK K)
      refine wpLx_chain ?_ ?_ ?_
      focus (exact hS)
      focus (simp only [chainOp]; done)
      intro K hK
      go_simp
      refine (c2).mono ?_
      rintro e w' ⟨rfl, hb⟩
      replace hS := bel_next hS hb
      refine ⟨_, rfl, hS, hK _ _ ?_⟩
      clear hK K hb
      repeat (refine wpLx_loose ?_ ?_; (focus (simp only [chainOp]; done)); intro K hK; go_simp; refine hK _ ?_; clear hK K)
      refine wpLx_nil ?_
      intro hS
      have hS' : Below wr.heap.size wr w' := hS
      have hbz := bel2 hbj hS'
      clear b1 b2 b3 b4 hne hS c2 hk2 hc0
      cases c with
      | true =>
        go_wp2_with fail
        go_roundw
        case rel =>
          refine ⟨m + 1, by omega, by go_num, (show ∀ i (hi : i < K.length), i < m + 1 → cmpN K[i] n < 0 from fun i hi hlt => ?_), hbz⟩
          by_cases e : i = m
          · subst e; rw [Hy.out]; exact of_decide_eq_true Hca.out
          · exact hlow.out i hi (by omega)
        case measure => simp [intOf]; omega
      | false =>
        have hat := insC_at (c := cmpN) K n m (by rw [Hlen.out]; exact hmO) hlow.out (fun hk' => by
          rw [Hy.out]
          have h1 : ¬ cmpN y n < 0 := of_decide_eq_false Hca.out
          have h2 : cmpN y n ≠ 0 := fun e => hKn (by rw [← (totN.zero _ _).1 e]; exact Hmem.out)
          omega)
        have Hat := Lib.hid hat
        have hsq := h2.below hbz
        have hswz := hsw2.below hbz
        have hrdz : rowAt w' ga 0 32 = some (idC n.id) := (rowAt_of_block (hbz.block ga (rowAt_lt hrd2)) _ _).trans hrd2
        have hrnz : rowAt w' (ga + 1) 0 34 = some (sNodeC (snode n)) := (rowAt_of_block (hbz.block (ga + 1) (rowAt_lt hrn2)) _ _).trans hrn2
        have hBz : Below ga w w' := hB1.trans (hbz.mono (by have := rowAt_lt hrd2; omega))
        have hszz := hbz.size
        clear hat hrO hrdj hchj hsj hswj hbj hbz hS'
        obtain ⟨V, rfl⟩ : ∃ V, V = w' := ⟨w', rfl⟩
        obtain ⟨A, hA1⟩ : ∃ A, (some ⟨q, o, none⟩ : Option Addr) = A := ⟨_, rfl⟩
        rw [hA1] at hswz hsM ⊢
        clear hA1
        have hrrz : rowAt V (ga + 1) 1 32 = some (idC n.ref) := by have := rowAt_sub hrnz (j := 1) (m := 32) (by omega); rw [sNodeC_e1] at this; simpa [snode] using this
        have hc1 := hsq.cell1
        have hmc : m ≤ sc := Nat.le_trans hmO hswz.le
        have hmx : ∀ w0 : World, (slS 50 (.slice A sn sc) none (some (.int .i64 m)) (some (.int .i64 m))).run Tryz.prog w0 = .ok (.slice A m m) w0 := fun w0 => run_slS_max einfoId w0 A sn sc m hmc
        obtain ⟨Ah, ch, hhi, hhs, hhf⟩ := hswz.hi (P := Tryz.prog) einfoId (m := m) hmO
        have hgbb : g ∉ [bb] := by simpa using hsq.neg.2.1
        go_upto_region 5 with fail
        refine wp_region_lex (Kp [bb] V) false (by kernel_rfl) (by kernel_rfl) (by kernel_rfl) (kp_drew [bb] V) ?_
        have hne := kp_some [bb] V
        have hS := kp_drew [bb] V
        have b1 := ksub_cell hc1 hgbb
        have b2 := ksub_row hrdz (S := [bb]) (by simp; omega)
        have b3 := ksub_row hrrz (S := [bb]) (by simp; omega)
        repeat (refine wpLx_loose ?_ ?_; (focus (simp only [chainOp]; done)); intro K hK; go_simp; refine hK _ ?_; clear hK K)
        refine wpLx_chain ?_ ?_ ?_
        focus (exact hS)
        focus (simp only [chainOp]; done)
        intro K hK
        go_simp
        refine step_keep (kp_alloc hS _) (fun hS => ?_)
        refine hK _ _ ?_
        clear hK K
        repeat (refine wpLx_loose ?_ ?_; (focus (simp only [chainOp]; done)); intro K hK; go_simp; refine hK _ ?_; clear hK K)
        refine wpLx_chain ?_ ?_ ?_
        focus (exact hS)
        focus (simp only [chainOp]; done)
        intro K hK
        go_simp
        refine step_keep (kp_alloc hS _) (fun hS => ?_)
        refine hK _ _ ?_
        clear hK K
        have hbX : Below V.heap.size V ((V.alloc (.cells (idC n.id) 39)).alloc (.cells #[.slice A m m, .slice (some ⟨V.heap.size, 0, none⟩) 1 1, .slice Ah (sn - m) ch] 50)).drew := (((Below.refl _ _).alloc (Nat.le_refl _) _).alloc (by simp) _).drew
        have t1 : TagsIn ((V.alloc (.cells (idC n.id) 39)).alloc (.cells #[.slice A m m, .slice (some ⟨V.heap.size, 0, none⟩) 1 1, .slice Ah (sn - m) ch] 50)).drew A m ((K.map NodeV.id).take m) := by
          have := (hswz.rd.below hbX).take_ hmO
          rwa [← List.map_take] at this
        have t3 : TagsIn ((V.alloc (.cells (idC n.id) 39)).alloc (.cells #[.slice A m m, .slice (some ⟨V.heap.size, 0, none⟩) 1 1, .slice Ah (sn - m) ch] 50)).drew Ah (sn - m) ((K.map NodeV.id).drop m) := by
          have := hhs _ (hswz.rd.below hbX)
          rwa [← List.map_drop] at this
        have t2 : TagsIn ((V.alloc (.cells (idC n.id) 39)).alloc (.cells #[.slice A m m, .slice (some ⟨V.heap.size, 0, none⟩) 1 1, .slice Ah (sn - m) ch] 50)).drew (some ⟨V.heap.size, 0, none⟩) 1 [n.id] := ⟨rfl, fun _ => ⟨V.heap.size, 0, rfl, fun i hi => by
          have : i = 0 := by simpa using hi
          subst this
          simp [go_sem]⟩⟩
        have k0 : ((V.alloc (.cells (idC n.id) 39)).alloc (.cells #[.slice A m m, .slice (some ⟨V.heap.size, 0, none⟩) 1 1, .slice Ah (sn - m) ch] 50)).drew.cell? ⟨V.heap.size + 1, 0, none⟩ = some (.slice A m m) := by simp [go_sem]
        have k1 : ((V.alloc (.cells (idC n.id) 39)).alloc (.cells #[.slice A m m, .slice (some ⟨V.heap.size, 0, none⟩) 1 1, .slice Ah (sn - m) ch] 50)).drew.cell? ⟨V.heap.size + 1, 1, none⟩ = some (.slice (some ⟨V.heap.size, 0, none⟩) 1 1) := by simp [go_sem]
        have k2 : ((V.alloc (.cells (idC n.id) 39)).alloc (.cells #[.slice A m m, .slice (some ⟨V.heap.size, 0, none⟩) 1 1, .slice Ah (sn - m) ch] 50)).drew.cell? ⟨V.heap.size + 1, 2, none⟩ = some (.slice Ah (sn - m) ch) := by simp [go_sem]
        have hXs : ((V.alloc (.cells (idC n.id) 39)).alloc (.cells #[.slice A m m, .slice (some ⟨V.heap.size, 0, none⟩) 1 1, .slice Ah (sn - m) ch] 50)).drew.heap.size = V.heap.size + 2 := by simp [World.drew]
        have hsV := hBz.size
        have hgaV := rowAt_lt hrdz
        obtain ⟨X, hX⟩ : ∃ X, ((V.alloc (.cells (idC n.id) 39)).alloc (.cells #[.slice A m m, .slice (some ⟨V.heap.size, 0, none⟩) 1 1, .slice Ah (sn - m) ch] 50)).drew = X := ⟨_, rfl⟩
        rw [hX] at hbX t1 t2 t3 k0 k1 k2 hXs hS ⊢
        clear hX
        have cc := concat3 X (V.heap.size + 1) 3 A (some ⟨V.heap.size, 0, none⟩) Ah m 1 (sn - m) m 1 ch _ _ _ t1 t2 t3 (fun e => by have := hswz.nil e; omega) (fun e => by cases e) hhf k0 k1 k2 (by omega) (by omega)
        repeat (refine wpLx_loose ?_ ?_; (focus (simp only [chainOp]; done)); intro K hK; go_simp; refine hK _ ?_; clear hK K)
        refine wpLx_chain ?_ ?_ ?_
        focus (exact hS)
        focus (simp only [chainOp]; done)
        intro K hK
        go_simp
        refine cc.mono ?_
        rintro e wC ⟨A5, cap5, rfl, hown5, hb5⟩
        replace hS := kp_below hS hb5
        refine ⟨_, rfl, hS, hK _ _ ?_⟩
        clear hK K cc k0 k1 k2 t1 t2 t3
        have hSC : Keep [bb] V wC := hS
        obtain ⟨BM2, es2, clk2, hb2, hsl2, hno2⟩ := hsq.behind
        have hVC := bel2 hbX hb5
        have hbC := hb2.kept (Keep.of_below hVC) (by simp)
        have hL5 : ((K.map NodeV.id).take m ++ [n.id] ++ (K.map NodeV.id).drop m) = (insC cmpN K n).map NodeV.id := by rw [Hat.out]; simp [List.map_take, List.map_drop]
        rw [hL5] at hown5
        have hslC := hown5.slw
        have hblC : ∀ x ∈ blk A5, x ∉ M ∧ x < wC.heap.size := fun x hx => by
          obtain ⟨h1, h2⟩ := hown5.at_base hx
          exact ⟨fun hm => by have := hM x hm; omega, h2⟩
        obtain ⟨wD, esD, clkD, hrun, hmD, hkD⟩ := hbC.update (P := Tryz.prog) (v := (⟨A5, m + 1 + (sn - m), cap5⟩ : Sl)) idKey Tryz.underlying189 (k := n.ref) trivial
        change (Instr.mapUpdate 189 (.map (some bb)) (.agg (idC n.ref)) (.slice A5 (m + 1 + (sn - m)) cap5)).run Tryz.prog wC = .ok () wD at hrun
        refine wpLx_chain ?_ ?_ ?_
        focus (exact hS)
        focus (simp only [chainOp]; done)
        intro K hK
        go_simp
        refine step_keep (kp_next hS hkD (by simp)) (fun hS => ?_)
        refine hK _ _ ?_
        clear hK K
        refine wpLx_nil ?_
        intro hS
        have hSD : Keep [bb] V wD := hS
        have hblkD := (hSD.block g hsq.ltg hgbb).trans hsq.blk
        have hbnb : bn ∉ [bb] := by simpa using hsq.ne.1
        have hbgb : bg ∉ [bb] := by simpa using fun e => hsq.ne.2.2 e.symm
        obtain ⟨esN, clkN, hnV⟩ := hsq.nodes
        have hnD := hnV.kept hSD hbnb
        have hgD := hsq.gone.kept hSD hbgb
        have hslD : SlW wD A5 (m + 1 + (sn - m)) cap5 32 (((insC cmpN K n).map NodeV.id).map idC) := hslC.kept hkD (fun x hx hm => by
          have e : x = bb := by simpa using hm
          subst e
          exact (hblC _ hx).1 hsq.inM.2.1)
        have hrdD : rowAt wD ga 0 32 = some (idC n.id) := (hSD.row hgaV (by simp; omega) _ _).trans hrdz
        have hrnD : rowAt wD (ga + 1) 0 34 = some (sNodeC (snode n)) := (hSD.row (rowAt_lt hrnz) (by simp; omega) _ _).trans hrnz
        have hc0D : wD.cell? ⟨g, 0, none⟩ = some (.map (some bn)) := by rw [cell_of_row wD g 0 _ _ _ hblkD]; rfl
        have hsDs := hSD.size
        clear b1 b2 b3 hne hS hrun hbC hnV hslC hb5 hbX hVC hmx hhi hhs hrrz hc1
        go_upto_region 6 with fail
        obtain ⟨wE, esE, clkE, hrun, hmE, hkE⟩ := (hnD.kept (Keep.drew wD) (by simp)).update (P := Tryz.prog) (v := snode n) idKey Tryz.underlying188 (k := n.id) trivial
        change (Instr.mapUpdate 188 (.map (some bn)) (.agg (idC n.id)) (.agg (sNodeC (snode n)))).run Tryz.prog wD.drew = .ok () wE at hrun
        have hgbn : g ∉ [bn] := by simpa using hsq.neg.1
        refine wp_region_lex (Kp [bn] wD) false (by kernel_rfl) (by kernel_rfl) (by kernel_rfl) (kp_drew [bn] wD) ?_
        have hne := kp_some [bn] wD
        have hS := kp_drew [bn] wD
        have b1 := ksub_cell hc0D hgbn
        have b2 := ksub_row hrdD (S := [bn]) (by simp; omega)
        have b3 := ksub_row hrnD (S := [bn]) (by simp; omega)
        repeat (refine wpLx_loose ?_ ?_; (focus (simp only [chainOp]; done)); intro K hK; go_simp; refine hK _ ?_; clear hK K)
        refine wpLx_chain ?_ ?_ ?_
        focus (exact hS)
        focus (simp only [chainOp]; done)
        intro K hK
        go_simp
        refine step_keep (kp_next hS hkE (by simp)) (fun hS => ?_)
        refine hK _ _ ?_
        clear hK K
        refine wpLx_nil ?_
        intro hS
        have hSE : Keep [bn] wD wE := hS
        have hput : putL (N.map fun n => (n.id, snode n)) n.id (snode n) = (N ++ [n]).map fun n => (n.id, snode n) := by
          unfold putL
          rw [if_neg (by rw [List.map_map]; exact hnew), List.map_append]; rfl
        rw [hput] at hmE
        have hbnE : bb ∉ [bn] := by simpa using fun e => hsq.ne.1 e.symm
        have hbgE : bg ∉ [bn] := by simpa using fun e => hsq.ne.2.1 e.symm
        have hfin : SeqAt wE M g bn bb bg (N ++ [n]) G := by
          refine ⟨(hSE.block g (by have := hsq.ltg; omega) hgbn).trans hblkD, ⟨esE, clkE, hmE⟩, ⟨_, esD, clkD, hmD.kept hSE hbnE, fun p hp => ?_, fun r hr => ?_⟩, hgD.kept hSE hbgE, hsq.inM, hsq.ne, ?_, ?_⟩
          · rcases mem_putL hp with e | ⟨hp, hne⟩
            · subst e
              dsimp only
              have hki : kids (N ++ [n]) n.ref = insC cmpN (kids N n.ref) n := by rw [kids_snoc, if_pos rfl]
              rw [hki, HK.out]
              exact ⟨hslD.kept hSE (fun x hx hm => by
                have e : x = bn := by simpa using hm
                subst e
                exact (hblC _ hx).1 hsq.inM.1), fun x hx => ⟨(hblC x hx).1, Nat.lt_of_lt_of_le (hblC x hx).2 (Nat.le_trans hkD.size hSE.size)⟩⟩
            · obtain ⟨s1, s2⟩ := hsl2 p hp
              rw [kids_snoc, if_neg (fun e => hne e.symm)]
              refine ⟨(s1.kept hSD (fun x hx hm => ?_)).kept hSE (fun x hx hm => ?_), fun x hx => ⟨(s2 x hx).1, Nat.lt_of_lt_of_le (s2 x hx).2 (Nat.le_trans hSD.size hSE.size)⟩⟩
              · have e : x = bb := by simpa using hm
                subst e
                exact (s2 _ hx).1 hsq.inM.2.1
              · have e : x = bn := by simpa using hm
                subst e
                exact (s2 _ hx).1 hsq.inM.1
          · obtain ⟨h1, h2⟩ := keys_putL hr
            rw [kids_snoc, if_neg (fun e => h2 e.symm)]
            exact hno2 r h1
          · intro a ha b hb' e
            rcases List.mem_append.1 ha with ha1 | ha1 <;> rcases List.mem_append.1 hb' with hb1 | hb1
            · exact hsq.one a ha1 b hb1 e
            · have e2 : b = n := by simpa using hb1
              rw [e2] at e
              exact absurd (List.mem_map.2 ⟨a, ha1, e⟩) hnew
            · have e2 : a = n := by simpa using ha1
              rw [e2] at e
              exact absurd (List.mem_map.2 ⟨b, hb1, e.symm⟩) hnew
            · have e1 : a = n := by simpa using ha1
              have e2 : b = n := by simpa using hb1
              rw [e1, e2]
          · intro x hx
            rcases List.mem_append.1 hx with hx | hx
            · exact hsq.ok x hx
            · have e : x = n := by simpa using hx
              rw [e]; exact hE
        have hkf : Keep [bn, bb] w wE := Keep.trans (Keep.trans ((Keep.of_below (hBz.mono (by rw [Hga.out]; exact Nat.le_refl _))).mono (S' := [bn, bb]) (by simp)) (hSD.mono (S' := [bn, bb]) (by simp)) (fun x hx => .inl hx)) (hSE.mono (S' := [bn, bb]) (by simp)) (fun x hx => .inl hx)
        clear b1 b2 b3 hne hS hkE hkD hrun hmE hmD hnD hgD hslD hrdD hrnD hc0D hblkD hsl2 hno2 hSE hSD hsq hput
        go_wp2_with fail
        go_end0
        exact ⟨rfl, hfin, hkf⟩
    · have hd : decide (m < sn) = false := by simpa using hmlt
      have hat := insC_at (c := cmpN) K n m (by rw [Hlen.out]; exact hmO) hlow.out (fun hk' => absurd (by rw [← Hlen.out]; exact hk') hmlt)
      have Hat := Lib.hid hat
      clear hat
      go_upto_region 3 with fail
      refine wp_region_lex (Bel wr) false (by kernel_rfl) (by kernel_rfl) (by kernel_rfl) (bel_drew wr) ?_
      have hne := bel_some wr
      have hS := bel_drew wr
      repeat (refine wpLx_loose ?_ ?_; (focus (simp only [chainOp]; done)); intro K hK; go_simp; refine hK _ ?_; clear hK K)
      refine wpLx_chain ?_ ?_ ?_
      focus (exact hS)
      focus (simp only [chainOp]; done)
      intro K hK
      go_simp
      refine hK _ _ ?_
      clear hK K
      repeat (refine wpLx_loose ?_ ?_; (focus (simp only [chainOp]; done)); intro K hK; go_simp; refine hK _ ?_; clear hK K)
      refine wpLx_nil ?_
      intro hS
      have hbz := hbj.drew
      have hsq := h2.below hbz
      have hswz := hsw2.below hbz
      have hrdz : rowAt wr.drew ga 0 32 = some (idC n.id) := hrdj
      have hrnz : rowAt wr.drew (ga + 1) 0 34 = some (sNodeC (snode n)) := (rowAt_of_block (hbz.block (ga + 1) (rowAt_lt hrn2)) _ _).trans hrn2
      have hBz : Below ga w wr.drew := hB1.trans (hbz.mono (by have := rowAt_lt hrd2; omega))
      have hszz := hbz.size
      clear hne hS hbz hbj hmlt hd hsj hswj hchj hrdj
      obtain ⟨V, hV⟩ : ∃ V, wr.drew = V := ⟨_, rfl⟩
      rw [hV] at hsq hswz hrdz hrnz hBz hszz ⊢
      clear hV
      have hrrz : rowAt V (ga + 1) 1 32 = some (idC n.ref) := by have := rowAt_sub hrnz (j := 1) (m := 32) (by omega); rw [sNodeC_e1] at this; simpa [snode] using this
      have hc1 := hsq.cell1
      have hmc : m ≤ sc := Nat.le_trans hmO hswz.le
      have hmx : ∀ w0 : World, (slS 50 (.slice A sn sc) none (some (.int .i64 m)) (some (.int .i64 m))).run Tryz.prog w0 = .ok (.slice A m m) w0 := fun w0 => run_slS_max einfoId w0 A sn sc m hmc
      obtain ⟨Ah, ch, hhi, hhs, hhf⟩ := hswz.hi (P := Tryz.prog) einfoId (m := m) hmO
      have hgbb : g ∉ [bb] := by simpa using hsq.neg.2.1
      go_upto_region 5 with fail
      refine wp_region_lex (Kp [bb] V) false (by kernel_rfl) (by kernel_rfl) (by kernel_rfl) (kp_drew [bb] V) ?_
      have hne := kp_some [bb] V
      have hS := kp_drew [bb] V
      have b1 := ksub_cell hc1 hgbb
      have b2 := ksub_row hrdz (S := [bb]) (by simp; omega)
      have b3 := ksub_row hrrz (S := [bb]) (by simp; omega)
      repeat (refine wpLx_loose ?_ ?_; (focus (simp only [chainOp]; done)); intro K hK; go_simp; refine hK _ ?_; clear hK K)
      refine wpLx_chain ?_ ?_ ?_
      focus (exact hS)
      focus (simp only [chainOp]; done)
      intro K hK
      go_simp
      refine step_keep (kp_alloc hS _) (fun hS => ?_)
      refine hK _ _ ?_
      clear hK K
      repeat (refine wpLx_loose ?_ ?_; (focus (simp only [chainOp]; done)); intro K hK; go_simp; refine hK _ ?_; clear hK K)
      refine wpLx_chain ?_ ?_ ?_
      focus (exact hS)
      focus (simp only [chainOp]; done)
      intro K hK
      go_simp
      refine step_keep (kp_alloc hS _) (fun hS => ?_)
      refine hK _ _ ?_
      clear hK K
      have hbX : Below V.heap.size V ((V.alloc (.cells (idC n.id) 39)).alloc (.cells #[.slice A m m, .slice (some ⟨V.heap.size, 0, none⟩) 1 1, .slice Ah (sn - m) ch] 50)).drew := (((Below.refl _ _).alloc (Nat.le_refl _) _).alloc (by simp) _).drew
      have t1 : TagsIn ((V.alloc (.cells (idC n.id) 39)).alloc (.cells #[.slice A m m, .slice (some ⟨V.heap.size, 0, none⟩) 1 1, .slice Ah (sn - m) ch] 50)).drew A m ((K.map NodeV.id).take m) := by
        have := (hswz.rd.below hbX).take_ hmO
        rwa [← List.map_take] at this
      have t3 : TagsIn ((V.alloc (.cells (idC n.id) 39)).alloc (.cells #[.slice A m m, .slice (some ⟨V.heap.size, 0, none⟩) 1 1, .slice Ah (sn - m) ch] 50)).drew Ah (sn - m) ((K.map NodeV.id).drop m) := by
        have := hhs _ (hswz.rd.below hbX)
        rwa [← List.map_drop] at this
      have t2 : TagsIn ((V.alloc (.cells (idC n.id) 39)).alloc (.cells #[.slice A m m, .slice (some ⟨V.heap.size, 0, none⟩) 1 1, .slice Ah (sn - m) ch] 50)).drew (some ⟨V.heap.size, 0, none⟩) 1 [n.id] := ⟨rfl, fun _ => ⟨V.heap.size, 0, rfl, fun i hi => by
        have : i = 0 := by simpa using hi
        subst this
        simp [go_sem]⟩⟩
      have k0 : ((V.alloc (.cells (idC n.id) 39)).alloc (.cells #[.slice A m m, .slice (some ⟨V.heap.size, 0, none⟩) 1 1, .slice Ah (sn - m) ch] 50)).drew.cell? ⟨V.heap.size + 1, 0, none⟩ = some (.slice A m m) := by simp [go_sem]
      have k1 : ((V.alloc (.cells (idC n.id) 39)).alloc (.cells #[.slice A m m, .slice (some ⟨V.heap.size, 0, none⟩) 1 1, .slice Ah (sn - m) ch] 50)).drew.cell? ⟨V.heap.size + 1, 1, none⟩ = some (.slice (some ⟨V.heap.size, 0, none⟩) 1 1) := by simp [go_sem]
      have k2 : ((V.alloc (.cells (idC n.id) 39)).alloc (.cells #[.slice A m m, .slice (some ⟨V.heap.size, 0, none⟩) 1 1, .slice Ah (sn - m) ch] 50)).drew.cell? ⟨V.heap.size + 1, 2, none⟩ = some (.slice Ah (sn - m) ch) := by simp [go_sem]
      have hXs : ((V.alloc (.cells (idC n.id) 39)).alloc (.cells #[.slice A m m, .slice (some ⟨V.heap.size, 0, none⟩) 1 1, .slice Ah (sn - m) ch] 50)).drew.heap.size = V.heap.size + 2 := by simp [World.drew]
      have hsV := hBz.size
      have hgaV := rowAt_lt hrdz
      obtain ⟨X, hX⟩ : ∃ X, ((V.alloc (.cells (idC n.id) 39)).alloc (.cells #[.slice A m m, .slice (some ⟨V.heap.size, 0, none⟩) 1 1, .slice Ah (sn - m) ch] 50)).drew = X := ⟨_, rfl⟩
      rw [hX] at hbX t1 t2 t3 k0 k1 k2 hXs hS ⊢
      clear hX
      have cc := concat3 X (V.heap.size + 1) 3 A (some ⟨V.heap.size, 0, none⟩) Ah m 1 (sn - m) m 1 ch _ _ _ t1 t2 t3 (fun e => by have := hswz.nil e; omega) (fun e => by cases e) hhf k0 k1 k2 (by omega) (by omega)
      repeat (refine wpLx_loose ?_ ?_; (focus (simp only [chainOp]; done)); intro K hK; go_simp; refine hK _ ?_; clear hK K)
      refine wpLx_chain ?_ ?_ ?_
      focus (exact hS)
      focus (simp only [chainOp]; done)
      intro K hK
      go_simp
      refine cc.mono ?_
      rintro e wC ⟨A5, cap5, rfl, hown5, hb5⟩
      replace hS := kp_below hS hb5
      refine ⟨_, rfl, hS, hK _ _ ?_⟩
      clear hK K cc k0 k1 k2 t1 t2 t3
      have hSC : Keep [bb] V wC := hS
      obtain ⟨BM2, es2, clk2, hb2, hsl2, hno2⟩ := hsq.behind
      have hVC := bel2 hbX hb5
      have hbC := hb2.kept (Keep.of_below hVC) (by simp)
      have hL5 : ((K.map NodeV.id).take m ++ [n.id] ++ (K.map NodeV.id).drop m) = (insC cmpN K n).map NodeV.id := by rw [Hat.out]; simp [List.map_take, List.map_drop]
      rw [hL5] at hown5
      have hslC := hown5.slw
      have hblC : ∀ x ∈ blk A5, x ∉ M ∧ x < wC.heap.size := fun x hx => by
        obtain ⟨h1, h2⟩ := hown5.at_base hx
        exact ⟨fun hm => by have := hM x hm; omega, h2⟩
      obtain ⟨wD, esD, clkD, hrun, hmD, hkD⟩ := hbC.update (P := Tryz.prog) (v := (⟨A5, m + 1 + (sn - m), cap5⟩ : Sl)) idKey Tryz.underlying189 (k := n.ref) trivial
      change (Instr.mapUpdate 189 (.map (some bb)) (.agg (idC n.ref)) (.slice A5 (m + 1 + (sn - m)) cap5)).run Tryz.prog wC = .ok () wD at hrun
      refine wpLx_chain ?_ ?_ ?_
      focus (exact hS)
      focus (simp only [chainOp]; done)
      intro K hK
      go_simp
      refine step_keep (kp_next hS hkD (by simp)) (fun hS => ?_)
      refine hK _ _ ?_
      clear hK K
      refine wpLx_nil ?_
      intro hS
      have hSD : Keep [bb] V wD := hS
      have hblkD := (hSD.block g hsq.ltg hgbb).trans hsq.blk
      have hbnb : bn ∉ [bb] := by simpa using hsq.ne.1
      have hbgb : bg ∉ [bb] := by simpa using fun e => hsq.ne.2.2 e.symm
      obtain ⟨esN, clkN, hnV⟩ := hsq.nodes
      have hnD := hnV.kept hSD hbnb
      have hgD := hsq.gone.kept hSD hbgb
      have hslD : SlW wD A5 (m + 1 + (sn - m)) cap5 32 (((insC cmpN K n).map NodeV.id).map idC) := hslC.kept hkD (fun x hx hm => by
        have e : x = bb := by simpa using hm
        subst e
        exact (hblC _ hx).1 hsq.inM.2.1)
      have hrdD : rowAt wD ga 0 32 = some (idC n.id) := (hSD.row hgaV (by simp; omega) _ _).trans hrdz
      have hrnD : rowAt wD (ga + 1) 0 34 = some (sNodeC (snode n)) := (hSD.row (rowAt_lt hrnz) (by simp; omega) _ _).trans hrnz
      have hc0D : wD.cell? ⟨g, 0, none⟩ = some (.map (some bn)) := by rw [cell_of_row wD g 0 _ _ _ hblkD]; rfl
      have hsDs := hSD.size
      clear b1 b2 b3 hne hS hrun hbC hnV hslC hb5 hbX hVC hmx hhi hhs hrrz hc1
      go_upto_region 6 with fail
      obtain ⟨wE, esE, clkE, hrun, hmE, hkE⟩ := (hnD.kept (Keep.drew wD) (by simp)).update (P := Tryz.prog) (v := snode n) idKey Tryz.underlying188 (k := n.id) trivial
      change (Instr.mapUpdate 188 (.map (some bn)) (.agg (idC n.id)) (.agg (sNodeC (snode n)))).run Tryz.prog wD.drew = .ok () wE at hrun
      have hgbn : g ∉ [bn] := by simpa using hsq.neg.1
      refine wp_region_lex (Kp [bn] wD) false (by kernel_rfl) (by kernel_rfl) (by kernel_rfl) (kp_drew [bn] wD) ?_
      have hne := kp_some [bn] wD
      have hS := kp_drew [bn] wD
      have b1 := ksub_cell hc0D hgbn
      have b2 := ksub_row hrdD (S := [bn]) (by simp; omega)
      have b3 := ksub_row hrnD (S := [bn]) (by simp; omega)
      repeat (refine wpLx_loose ?_ ?_; (focus (simp only [chainOp]; done)); intro K hK; go_simp; refine hK _ ?_; clear hK K)
      refine wpLx_chain ?_ ?_ ?_
      focus (exact hS)
      focus (simp only [chainOp]; done)
      intro K hK
      go_simp
      refine step_keep (kp_next hS hkE (by simp)) (fun hS => ?_)
      refine hK _ _ ?_
      clear hK K
      refine wpLx_nil ?_
      intro hS
      have hSE : Keep [bn] wD wE := hS
      have hput : putL (N.map fun n => (n.id, snode n)) n.id (snode n) = (N ++ [n]).map fun n => (n.id, snode n) := by
        unfold putL
        rw [if_neg (by rw [List.map_map]; exact hnew), List.map_append]; rfl
      rw [hput] at hmE
      have hbnE : bb ∉ [bn] := by simpa using fun e => hsq.ne.1 e.symm
      have hbgE : bg ∉ [bn] := by simpa using fun e => hsq.ne.2.1 e.symm
      have hfin : SeqAt wE M g bn bb bg (N ++ [n]) G := by
        refine ⟨(hSE.block g (by have := hsq.ltg; omega) hgbn).trans hblkD, ⟨esE, clkE, hmE⟩, ⟨_, esD, clkD, hmD.kept hSE hbnE, fun p hp => ?_, fun r hr => ?_⟩, hgD.kept hSE hbgE, hsq.inM, hsq.ne, ?_, ?_⟩
        · rcases mem_putL hp with e | ⟨hp, hne⟩
          · subst e
            dsimp only
            have hki : kids (N ++ [n]) n.ref = insC cmpN (kids N n.ref) n := by rw [kids_snoc, if_pos rfl]
            rw [hki, HK.out]
            exact ⟨hslD.kept hSE (fun x hx hm => by
              have e : x = bn := by simpa using hm
              subst e
              exact (hblC _ hx).1 hsq.inM.1), fun x hx => ⟨(hblC x hx).1, Nat.lt_of_lt_of_le (hblC x hx).2 (Nat.le_trans hkD.size hSE.size)⟩⟩
          · obtain ⟨s1, s2⟩ := hsl2 p hp
            rw [kids_snoc, if_neg (fun e => hne e.symm)]
            refine ⟨(s1.kept hSD (fun x hx hm => ?_)).kept hSE (fun x hx hm => ?_), fun x hx => ⟨(s2 x hx).1, Nat.lt_of_lt_of_le (s2 x hx).2 (Nat.le_trans hSD.size hSE.size)⟩⟩
            · have e : x = bb := by simpa using hm
              subst e
              exact (s2 _ hx).1 hsq.inM.2.1
            · have e : x = bn := by simpa using hm
              subst e
              exact (s2 _ hx).1 hsq.inM.1
        · obtain ⟨h1, h2⟩ := keys_putL hr
          rw [kids_snoc, if_neg (fun e => h2 e.symm)]
          exact hno2 r h1
        · intro a ha b hb' e
          rcases List.mem_append.1 ha with ha1 | ha1 <;> rcases List.mem_append.1 hb' with hb1 | hb1
          · exact hsq.one a ha1 b hb1 e
          · have e2 : b = n := by simpa using hb1
            rw [e2] at e
            exact absurd (List.mem_map.2 ⟨a, ha1, e⟩) hnew
          · have e2 : a = n := by simpa using ha1
            rw [e2] at e
            exact absurd (List.mem_map.2 ⟨b, hb1, e.symm⟩) hnew
          · have e1 : a = n := by simpa using ha1
            have e2 : b = n := by simpa using hb1
            rw [e1, e2]
        · intro x hx
          rcases List.mem_append.1 hx with hx | hx
          · exact hsq.ok x hx
          · have e : x = n := by simpa using hx
            rw [e]; exact hE
      have hkf : Keep [bn, bb] w wE := Keep.trans (Keep.trans ((Keep.of_below (hBz.mono (by rw [Hga.out]; exact Nat.le_refl _))).mono (S' := [bn, bb]) (by simp)) (hSD.mono (S' := [bn, bb]) (by simp)) (fun x hx => .inl hx)) (hSE.mono (S' := [bn, bb]) (by simp)) (fun x hx => .inl hx)
      clear b1 b2 b3 hne hS hkE hkD hrun hmE hmD hnD hgD hslD hrdD hrnD hc0D hblkD hsl2 hno2 hSE hSD hsq hput
      go_wp2_with fail
      go_end0
      exact ⟨rfl, hfin, hkf⟩

end Go.Proofs.YtgfpjjppeldhbaaGreatDoor

/- Package seq: Insert. -/
namespace Go.Proofs.YtgfpjjppeldhbaaGreatDoor
open Go.RowKit

/-- One more node, as the program keeps them: the first of each id. -/
def addN (N : List NodeV) (n : NodeV) : List NodeV := if nodeE n = 0 then (if n.id ∈ N.map NodeV.id then N else N ++ [n]) else N

theorem nodeE_range (n : NodeV) : nodeE n = 0 ∨ nodeE n = 3 ∨ nodeE n = 5 := by
  unfold nodeE; split
  · exact .inr (.inl rfl)
  · split
    · exact .inr (.inr rfl)
    · exact .inl rfl
@[go_sem] theorem zeroNode_run (w : World) : (zeroValue 193).run Tryz.prog w = .ok (.agg (sNodeC sNode0)) w := by kernel_rfl

set_option maxRecDepth 100000 in
set_option maxHeartbeats 4000000 in
theorem sqinsert (n : NodeV) (w : World) (M : List Nat) (g bn bb bg : Nat) (N : List NodeV) (G : List Id32) (h : SeqAt w M g bn bb bg N G) (hM : ∀ x ∈ M, x < w.heap.size) (hv : n.val.size ≤ 9223372036854775807) (hl : N.length ≤ 100000) :
    Calls Tryz.prog 142 #[.pointer (some ⟨g, 0, none⟩), .agg (idC n.id), .int .i64 n.h, .agg (idC n.ref), .string n.val] w fun e w' => e = .returned (.int .i64 (nodeE n)) ∧ SeqAt w' M g bn bb bg (addN N n) G ∧ Keep [bn, bb] w w' := by
  have hb0 : Below w.heap.size w (((w.alloc (.cells (idC n.id) 39)).alloc (.cells (idC n.ref) 39)).alloc (.cells (sNodeC ⟨n.h, n.ref, n.val⟩) 193)) := (((Below.refl _ _).alloc (Nat.le_refl _) _).alloc (by simp) _).alloc (by simp; omega) _
  have h0 := h.below hb0
  have hrd : rowAt (((w.alloc (.cells (idC n.id) 39)).alloc (.cells (idC n.ref) 39)).alloc (.cells (sNodeC ⟨n.h, n.ref, n.val⟩) 193)) w.heap.size 0 32 = some (idC n.id) := by simp [go_sem]; intro e; omega
  have hrn : rowAt (((w.alloc (.cells (idC n.id) 39)).alloc (.cells (idC n.ref) 39)).alloc (.cells (sNodeC ⟨n.h, n.ref, n.val⟩) 193)) (w.heap.size + 2) 0 34 = some (sNodeC ⟨n.h, n.ref, n.val⟩) := by simp [go_sem]
  have hc00 : ((w.alloc (.cells (idC n.id) 39)).alloc (.cells (idC n.ref) 39)).cell? ⟨g, 0, none⟩ = some (.map (some bn)) := ((((Below.refl w.heap.size w).alloc (Nat.le_refl _) (.cells (idC n.id) 39)).alloc (by simp) (.cells (idC n.ref) 39)).cell (p := ⟨g, 0, none⟩) h.ltg).trans h.cell0
  have hhn : sNodeC (snode n) = sNodeC ⟨n.h, n.ref, n.val⟩ := rfl
  go_enter Tryz.func142, Tryz.ntmps142
  go_wp2_with fail
  refine (sqnone_live _ g bn hc00).mono ?_; rintro e w1 ⟨rfl, rfl⟩
  go_upto_region 4 with fail
  obtain ⟨ga, hga⟩ : ∃ ga, w.heap.size = ga := ⟨_, rfl⟩
  have Hga := Lib.hid hga
  rw [hga] at hrd hrn hb0 hM ⊢
  obtain ⟨W, hW⟩ : ∃ W, W = (((w.alloc (.cells (idC n.id) 39)).alloc (.cells (idC n.ref) 39)).alloc (.cells (sNodeC ⟨n.h, n.ref, n.val⟩) 193)) := ⟨_, rfl⟩
  rw [← hW] at h0 hrd hrn hb0 ⊢
  clear hW hga hc00
  have cc := sqcheck n.id n rfl W hv
  rw [hhn] at cc
  obtain ⟨E, hE⟩ : ∃ E, nodeE n = E := ⟨_, rfl⟩
  rw [hE] at cc
  have HE := Lib.hid hE
  have Hadd : Hid (addN N n = if nodeE n = 0 then (if n.id ∈ N.map NodeV.id then N else N ++ [n]) else N) := rfl
  clear hE
  go_wp2_with fail
  refine cc.mono ?_; rintro e w2 ⟨rfl, hb2⟩
  have hB2 : Below ga w w2 := hb0.trans (hb2.mono (by have := hb0.size; have := Hga.out; omega))
  have h2 := h0.below hb2
  have hrd2 : rowAt w2 ga 0 32 = some (idC n.id) := (rowAt_of_block (hb2.block ga (rowAt_lt hrd)) _ _).trans hrd
  have hrn2 : rowAt w2 (ga + 2) 0 34 = some (sNodeC ⟨n.h, n.ref, n.val⟩) := (rowAt_of_block (hb2.block (ga + 2) (rowAt_lt hrn)) _ _).trans hrn
  clear cc hb2 hrd hrn h0 hb0
  by_cases hE0 : E = 0
  · subst hE0
    go_upto_region 7 with fail
    have hc0 := h2.cell0
    obtain ⟨es, clk, hn⟩ := h2.nodes
    by_cases hin : n.id ∈ N.map NodeV.id
    · obtain ⟨y, hyN, hyi⟩ := List.mem_map.1 hin
      have hk : ∀ x : Subtype (Bel w2), (Instr.lookup 188 (.map (some bn)) (.agg (idC n.id)) true).run Tryz.prog x.1 = .ok (.tuple #[.agg (sNodeC ⟨y.h, y.ref, y.val⟩), .bool true]) x.1 := fun x => by
        have := nlook (hn.kept (Keep.of_below x.2) (by simp)) hyN true
        rw [hyi] at this
        exact this
      have Hin := Lib.hid hin
      clear hin hyi hn
      have hst : (stS 193 ⟨w2.heap.size, 0, none⟩ (.agg (sNodeC ⟨y.h, y.ref, y.val⟩))).run Tryz.prog (w2.alloc (.cells (sNodeC sNode0) 193)).drew = .ok () (w2.alloc (.cells (sNodeC ⟨y.h, y.ref, y.val⟩) 193)).drew := storeSNode_run w2.drew _ rfl _ (by simp) ⟨y.h, y.ref, y.val⟩ _
      have hSn : Hid (Bel w2 (w2.alloc (.cells (sNodeC ⟨y.h, y.ref, y.val⟩) 193)).drew) := ((Below.refl _ _).alloc (Nat.le_refl _) _).drew
      refine wp_region_lex (Bel w2) false (by kernel_rfl) (by kernel_rfl) (by kernel_rfl) (bel_drew w2) ?_
      have hne := bel_some w2
      have hS := bel_drew w2
      have b1 := sub_cell hc0; have b2 := sub_row hrd2
      repeat (refine wpLx_loose ?_ ?_; (focus (simp only [chainOp]; done)); intro K hK; go_simp; refine hK _ ?_; clear hK K)
      refine wpLx_chain ?_ ?_ ?_
      focus (exact hS)
      focus (simp only [chainOp]; done)
      intro K hK
      go_simp
      refine step_keep (bel_alloc hS _) (fun hS => ?_)
      refine hK _ _ ?_
      clear hK K
      repeat (refine wpLx_loose ?_ ?_; (focus (simp only [chainOp]; done)); intro K hK; go_simp; refine hK _ ?_; clear hK K)
      refine wpLx_chain ?_ ?_ ?_
      focus (exact hS)
      focus (simp only [chainOp]; done)
      intro K hK
      go_simp
      first | refine step_keep hSn.out (fun hS => ?_) | skip
      refine hK _ _ ?_
      clear hK K
      repeat (refine wpLx_loose ?_ ?_; (focus (simp only [chainOp]; done)); intro K hK; go_simp; refine hK _ ?_; clear hK K)
      refine wpLx_nil ?_
      intro hS
      have hS' : Below w2.heap.size w2 (w2.alloc (.cells (sNodeC ⟨y.h, y.ref, y.val⟩) 193)).drew := hS
      have h3 := h2.below hS'
      have hB3 := hB2.trans (hS'.mono (by have := rowAt_lt hrd2; omega))
      have hrd3 : rowAt (w2.alloc (.cells (sNodeC ⟨y.h, y.ref, y.val⟩) 193)).drew ga 0 32 = some (idC n.id) := (rowAt_of_block (hS'.block ga (rowAt_lt hrd2)) _ _).trans hrd2
      have hrn3 : rowAt (w2.alloc (.cells (sNodeC ⟨y.h, y.ref, y.val⟩) 193)).drew (ga + 2) 0 34 = some (sNodeC ⟨n.h, n.ref, n.val⟩) := (rowAt_of_block (hS'.block (ga + 2) (rowAt_lt hrn2)) _ _).trans hrn2
      clear b1 b2 hne hS hS' hst hSn hk hc0 hrd2 hrn2 h2 hB2
      obtain ⟨w3, hw3⟩ : ∃ w3, (w2.alloc (.cells (sNodeC ⟨y.h, y.ref, y.val⟩) 193)).drew = w3 := ⟨_, rfl⟩
      rw [hw3] at h3 hB3 hrd3 hrn3 ⊢
      clear hw3
      go_wp2_with fail
      go_ret
      have e1 : addN N n = N := by rw [Hadd.out, if_pos HE.out, if_pos Hin.out]
      exact ⟨ret_int (by rw [HE.out]), by rw [e1]; exact h3, (Keep.of_below (hB3.mono (by rw [Hga.out]; exact Nat.le_refl _))).mono (by simp)⟩
    · have hno : n.id ∉ (N.map fun n => (n.id, snode n)).map (·.1) := by rw [List.map_map]; exact hin
      have hk : ∀ x : Subtype (Bel w2), (Instr.lookup 188 (.map (some bn)) (.agg (idC n.id)) true).run Tryz.prog x.1 = .ok (.tuple #[.agg (sNodeC sNode0), .bool false]) x.1 := fun x =>
        (hn.kept (Keep.of_below x.2) (by simp)).miss idKey Tryz.underlying188 (zeroNode_run x.1) trivial hno true
      have Hin := Lib.hid hin
      clear hno hn
      have hst : (stS 193 ⟨w2.heap.size, 0, none⟩ (.agg (sNodeC sNode0))).run Tryz.prog (w2.alloc (.cells (sNodeC sNode0) 193)).drew = .ok () (w2.alloc (.cells (sNodeC sNode0) 193)).drew := storeSNode_run w2.drew _ rfl _ (by simp) sNode0 _
      have hSn : Hid (Bel w2 (w2.alloc (.cells (sNodeC sNode0) 193)).drew) := ((Below.refl _ _).alloc (Nat.le_refl _) _).drew
      refine wp_region_lex (Bel w2) false (by kernel_rfl) (by kernel_rfl) (by kernel_rfl) (bel_drew w2) ?_
      have hne := bel_some w2
      have hS := bel_drew w2
      have b1 := sub_cell hc0; have b2 := sub_row hrd2
      repeat (refine wpLx_loose ?_ ?_; (focus (simp only [chainOp]; done)); intro K hK; go_simp; refine hK _ ?_; clear hK K)
      refine wpLx_chain ?_ ?_ ?_
      focus (exact hS)
      focus (simp only [chainOp]; done)
      intro K hK
      go_simp
      refine step_keep (bel_alloc hS _) (fun hS => ?_)
      refine hK _ _ ?_
      clear hK K
      repeat (refine wpLx_loose ?_ ?_; (focus (simp only [chainOp]; done)); intro K hK; go_simp; refine hK _ ?_; clear hK K)
      refine wpLx_chain ?_ ?_ ?_
      focus (exact hS)
      focus (simp only [chainOp]; done)
      intro K hK
      go_simp
      first | refine step_keep hSn.out (fun hS => ?_) | skip
      refine hK _ _ ?_
      clear hK K
      repeat (refine wpLx_loose ?_ ?_; (focus (simp only [chainOp]; done)); intro K hK; go_simp; refine hK _ ?_; clear hK K)
      refine wpLx_nil ?_
      intro hS
      have hS' : Below w2.heap.size w2 (w2.alloc (.cells (sNodeC sNode0) 193)).drew := hS
      have h3 := h2.below hS'
      have hB3 := hB2.trans (hS'.mono (by have := rowAt_lt hrd2; omega))
      have hrd3 : rowAt (w2.alloc (.cells (sNodeC sNode0) 193)).drew ga 0 32 = some (idC n.id) := (rowAt_of_block (hS'.block ga (rowAt_lt hrd2)) _ _).trans hrd2
      have hrn3 : rowAt (w2.alloc (.cells (sNodeC sNode0) 193)).drew (ga + 2) 0 34 = some (sNodeC ⟨n.h, n.ref, n.val⟩) := (rowAt_of_block (hS'.block (ga + 2) (rowAt_lt hrn2)) _ _).trans hrn2
      clear b1 b2 hne hS hS' hst hSn hk hc0 hrd2 hrn2 h2 hB2
      obtain ⟨w3, hw3⟩ : ∃ w3, (w2.alloc (.cells (sNodeC sNode0) 193)).drew = w3 := ⟨_, rfl⟩
      rw [hw3] at h3 hB3 hrd3 hrn3 ⊢
      clear hw3
      have hs3 := hB3.size
      have hM3 : ∀ x ∈ M, x < w3.heap.size := fun x hx => by have := hM x hx; have := Hga.out; omega
      have ch := sqhang n w3 M g bn bb bg N G h3 hM3 hin HE.out hl
      rw [hhn] at ch
      clear hin
      go_wp2_with fail
      refine ch.mono ?_; rintro e w4 ⟨rfl, h4, hk4⟩
      have hkf : Keep [bn, bb] w w4 := Keep.trans ((Keep.of_below (hB3.mono (by rw [Hga.out]; exact Nat.le_refl _))).mono (S' := [bn, bb]) (by simp)) hk4 (fun x hx => .inl hx)
      clear ch hk4 h3 hB3 hrd3 hrn3
      go_wp2_with fail
      go_ret
      have e1 : addN N n = N ++ [n] := by rw [Hadd.out, if_pos HE.out, if_neg Hin.out]
      exact ⟨ret_int (by rw [HE.out]), by rw [e1]; exact h4, hkf⟩
  · have hne : (E != 0) = true := by simpa using hE0
    have Hne := Lib.hid hE0
    clear hE0
    go_wp2_with fail
    go_ret
    have e1 : addN N n = N := by rw [Hadd.out, if_neg (by rw [HE.out]; exact Hne.out)]
    exact ⟨ret_int (by rw [HE.out]), by rw [e1]; exact h2, (Keep.of_below (hB2.mono (by rw [Hga.out]; exact Nat.le_refl _))).mono (by simp)⟩

end Go.Proofs.YtgfpjjppeldhbaaGreatDoor

/- Package view: fresh and does of a bag, a last map, a multi map, a seq. -/
namespace Go.Proofs.YtgfpjjppeldhbaaGreatDoor
open Go.RowKit

theorem vfresh_b (w : World) : Calls Tryz.prog 55 #[.int .i64 2] w fun e w' => ∃ gs, e = .returned (.iface 102 (.pointer (some ⟨gs, 0, none⟩))) ∧ (∃ bl bg, BagAt w' gs bl bg [] [] ∧ w.heap.size ≤ gs ∧ w.heap.size ≤ bl ∧ w.heap.size ≤ bg) ∧ Below w.heap.size w w' := by
  go_enter Tryz.func55, Tryz.ntmps55
  go_wp2_with fail
  refine (bnew w).mono ?_; rintro e w1 ⟨g, bl, bg, rfl, h1, h2, h3, h4, hb⟩
  have H := Lib.hid (And.intro h1 (And.intro h2 (And.intro h3 h4)))
  clear h1 h2 h3 h4
  go_wp2_with fail
  go_ret
  exact ⟨_, rfl, ⟨bl, bg, H.out⟩, hb⟩
theorem vfresh_l (w : World) : Calls Tryz.prog 55 #[.int .i64 3] w fun e w' => ∃ gs, e = .returned (.iface 104 (.pointer (some ⟨gs, 0, none⟩))) ∧ (∃ b, LastAt w' gs b [] ∧ w.heap.size ≤ gs ∧ w.heap.size ≤ b) ∧ Below w.heap.size w w' := by
  go_enter Tryz.func55, Tryz.ntmps55
  go_wp2_with fail
  refine (lnew w).mono ?_; rintro e w1 ⟨g, b, rfl, h1, h2, h3, hb⟩
  have H := Lib.hid (And.intro h1 (And.intro h2 h3))
  clear h1 h2 h3
  go_wp2_with fail
  go_ret
  exact ⟨_, rfl, ⟨b, H.out⟩, hb⟩
theorem vfresh_m (w : World) : Calls Tryz.prog 55 #[.int .i64 4] w fun e w' => ∃ gs, e = .returned (.iface 105 (.pointer (some ⟨gs, 0, none⟩))) ∧ (∃ bl bo, MultiAt w' gs bl bo [] [] ∧ w.heap.size ≤ gs ∧ w.heap.size ≤ bl ∧ w.heap.size ≤ bo) ∧ Below w.heap.size w w' := by
  go_enter Tryz.func55, Tryz.ntmps55
  go_wp2_with fail
  refine (mnew w).mono ?_; rintro e w1 ⟨g, bl, bg, rfl, h1, h2, h3, h4, hb⟩
  have H := Lib.hid (And.intro h1 (And.intro h2 (And.intro h3 h4)))
  clear h1 h2 h3 h4
  go_wp2_with fail
  go_ret
  exact ⟨_, rfl, ⟨bl, bg, H.out⟩, hb⟩
theorem vfresh_s (w : World) : Calls Tryz.prog 55 #[.int .i64 5] w fun e w' => ∃ gs, e = .returned (.iface 106 (.pointer (some ⟨gs, 0, none⟩))) ∧ (∃ bn bb bg, (∀ M, bn ∈ M → bb ∈ M → bg ∈ M → SeqAt w' M gs bn bb bg [] []) ∧ w.heap.size ≤ gs ∧ w.heap.size ≤ bn ∧ w.heap.size ≤ bb ∧ w.heap.size ≤ bg) ∧ Below w.heap.size w w' := by
  go_enter Tryz.func55, Tryz.ntmps55
  go_wp2_with fail
  refine (sqnew w).mono ?_; rintro e w1 ⟨g, bn, bb, bg, rfl, h1, h2, h3, h4, h5, hb⟩
  have H := Lib.hid (And.intro h1 (And.intro h2 (And.intro h3 (And.intro h4 h5))))
  clear h1 h2 h3 h4 h5
  go_wp2_with fail
  go_ret
  exact ⟨_, rfl, ⟨bn, bb, bg, H.out⟩, hb⟩

end Go.Proofs.YtgfpjjppeldhbaaGreatDoor

/- Package view: does of a bag. -/
namespace Go.Proofs.YtgfpjjppeldhbaaGreatDoor
open Go.RowKit

set_option maxRecDepth 100000 in
set_option maxHeartbeats 1000000 in
theorem vdoes_b2 (m : MarkV) (o : OpV) (A : Option Addr) (c : Nat) (w : World) (g gt bl bg : Nat) (t : ByteArray) (b : Nat) (I : List Id32) (L G : List BRow) (h : ViewAt w g t b I (.iface 102 (.pointer (some ⟨gt, 0, none⟩)))) (hT : BagAt w gt bl bg L G) (hk : o.k = 2) (hv : o.val.size ≤ 16) :
    Calls Tryz.prog 64 #[.pointer (some ⟨g, 0, none⟩), .agg (markVC m), .agg (opC o A c)] w fun e w' => e = .returned (.tuple #[]) ∧ BagAt w' gt bl bg (addB L G ⟨m.id, o.val⟩) G ∧ Keep [bl] w w' := by
  obtain ⟨k, n, key, val, ref, refs⟩ := o
  dsimp only at *
  unfold opC at *
  dsimp only at *
  have hB : Below w.heap.size w ((w.alloc (.cells (markVC m) 41)).alloc (.cells (opPC ⟨k, n, key, val, ref, .slice A refs.length c⟩) 52)) := ((Below.refl _ _).alloc (Nat.le_refl _) _).alloc (by simp) _
  have hc := (h.below hB).cell2
  have hT1 := hT.below hB
  have hrm : rowAt ((w.alloc (.cells (markVC m) 41)).alloc (.cells (opPC ⟨k, n, key, val, ref, .slice A refs.length c⟩) 52)) w.heap.size 0 34 = some (markVC m) := ((Keep.alloc (w.alloc (.cells (markVC m) 41)) _).row (by simp) (by simp) 0 34).trans (by simp [go_sem])
  have hr0 : rowAt ((w.alloc (.cells (markVC m) 41)).alloc (.cells (opPC ⟨k, n, key, val, ref, .slice A refs.length c⟩) 52)) w.heap.size 0 32 = some (idC m.id) := by have := rowAt_sub hrm (j := 0) (m := 32) (by omega); rwa [markVC_e0] at this
  have hk2 : ((k : Int) == 2) = true := by rw [hk]; rfl
  clear hk
  have ci := fun w' (h' : BagAt w' gt bl bg L G) => badd m.id val w' gt bl bg L G h' (by omega)
  clear hT h
  have Hv := Lib.hid hv
  clear hv
  go_enter Tryz.func64, Tryz.ntmps64
  go_wp2_with fail
  refine (ci _ hT1).mono ?_; rintro e w1 ⟨rfl, h1, hk1⟩
  have hfin : Keep [bl] w w1 := Keep.trans ((Keep.of_below hB).mono (S' := [bl]) (by simp)) hk1 (fun x hx => .inl hx)
  clear hB hc hT1 ci hk1 hrm hr0
  go_wp2_with fail
  go_end0
  exact ⟨rfl, h1, hfin⟩

set_option maxRecDepth 100000 in
set_option maxHeartbeats 1000000 in
theorem vdoes_b3 (m : MarkV) (o : OpV) (A : Option Addr) (c : Nat) (w : World) (g gt bl bg : Nat) (t : ByteArray) (b : Nat) (I : List Id32) (L G : List BRow) (h : ViewAt w g t b I (.iface 102 (.pointer (some ⟨gt, 0, none⟩)))) (hT : BagAt w gt bl bg L G) (hk : (o.k == 2) = false) (hv : o.val.size ≤ 16) (hA : TagsIn w A o.refs.length o.refs) (hn : o.refs.length ≤ 8) :
    Calls Tryz.prog 64 #[.pointer (some ⟨g, 0, none⟩), .agg (markVC m), .agg (opC o A c)] w fun e w' => e = .returned (.tuple #[]) ∧ BagAt w' gt bl bg (remL L o.val o.refs) (remG G o.val o.refs) ∧ Keep [bl, bg] w w' := by
  obtain ⟨k, n, key, val, ref, refs⟩ := o
  dsimp only at *
  unfold opC at *
  dsimp only at *
  have hB : Below w.heap.size w ((w.alloc (.cells (markVC m) 41)).alloc (.cells (opPC ⟨k, n, key, val, ref, .slice A refs.length c⟩) 52)) := ((Below.refl _ _).alloc (Nat.le_refl _) _).alloc (by simp) _
  have hc := (h.below hB).cell2
  have hT1 := hT.below hB
  have hrm : rowAt ((w.alloc (.cells (markVC m) 41)).alloc (.cells (opPC ⟨k, n, key, val, ref, .slice A refs.length c⟩) 52)) w.heap.size 0 34 = some (markVC m) := ((Keep.alloc (w.alloc (.cells (markVC m) 41)) _).row (by simp) (by simp) 0 34).trans (by simp [go_sem])
  have hr0 : rowAt ((w.alloc (.cells (markVC m) 41)).alloc (.cells (opPC ⟨k, n, key, val, ref, .slice A refs.length c⟩) 52)) w.heap.size 0 32 = some (idC m.id) := by have := rowAt_sub hrm (j := 0) (m := 32) (by omega); rwa [markVC_e0] at this
  have hA1 : TagsIn _ A refs.length refs := SlR.below hA hB
  have ci := fun w' (h' : BagAt w' gt bl bg L G) (hA' : TagsIn w' A refs.length refs) => brem_ok val A refs.length c refs w' gt bl bg L G h' hA' hv (by omega)
  have HA := Lib.hid hA1
  clear hT h hA hn hA1
  have Hv := Lib.hid hv
  clear hv
  go_enter Tryz.func64, Tryz.ntmps64
  go_wp2_with fail
  refine (ci _ hT1 HA.out).mono ?_; rintro e w1 ⟨rfl, h1, hk1⟩
  have hfin : Keep [bl, bg] w w1 := Keep.trans ((Keep.of_below hB).mono (S' := [bl, bg]) (by simp)) hk1 (fun x hx => .inl hx)
  clear hB hc hT1 ci hk1 hrm hr0 HA
  go_wp2_with fail
  go_end0
  exact ⟨rfl, h1, hfin⟩

end Go.Proofs.YtgfpjjppeldhbaaGreatDoor

/- Package view: does of a last map. -/
namespace Go.Proofs.YtgfpjjppeldhbaaGreatDoor
open Go.RowKit

set_option maxRecDepth 100000 in
set_option maxHeartbeats 1000000 in
theorem vdoes_l (m : MarkV) (o : OpV) (A : Option Addr) (c : Nat) (w : World) (g gt bl : Nat) (t : ByteArray) (b : Nat) (I : List Id32) (L : List LRow) (h : ViewAt w g t b I (.iface 104 (.pointer (some ⟨gt, 0, none⟩)))) (hT : LastAt w gt bl L) (hk : o.key.size ≤ 16) (hv : o.val.size ≤ 16) :
    Calls Tryz.prog 64 #[.pointer (some ⟨g, 0, none⟩), .agg (markVC m), .agg (opC o A c)] w fun e w' => e = .returned (.tuple #[]) ∧ LastAt w' gt bl (setL L o.key ⟨o.val, o.n, m.id⟩) ∧ Keep [bl] w w' := by
  obtain ⟨k, n, key, val, ref, refs⟩ := o
  dsimp only at *
  unfold opC at *
  dsimp only at *
  have hB : Below w.heap.size w ((w.alloc (.cells (markVC m) 41)).alloc (.cells (opPC ⟨k, n, key, val, ref, .slice A refs.length c⟩) 52)) := ((Below.refl _ _).alloc (Nat.le_refl _) _).alloc (by simp) _
  have hc := (h.below hB).cell2
  have hT1 := hT.below hB
  have hrm : rowAt ((w.alloc (.cells (markVC m) 41)).alloc (.cells (opPC ⟨k, n, key, val, ref, .slice A refs.length c⟩) 52)) w.heap.size 0 34 = some (markVC m) := ((Keep.alloc (w.alloc (.cells (markVC m) 41)) _).row (by simp) (by simp) 0 34).trans (by simp [go_sem])
  have hr0 : rowAt ((w.alloc (.cells (markVC m) 41)).alloc (.cells (opPC ⟨k, n, key, val, ref, .slice A refs.length c⟩) 52)) w.heap.size 0 32 = some (idC m.id) := by have := rowAt_sub hrm (j := 0) (m := 32) (by omega); rwa [markVC_e0] at this
  have ci := fun w' (h' : LastAt w' gt bl L) => lset key val n m.id w' gt bl L h' (by omega) (by omega)
  clear hT h
  have Hv := Lib.hid (And.intro hk hv)
  clear hv hk
  go_enter Tryz.func64, Tryz.ntmps64
  go_wp2_with fail
  refine (ci _ hT1).mono ?_; rintro e w1 ⟨rfl, h1, hk1⟩
  have hfin : Keep [bl] w w1 := Keep.trans ((Keep.of_below hB).mono (S' := [bl]) (by simp)) hk1 (fun x hx => .inl hx)
  clear hB hc hT1 ci hk1 hrm hr0
  go_wp2_with fail
  go_end0
  exact ⟨rfl, h1, hfin⟩

end Go.Proofs.YtgfpjjppeldhbaaGreatDoor

/- Package view: does of a multi map. -/
namespace Go.Proofs.YtgfpjjppeldhbaaGreatDoor
open Go.RowKit

set_option maxRecDepth 100000 in
set_option maxHeartbeats 1000000 in
theorem vdoes_m (m : MarkV) (o : OpV) (A : Option Addr) (c : Nat) (w : World) (g gt bl bo : Nat) (t : ByteArray) (b : Nat) (I : List Id32) (X : List MRow) (O : List Id32) (h : ViewAt w g t b I (.iface 105 (.pointer (some ⟨gt, 0, none⟩)))) (hT : MultiAt w gt bl bo X O) (hk : o.key.size ≤ 16) (hv : o.val.size ≤ 16) (hA : TagsIn w A o.refs.length o.refs) (hn : o.refs.length ≤ 8) (hX : X.length < 1000000) :
    Calls Tryz.prog 64 #[.pointer (some ⟨g, 0, none⟩), .agg (markVC m), .agg (opC o A c)] w fun e w' => e = .returned (.tuple #[]) ∧ MultiAt w' gt bl bo (setX X O ⟨m.id, o.key, o.val⟩ o.refs) (putO O o.refs) ∧ Keep [bl, bo] w w' := by
  obtain ⟨k, n, key, val, ref, refs⟩ := o
  dsimp only at *
  unfold opC at *
  dsimp only at *
  have hB : Below w.heap.size w ((w.alloc (.cells (markVC m) 41)).alloc (.cells (opPC ⟨k, n, key, val, ref, .slice A refs.length c⟩) 52)) := ((Below.refl _ _).alloc (Nat.le_refl _) _).alloc (by simp) _
  have hc := (h.below hB).cell2
  have hT1 := hT.below hB
  have hrm : rowAt ((w.alloc (.cells (markVC m) 41)).alloc (.cells (opPC ⟨k, n, key, val, ref, .slice A refs.length c⟩) 52)) w.heap.size 0 34 = some (markVC m) := ((Keep.alloc (w.alloc (.cells (markVC m) 41)) _).row (by simp) (by simp) 0 34).trans (by simp [go_sem])
  have hr0 : rowAt ((w.alloc (.cells (markVC m) 41)).alloc (.cells (opPC ⟨k, n, key, val, ref, .slice A refs.length c⟩) 52)) w.heap.size 0 32 = some (idC m.id) := by have := rowAt_sub hrm (j := 0) (m := 32) (by omega); rwa [markVC_e0] at this
  have hA1 : TagsIn _ A refs.length refs := SlR.below hA hB
  have ci := fun w' (h' : MultiAt w' gt bl bo X O) (hA' : TagsIn w' A refs.length refs) => mset m.id key val A refs.length c refs w' gt bl bo X O h' hA' hk hv (by omega) hX
  have HA := Lib.hid hA1
  clear hT h hA hn hA1 hX
  have Hv := Lib.hid (And.intro hk hv)
  clear hv hk
  go_enter Tryz.func64, Tryz.ntmps64
  go_wp2_with fail
  refine (ci _ hT1 HA.out).mono ?_; rintro e w1 ⟨rfl, h1, hk1⟩
  have hfin : Keep [bl, bo] w w1 := Keep.trans ((Keep.of_below hB).mono (S' := [bl, bo]) (by simp)) hk1 (fun x hx => .inl hx)
  clear hB hc hT1 ci hk1 hrm hr0 HA
  go_wp2_with fail
  go_end0
  exact ⟨rfl, h1, hfin⟩

end Go.Proofs.YtgfpjjppeldhbaaGreatDoor

/- Package view: does of a seq. -/
namespace Go.Proofs.YtgfpjjppeldhbaaGreatDoor
open Go.RowKit

set_option maxRecDepth 100000 in
set_option maxHeartbeats 1000000 in
theorem vdoes_s6 (m : MarkV) (o : OpV) (A : Option Addr) (c : Nat) (w : World) (g gt bn bb bg : Nat) (t : ByteArray) (b : Nat) (I : List Id32) (M : List Nat) (N : List NodeV) (G : List Id32) (h : ViewAt w g t b I (.iface 106 (.pointer (some ⟨gt, 0, none⟩)))) (hT : SeqAt w M gt bn bb bg N G) (hM : ∀ x ∈ M, x < w.heap.size) (hk : o.k = 6) (hv : o.val.size ≤ 16) (hN : N.length ≤ 100000) :
    Calls Tryz.prog 64 #[.pointer (some ⟨g, 0, none⟩), .agg (markVC m), .agg (opC o A c)] w fun e w' => e = .returned (.tuple #[]) ∧ SeqAt w' M gt bn bb bg (addN N ⟨m.id, m.h, o.ref, o.val⟩) G ∧ Keep [bn, bb] w w' := by
  obtain ⟨k, n, key, val, ref, refs⟩ := o
  dsimp only at *
  unfold opC at *
  dsimp only at *
  have hB : Below w.heap.size w ((w.alloc (.cells (markVC m) 41)).alloc (.cells (opPC ⟨k, n, key, val, ref, .slice A refs.length c⟩) 52)) := ((Below.refl _ _).alloc (Nat.le_refl _) _).alloc (by simp) _
  have hc := (h.below hB).cell2
  have hT1 := hT.below hB
  have hrm : rowAt ((w.alloc (.cells (markVC m) 41)).alloc (.cells (opPC ⟨k, n, key, val, ref, .slice A refs.length c⟩) 52)) w.heap.size 0 34 = some (markVC m) := ((Keep.alloc (w.alloc (.cells (markVC m) 41)) _).row (by simp) (by simp) 0 34).trans (by simp [go_sem])
  have hr0 : rowAt ((w.alloc (.cells (markVC m) 41)).alloc (.cells (opPC ⟨k, n, key, val, ref, .slice A refs.length c⟩) 52)) w.heap.size 0 32 = some (idC m.id) := by have := rowAt_sub hrm (j := 0) (m := 32) (by omega); rwa [markVC_e0] at this
  have hk2 : ((k : Int) == 6) = true := by rw [hk]; rfl
  clear hk
  have hM1 : Hid (∀ x ∈ M, x < _) := Lib.hid fun x hx => Nat.lt_of_lt_of_le (hM x hx) hB.size
  have hr1 := rowAt_cell hrm (j := 33 - 1) (by omega)
  have ci := fun w' (h' : SeqAt w' M gt bn bb bg N G) (hM' : ∀ x ∈ M, x < w'.heap.size) => sqinsert ⟨m.id, m.h, ref, val⟩ w' M gt bn bb bg N G h' hM' (by simp only; omega) hN
  clear hT h hM hN
  have Hv := Lib.hid hv
  clear hv
  go_enter Tryz.func64, Tryz.ntmps64
  go_wp2_with fail
  refine (ci _ hT1 hM1.out).mono ?_; rintro e w1 ⟨rfl, h1, hk1⟩
  have hfin : Keep [bn, bb] w w1 := Keep.trans ((Keep.of_below hB).mono (S' := [bn, bb]) (by simp)) hk1 (fun x hx => .inl hx)
  clear hB hc hT1 ci hk1 hrm hr0 hr1 hM1
  go_wp2_with fail
  go_end0
  exact ⟨rfl, h1, hfin⟩

set_option maxRecDepth 100000 in
set_option maxHeartbeats 1000000 in
theorem vdoes_s7 (m : MarkV) (o : OpV) (A : Option Addr) (c : Nat) (w : World) (g gt bn bb bg : Nat) (t : ByteArray) (b : Nat) (I : List Id32) (M : List Nat) (N : List NodeV) (G : List Id32) (h : ViewAt w g t b I (.iface 106 (.pointer (some ⟨gt, 0, none⟩)))) (hT : SeqAt w M gt bn bb bg N G) (hk : (o.k == 6) = false) :
    Calls Tryz.prog 64 #[.pointer (some ⟨g, 0, none⟩), .agg (markVC m), .agg (opC o A c)] w fun e w' => e = .returned (.tuple #[]) ∧ SeqAt w' M gt bn bb bg N (insC cmpId G o.ref) ∧ Keep [bg] w w' := by
  obtain ⟨k, n, key, val, ref, refs⟩ := o
  dsimp only at *
  unfold opC at *
  dsimp only at *
  have hB : Below w.heap.size w ((w.alloc (.cells (markVC m) 41)).alloc (.cells (opPC ⟨k, n, key, val, ref, .slice A refs.length c⟩) 52)) := ((Below.refl _ _).alloc (Nat.le_refl _) _).alloc (by simp) _
  have hc := (h.below hB).cell2
  have hT1 := hT.below hB
  have hrm : rowAt ((w.alloc (.cells (markVC m) 41)).alloc (.cells (opPC ⟨k, n, key, val, ref, .slice A refs.length c⟩) 52)) w.heap.size 0 34 = some (markVC m) := ((Keep.alloc (w.alloc (.cells (markVC m) 41)) _).row (by simp) (by simp) 0 34).trans (by simp [go_sem])
  have hr0 : rowAt ((w.alloc (.cells (markVC m) 41)).alloc (.cells (opPC ⟨k, n, key, val, ref, .slice A refs.length c⟩) 52)) w.heap.size 0 32 = some (idC m.id) := by have := rowAt_sub hrm (j := 0) (m := 32) (by omega); rwa [markVC_e0] at this
  have ci := fun w' (h' : SeqAt w' M gt bn bb bg N G) => sqdel ref w' M gt bn bb bg N G h'
  clear hT h
  go_enter Tryz.func64, Tryz.ntmps64
  go_wp2_with fail
  refine (ci _ hT1).mono ?_; rintro e w1 ⟨rfl, h1, hk1⟩
  have hfin : Keep [bg] w w1 := Keep.trans ((Keep.of_below hB).mono (S' := [bg]) (by simp)) hk1 (fun x hx => .inl hx)
  clear hB hc hT1 ci hk1 hrm hr0
  go_wp2_with fail
  go_end0
  exact ⟨rfl, h1, hfin⟩

end Go.Proofs.YtgfpjjppeldhbaaGreatDoor

/- Pairs of texts (api.Pair): as cells, and slices of them. -/
namespace Go.Proofs.YtgfpjjppeldhbaaGreatDoor
open Go.RowKit

structure Pair where
  key : ByteArray
  val : ByteArray
/-- Its cells. -/
def pairC (x : Pair) : Array Value := #[.string x.key] ++ #[.string x.val]
@[simp] theorem pairC_size (x : Pair) : (pairC x).size = 2 := by simp [pairC]
@[go_sem] theorem pairC_g0 (x : Pair) : (pairC x)[0]? = some (.string x.key) := by first | (simp [pairC, Array.getElem?_append]; done) | (rw [show pairC x = ((#[] : Array Value)) ++ #[.string x.key] ++ (#[.string x.val]) from by apply Array.ext'; simp [pairC]]; exact arr_at _ _ _ _ (by simp))
@[go_sem] theorem pairC_gg0 (x : Pair) (h : 0 < (pairC x).size) : (pairC x)[0]'h = .string x.key := Option.some.inj ((Array.getElem?_eq_getElem h).symm.trans (pairC_g0 x))
@[go_sem] theorem pairC_g1 (x : Pair) : (pairC x)[1]? = some (.string x.val) := by first | (simp [pairC, Array.getElem?_append]; done) | (rw [show pairC x = (#[.string x.key]) ++ #[.string x.val] ++ ((#[] : Array Value)) from by apply Array.ext'; simp [pairC]]; exact arr_at _ _ _ _ (by simp))
@[go_sem] theorem pairC_gg1 (x : Pair) (h : 1 < (pairC x).size) : (pairC x)[1]'h = .string x.val := Option.some.inj ((Array.getElem?_eq_getElem h).symm.trans (pairC_g1 x))
@[go_sem] theorem pairC_all (x : Pair) : (pairC x).extract 0 2 = pairC x := by have := Array.extract_size (xs := pairC x); rwa [pairC_size] at this
theorem pairC_inj {x y : Pair} (h : pairC x = pairC y) : x = y := by
  have h0 := congrArg (fun a => a[0]?) h
  simp only [pairC_g0, Option.some.injEq, Value.string.injEq] at h0
  have h1 := congrArg (fun a => a[1]?) h
  simp only [pairC_g1, Option.some.injEq, Value.string.injEq] at h1
  cases x; cases y; simp_all
theorem pairC_one (x : Pair) : ∀ u ∈ (pairC x).toList, u.oneCell' = true := by
  intro u hu
  simp only [pairC, Array.toList_append, List.mem_append] at hu
  rcases hu with hu | hu
  · simp at hu; subst hu; rfl
  · simp at hu; subst hu; rfl
def pair0 : Pair := ⟨⟨#[]⟩, ⟨#[]⟩⟩
theorem Pair_ext {x y : Pair} (h : x.key = y.key ∧ x.val = y.val) : x = y := by cases x; cases y; simp_all
instance : DecidableEq Pair := fun x y => if h : x.key = y.key ∧ x.val = y.val then isTrue (Pair_ext h) else isFalse (fun e => h (by subst e; simp))
theorem infoPair : (Tryz.prog.info? 98).map (·.size) = some 2 := by kernel_rfl
@[go_sem ↓] theorem zeroPair_run (w : World) : (zeroValue 98).run Tryz.prog w = .ok (.agg (pairC pair0)) w := by
  have h : (Tryz.prog.info? 98).bind (·.zero) = some (.agg (pairC pair0)) := by kernel_rfl
  cases hi : Tryz.prog.info? 98 with
  | none => rw [hi] at h; cases h
  | some i =>
    rw [hi] at h
    have hz : i.zero = some (.agg (pairC pair0)) := h
    simp [zeroValue, typeInfo, hi, hz]
@[go_sem ↓] theorem loadPair_rw (a : Addr) : loadVar 98 a = ldS 98 a := rfl
@[go_sem ↓] theorem storePair_rw (a : Addr) (v : Value) : storeVar 98 a v = stS 98 a v := rfl
@[go_sem] theorem loadPair_run (w : World) (g o : Nat) : (ldS 98 ⟨g, o, none⟩).run Tryz.prog w = match rowAt w g o 2 with | some cs => .ok (.agg cs) w | none => (loadVar 98 ⟨g, o, none⟩).run Tryz.prog w :=
  run_ldS Tryz.underlying98 rfl infoPair w g o
@[go_sem] theorem storePair_run (w : World) (g : Nat) (hg : g = w.heap.size) (z : Array Value) (hz : z.size = 2) (x : Pair) (e : TypeId) : (stS 98 ⟨g, 0, none⟩ (.agg (pairC x))).run Tryz.prog (w.alloc (.cells z e)) = .ok () (w.alloc (.cells (pairC x) e)) :=
  hg ▸ run_stS_new infoPair w z (pairC x) hz (pairC_size x) (pairC_one x)
theorem fieldsPair : Tryz.prog.underlying 98 = some (.struct (Tryz.prog.fieldsOf 98)) := by kernel_rfl
theorem placesPair (w : World) : ((Tryz.prog.fieldsOf 98).mapM fun (f : Field) => do pure (f.offset, ← sizeOf f.type)).run Tryz.prog w = .ok #[(0, 1), (1, 1)] w := by kernel_rfl
@[go_sem ↓] theorem buildPair_rw (parts : Array (Nat × Value)) : Instr.build 98 parts = bdS 98 parts := rfl
@[go_sem] theorem buildPair (a0 : ByteArray) (a1 : ByteArray) (w : World) : (bdS 98 #[(0, .string a0), (1, .string a1)]).run Tryz.prog w = .ok (.agg (pairC ⟨a0, a1⟩)) w := by
  refine run_build w fieldsPair _ (zeroPair_run w) _ (placesPair w) [(0, .string a0), (1, .string a1)] _ ?_
  rw [show pairC pair0 = (#[] : Array Value) ++ #[.string ⟨#[]⟩] ++ (#[.string ⟨#[]⟩]) from by first | (simp [pairC, pair0, Array.append_assoc]; done) | (apply Array.ext'; simp [pairC, pair0])]
  rw [fill_step (off := 0) (size := 1) rfl (by simp) (by simp) (by simp [Value.cells])]
  rw [show (#[] : Array Value) ++ (Value.string a0).cells ++ (#[.string ⟨#[]⟩]) = (#[.string a0]) ++ #[.string ⟨#[]⟩] ++ (#[] : Array Value) from by first | (simp [Value.cells, Array.append_assoc]; done) | (apply Array.ext'; simp [Value.cells]; done) | (apply Array.ext'; simp only [Array.toList_append]; simp [Value.cells])]
  rw [fill_step (off := 1) (size := 1) rfl (by simp) (by simp) (by simp [Value.cells])]
  first | (simp [Instr.fill, pairC, Array.append_assoc, Value.cells]; done) | (simp only [Instr.fill, pairC]; congr 1; apply Array.ext'; simp [Value.cells]; done) | (simp only [Instr.fill, pairC]; congr 1; done) | (simp only [Instr.fill, pairC]; done)
@[go_sem] theorem buildPair_0 (a0 : ByteArray) (w : World) : (bdS 98 #[(0, .string a0)]).run Tryz.prog w = .ok (.agg (pairC ⟨a0, ⟨#[]⟩⟩)) w := by
  refine run_build w fieldsPair _ (zeroPair_run w) _ (placesPair w) [(0, .string a0)] _ ?_
  rw [show pairC pair0 = (#[] : Array Value) ++ #[.string ⟨#[]⟩] ++ (#[.string ⟨#[]⟩]) from by first | (simp [pairC, pair0, Array.append_assoc]; done) | (apply Array.ext'; simp [pairC, pair0])]
  rw [fill_step (off := 0) (size := 1) rfl (by simp) (by simp) (by simp [Value.cells])]
  first | (simp [Instr.fill, pairC, Array.append_assoc, Value.cells]; done) | (simp only [Instr.fill, pairC]; congr 1; apply Array.ext'; simp [Value.cells]; done) | (simp only [Instr.fill, pairC]; congr 1; done) | (simp only [Instr.fill, pairC]; done)

theorem einfoPair : ElemInfo Tryz.prog 23 98 2 32 :=
  .of (z := .agg (pairC pair0)) Tryz.underlying23 (by kernel_rfl) (by kernel_rfl) (by kernel_rfl) (pairC_size _) (by omega)
@[go_sem ↓] theorem bsPair_rw (n : Nat) (parts : Array (Nat × Value)) : Instr.buildSlice 23 n parts = bsS 23 n parts := rfl
@[go_sem] theorem bsPair_run (w : World) (x : Pair) : (bsS 23 1 #[(0, .agg (pairC x))]).run Tryz.prog w = .ok (.slice (some ⟨w.heap.size, 0, none⟩) 1 1) (w.alloc (.cells (pairC x) 98)) :=
  run_bsS1 einfoPair (by omega) w (pairC x) (pairC_size x)

end Go.Proofs.YtgfpjjppeldhbaaGreatDoor

/- Package view: Value of the states that are listed. -/
namespace Go.Proofs.YtgfpjjppeldhbaaGreatDoor
open Go.RowKit

set_option maxRecDepth 100000 in
set_option maxHeartbeats 1000000 in
theorem vvalue_b (w : World) (g gt : Nat) (t : ByteArray) (b : Nat) (I : List Id32) (h : ViewAt w g t b I (.iface 102 (.pointer (some ⟨gt, 0, none⟩)))) (ht : t.size ≤ 9223372036854775807) (hk : kindB t = 2) (n : Nat) (L : List (Array Value))
    (hl : ∀ w', Below w.heap.size w w' → Calls Tryz.prog 58 #[.pointer (some ⟨gt, 0, none⟩)] w' fun e w'' => ∃ A cap, e = .returned (.slice A n cap) ∧ Own w'' w'.heap.size 98 2 A n cap L ∧ Below w'.heap.size w' w'') :
    Calls Tryz.prog 24 #[.pointer (some ⟨g, 0, none⟩)] w fun e w' => ∃ A cap, e = .returned (.agg (valVC ⟨2, 0, .slice A n cap⟩)) ∧ Own w' w.heap.size 98 2 A n cap L ∧ Below w.heap.size w w' := by
  have hB : Below w.heap.size w (w.alloc (.cells (valVC valV0) 25)) := (Below.refl _ _).alloc (Nat.le_refl _) _
  have h1 := h.below hB
  have hg1 : (w.alloc (.cells (valVC valV0) 25)).heap[w.heap.size]? = some (.cells (valVC valV0) 25 (0, 0)) := heap_alloc_new w _
  have c2 := fun w => kind_any t w ht
  rw [hk] at c2
  go_enter Tryz.func24, Tryz.ntmps24
  go_upto_region 1 with fail
  obtain ⟨ga, hga⟩ : ∃ ga, w.heap.size = ga := ⟨_, rfl⟩
  have Hga := Lib.hid hga
  rw [hga] at hg1 hB hl ⊢
  obtain ⟨W, hW⟩ : ∃ W, W = w.alloc (.cells (valVC valV0) 25) := ⟨_, rfl⟩
  rw [← hW] at h1 hg1 hB ⊢
  clear hW hga
  have hc1 := h1.cell1
  go_wp2_with fail
  refine (vnone_live W g b hc1).mono ?_; rintro e w1 ⟨rfl, rfl⟩
  have hc0 := h1.cell0
  go_wp2_with fail
  refine (c2 _).mono ?_; rintro e w2 ⟨rfl, hb2⟩
  have h2 := h1.below hb2
  have hg2 := (hb2.block ga (Array.getElem?_eq_some_iff.1 hg1).1).trans hg1
  have hB2 : Below ga w w2 := hB.trans (hb2.mono (by have := hB.size; have := Hga.out; omega))
  have hs2 : ga < w2.heap.size := (Array.getElem?_eq_some_iff.1 hg2).1
  clear hc0 hc1 h1 hg1 hB hb2 h c2
  have hb3 : Below w2.heap.size w2 (w2.alloc (.cells (valVC ⟨2, 0, .slice none 0 0⟩) 25)) := (Below.refl _ _).alloc (Nat.le_refl _) _
  have h3 := h2.below hb3
  have hg3 := (hb3.block ga hs2).trans hg2
  have hB3 : Below ga w (w2.alloc (.cells (valVC ⟨2, 0, .slice none 0 0⟩) 25)) := hB2.trans (hb3.mono (by omega))
  have hv3 : (w2.alloc (.cells (valVC ⟨2, 0, .slice none 0 0⟩) 25)).heap[w2.heap.size]? = some (.cells (valVC ⟨2, 0, .slice none 0 0⟩) 25 (0, 0)) := heap_alloc_new w2 _
  obtain ⟨gv, hgv⟩ : ∃ gv, w2.heap.size = gv := ⟨_, rfl⟩
  have Hgv := Lib.hid hgv
  clear h2 hg2 hB2 hb3
  go_upto_region 4 with fail
  rw [hgv] at hv3 hs2
  obtain ⟨W3, hW3⟩ : ∃ W3, W3 = (w2.alloc (.cells (valVC ⟨2, 0, .slice none 0 0⟩) 25)) := ⟨_, rfl⟩
  rw [← hW3] at h3 hg3 hB3 hv3 ⊢
  clear hW3 hgv
  have hc2 := h3.cell2
  go_upto_region 10 with fail
  have hl3 := hl W3 hB3
  go_wp2_with fail
  refine hl3.mono ?_; rintro e w4 ⟨A, cap, rfl, hown, hb4⟩
  have hgv3 : gv < W3.heap.size := (Array.getElem?_eq_some_iff.1 hv3).1
  have hga3 : ga < W3.heap.size := (Array.getElem?_eq_some_iff.1 hg3).1
  have hvx := (hb4.block gv hgv3).trans hv3
  have hgx := (hb4.block ga hga3).trans hg3
  have hs4 := hb4.size
  have hBx : Below ga w w4 := hB3.trans (hb4.mono (by omega))
  have hf : w4.frozen? ⟨gv, 2, none⟩ = false := by simp [World.frozen?, hvx]
  have hcv : w4.cell? ⟨gv, 2, none⟩ = some (.slice none 0 0) := by rw [cell_of_row w4 gv 2 _ _ _ hvx]; simp [go_sem]
  have hset : (valVC ⟨2, 0, .slice none 0 0⟩).setIfInBounds 2 (.slice A n cap) = valVC ⟨2, 0, .slice A n cap⟩ := by apply Array.ext'; simp [valVC]
  have hv4 : (w4.setCell ⟨gv, 2, none⟩ (.slice A n cap)).heap[gv]? = some (.cells (valVC ⟨2, 0, .slice A n cap⟩) 25 (0, 0)) := by rw [heap_setCell_same hvx, hset]
  have hks := Keep.setCell w4 ⟨gv, 2, none⟩ (.slice A n cap)
  have hg4 : (w4.setCell ⟨gv, 2, none⟩ (.slice A n cap)).heap[ga]? = some (.cells (valVC valV0) 25 (0, 0)) := (hks.block ga (by omega) (by simp; omega)).trans hgx
  have hB4 : Below ga w (w4.setCell ⟨gv, 2, none⟩ (.slice A n cap)) := hBx.trans (hks.below (by omega) (by simp; omega))
  have hown4 := hown.kept hks (fun x hx => by have := hown.at_base hx; simp; omega)
  clear hset hks hgx hBx h3 hc2 hown hb4 hg3 hB3 hl hl3
  go_upto_region 20 with fail
  obtain ⟨W4, hW4⟩ : ∃ W4, W4 = w4.setCell ⟨gv, 2, none⟩ (.slice A n cap) := ⟨_, rfl⟩
  rw [← hW4] at hv4 hg4 hB4 hown4 ⊢
  clear hW4 hf hvx hcv hv3
  have Hsz := Lib.hid (And.intro hga3 hs4)
  have hrow : rowAt W4 gv 0 3 = some (valVC ⟨2, 0, .slice A n cap⟩) := by unfold rowAt; rw [hv4]; simp [go_sem]
  have hsto := run_stS_at (P := Tryz.prog) infoValV W4 ga (valVC valV0) (valVC ⟨2, 0, .slice A n cap⟩) _ hg4 (by simp) (by simp) (valVC_one _ rfl)
  have hkf : Keep [ga] W4 (W4.setRow ga (valVC ⟨2, 0, .slice A n cap⟩)) := ⟨rfl, rfl, rfl, by simp [World.setRow], fun x _ hx => setRow_other W4 ga x _ (by simpa using hx)⟩
  have Hfin := Lib.hid (setRow_heap W4 ga _ (valVC ⟨2, 0, .slice A n cap⟩) _ _ hg4)
  have HBf := Lib.hid (hB4.trans (hkf.below (by have := hB4.size; have := Hga.out; omega) (by simp)))
  have HO := Lib.hid (hown4.kept hkf (fun x hx => by have := hown4.at_base hx; simp; omega))
  clear hkf hg4 hB4 hv4 hown4
  go_wp2_with fail
  refine bodyPost_ret (results_cell_row Tryz.results24 _ _ ga 25 (valVC ⟨2, 0, .slice A n cap⟩) (0, 0) _ rfl Hfin.out Tryz.underlying25 rfl (by rw [valVC_size]; exact infoValV)) rfl ?_
  exact ⟨A, cap, rfl, HO.out.mono (by have := Hsz.out; have := Hga.out; omega), by rw [Hga.out]; exact HBf.out⟩

set_option maxRecDepth 100000 in
set_option maxHeartbeats 1000000 in
theorem vvalue_l (w : World) (g gt : Nat) (t : ByteArray) (b : Nat) (I : List Id32) (h : ViewAt w g t b I (.iface 104 (.pointer (some ⟨gt, 0, none⟩)))) (ht : t.size ≤ 9223372036854775807) (hk : kindB t = 3) (n : Nat) (L : List (Array Value))
    (hl : ∀ w', Below w.heap.size w w' → Calls Tryz.prog 59 #[.pointer (some ⟨gt, 0, none⟩)] w' fun e w'' => ∃ A cap, e = .returned (.slice A n cap) ∧ Own w'' w'.heap.size 98 2 A n cap L ∧ Below w'.heap.size w' w'') :
    Calls Tryz.prog 24 #[.pointer (some ⟨g, 0, none⟩)] w fun e w' => ∃ A cap, e = .returned (.agg (valVC ⟨3, 0, .slice A n cap⟩)) ∧ Own w' w.heap.size 98 2 A n cap L ∧ Below w.heap.size w w' := by
  have hB : Below w.heap.size w (w.alloc (.cells (valVC valV0) 25)) := (Below.refl _ _).alloc (Nat.le_refl _) _
  have h1 := h.below hB
  have hg1 : (w.alloc (.cells (valVC valV0) 25)).heap[w.heap.size]? = some (.cells (valVC valV0) 25 (0, 0)) := heap_alloc_new w _
  have c2 := fun w => kind_any t w ht
  rw [hk] at c2
  go_enter Tryz.func24, Tryz.ntmps24
  go_upto_region 1 with fail
  obtain ⟨ga, hga⟩ : ∃ ga, w.heap.size = ga := ⟨_, rfl⟩
  have Hga := Lib.hid hga
  rw [hga] at hg1 hB hl ⊢
  obtain ⟨W, hW⟩ : ∃ W, W = w.alloc (.cells (valVC valV0) 25) := ⟨_, rfl⟩
  rw [← hW] at h1 hg1 hB ⊢
  clear hW hga
  have hc1 := h1.cell1
  go_wp2_with fail
  refine (vnone_live W g b hc1).mono ?_; rintro e w1 ⟨rfl, rfl⟩
  have hc0 := h1.cell0
  go_wp2_with fail
  refine (c2 _).mono ?_; rintro e w2 ⟨rfl, hb2⟩
  have h2 := h1.below hb2
  have hg2 := (hb2.block ga (Array.getElem?_eq_some_iff.1 hg1).1).trans hg1
  have hB2 : Below ga w w2 := hB.trans (hb2.mono (by have := hB.size; have := Hga.out; omega))
  have hs2 : ga < w2.heap.size := (Array.getElem?_eq_some_iff.1 hg2).1
  clear hc0 hc1 h1 hg1 hB hb2 h c2
  have hb3 : Below w2.heap.size w2 (w2.alloc (.cells (valVC ⟨3, 0, .slice none 0 0⟩) 25)) := (Below.refl _ _).alloc (Nat.le_refl _) _
  have h3 := h2.below hb3
  have hg3 := (hb3.block ga hs2).trans hg2
  have hB3 : Below ga w (w2.alloc (.cells (valVC ⟨3, 0, .slice none 0 0⟩) 25)) := hB2.trans (hb3.mono (by omega))
  have hv3 : (w2.alloc (.cells (valVC ⟨3, 0, .slice none 0 0⟩) 25)).heap[w2.heap.size]? = some (.cells (valVC ⟨3, 0, .slice none 0 0⟩) 25 (0, 0)) := heap_alloc_new w2 _
  obtain ⟨gv, hgv⟩ : ∃ gv, w2.heap.size = gv := ⟨_, rfl⟩
  have Hgv := Lib.hid hgv
  clear h2 hg2 hB2 hb3
  go_upto_region 4 with fail
  rw [hgv] at hv3 hs2
  obtain ⟨W3, hW3⟩ : ∃ W3, W3 = (w2.alloc (.cells (valVC ⟨3, 0, .slice none 0 0⟩) 25)) := ⟨_, rfl⟩
  rw [← hW3] at h3 hg3 hB3 hv3 ⊢
  clear hW3 hgv
  have hc2 := h3.cell2
  go_upto_region 13 with fail
  have hl3 := hl W3 hB3
  go_wp2_with fail
  refine hl3.mono ?_; rintro e w4 ⟨A, cap, rfl, hown, hb4⟩
  have hgv3 : gv < W3.heap.size := (Array.getElem?_eq_some_iff.1 hv3).1
  have hga3 : ga < W3.heap.size := (Array.getElem?_eq_some_iff.1 hg3).1
  have hvx := (hb4.block gv hgv3).trans hv3
  have hgx := (hb4.block ga hga3).trans hg3
  have hs4 := hb4.size
  have hBx : Below ga w w4 := hB3.trans (hb4.mono (by omega))
  have hf : w4.frozen? ⟨gv, 2, none⟩ = false := by simp [World.frozen?, hvx]
  have hcv : w4.cell? ⟨gv, 2, none⟩ = some (.slice none 0 0) := by rw [cell_of_row w4 gv 2 _ _ _ hvx]; simp [go_sem]
  have hset : (valVC ⟨3, 0, .slice none 0 0⟩).setIfInBounds 2 (.slice A n cap) = valVC ⟨3, 0, .slice A n cap⟩ := by apply Array.ext'; simp [valVC]
  have hv4 : (w4.setCell ⟨gv, 2, none⟩ (.slice A n cap)).heap[gv]? = some (.cells (valVC ⟨3, 0, .slice A n cap⟩) 25 (0, 0)) := by rw [heap_setCell_same hvx, hset]
  have hks := Keep.setCell w4 ⟨gv, 2, none⟩ (.slice A n cap)
  have hg4 : (w4.setCell ⟨gv, 2, none⟩ (.slice A n cap)).heap[ga]? = some (.cells (valVC valV0) 25 (0, 0)) := (hks.block ga (by omega) (by simp; omega)).trans hgx
  have hB4 : Below ga w (w4.setCell ⟨gv, 2, none⟩ (.slice A n cap)) := hBx.trans (hks.below (by omega) (by simp; omega))
  have hown4 := hown.kept hks (fun x hx => by have := hown.at_base hx; simp; omega)
  clear hset hks hgx hBx h3 hc2 hown hb4 hg3 hB3 hl hl3
  go_upto_region 20 with fail
  obtain ⟨W4, hW4⟩ : ∃ W4, W4 = w4.setCell ⟨gv, 2, none⟩ (.slice A n cap) := ⟨_, rfl⟩
  rw [← hW4] at hv4 hg4 hB4 hown4 ⊢
  clear hW4 hf hvx hcv hv3
  have Hsz := Lib.hid (And.intro hga3 hs4)
  have hrow : rowAt W4 gv 0 3 = some (valVC ⟨3, 0, .slice A n cap⟩) := by unfold rowAt; rw [hv4]; simp [go_sem]
  have hsto := run_stS_at (P := Tryz.prog) infoValV W4 ga (valVC valV0) (valVC ⟨3, 0, .slice A n cap⟩) _ hg4 (by simp) (by simp) (valVC_one _ rfl)
  have hkf : Keep [ga] W4 (W4.setRow ga (valVC ⟨3, 0, .slice A n cap⟩)) := ⟨rfl, rfl, rfl, by simp [World.setRow], fun x _ hx => setRow_other W4 ga x _ (by simpa using hx)⟩
  have Hfin := Lib.hid (setRow_heap W4 ga _ (valVC ⟨3, 0, .slice A n cap⟩) _ _ hg4)
  have HBf := Lib.hid (hB4.trans (hkf.below (by have := hB4.size; have := Hga.out; omega) (by simp)))
  have HO := Lib.hid (hown4.kept hkf (fun x hx => by have := hown4.at_base hx; simp; omega))
  clear hkf hg4 hB4 hv4 hown4
  go_wp2_with fail
  refine bodyPost_ret (results_cell_row Tryz.results24 _ _ ga 25 (valVC ⟨3, 0, .slice A n cap⟩) (0, 0) _ rfl Hfin.out Tryz.underlying25 rfl (by rw [valVC_size]; exact infoValV)) rfl ?_
  exact ⟨A, cap, rfl, HO.out.mono (by have := Hsz.out; have := Hga.out; omega), by rw [Hga.out]; exact HBf.out⟩

set_option maxRecDepth 100000 in
set_option maxHeartbeats 1000000 in
theorem vvalue_m (w : World) (g gt : Nat) (t : ByteArray) (b : Nat) (I : List Id32) (h : ViewAt w g t b I (.iface 105 (.pointer (some ⟨gt, 0, none⟩)))) (ht : t.size ≤ 9223372036854775807) (hk : kindB t = 4) (n : Nat) (L : List (Array Value))
    (hl : ∀ w', Below w.heap.size w w' → Calls Tryz.prog 60 #[.pointer (some ⟨gt, 0, none⟩)] w' fun e w'' => ∃ A cap, e = .returned (.slice A n cap) ∧ Own w'' w'.heap.size 98 2 A n cap L ∧ Below w'.heap.size w' w'') :
    Calls Tryz.prog 24 #[.pointer (some ⟨g, 0, none⟩)] w fun e w' => ∃ A cap, e = .returned (.agg (valVC ⟨4, 0, .slice A n cap⟩)) ∧ Own w' w.heap.size 98 2 A n cap L ∧ Below w.heap.size w w' := by
  have hB : Below w.heap.size w (w.alloc (.cells (valVC valV0) 25)) := (Below.refl _ _).alloc (Nat.le_refl _) _
  have h1 := h.below hB
  have hg1 : (w.alloc (.cells (valVC valV0) 25)).heap[w.heap.size]? = some (.cells (valVC valV0) 25 (0, 0)) := heap_alloc_new w _
  have c2 := fun w => kind_any t w ht
  rw [hk] at c2
  go_enter Tryz.func24, Tryz.ntmps24
  go_upto_region 1 with fail
  obtain ⟨ga, hga⟩ : ∃ ga, w.heap.size = ga := ⟨_, rfl⟩
  have Hga := Lib.hid hga
  rw [hga] at hg1 hB hl ⊢
  obtain ⟨W, hW⟩ : ∃ W, W = w.alloc (.cells (valVC valV0) 25) := ⟨_, rfl⟩
  rw [← hW] at h1 hg1 hB ⊢
  clear hW hga
  have hc1 := h1.cell1
  go_wp2_with fail
  refine (vnone_live W g b hc1).mono ?_; rintro e w1 ⟨rfl, rfl⟩
  have hc0 := h1.cell0
  go_wp2_with fail
  refine (c2 _).mono ?_; rintro e w2 ⟨rfl, hb2⟩
  have h2 := h1.below hb2
  have hg2 := (hb2.block ga (Array.getElem?_eq_some_iff.1 hg1).1).trans hg1
  have hB2 : Below ga w w2 := hB.trans (hb2.mono (by have := hB.size; have := Hga.out; omega))
  have hs2 : ga < w2.heap.size := (Array.getElem?_eq_some_iff.1 hg2).1
  clear hc0 hc1 h1 hg1 hB hb2 h c2
  have hb3 : Below w2.heap.size w2 (w2.alloc (.cells (valVC ⟨4, 0, .slice none 0 0⟩) 25)) := (Below.refl _ _).alloc (Nat.le_refl _) _
  have h3 := h2.below hb3
  have hg3 := (hb3.block ga hs2).trans hg2
  have hB3 : Below ga w (w2.alloc (.cells (valVC ⟨4, 0, .slice none 0 0⟩) 25)) := hB2.trans (hb3.mono (by omega))
  have hv3 : (w2.alloc (.cells (valVC ⟨4, 0, .slice none 0 0⟩) 25)).heap[w2.heap.size]? = some (.cells (valVC ⟨4, 0, .slice none 0 0⟩) 25 (0, 0)) := heap_alloc_new w2 _
  obtain ⟨gv, hgv⟩ : ∃ gv, w2.heap.size = gv := ⟨_, rfl⟩
  have Hgv := Lib.hid hgv
  clear h2 hg2 hB2 hb3
  go_upto_region 4 with fail
  rw [hgv] at hv3 hs2
  obtain ⟨W3, hW3⟩ : ∃ W3, W3 = (w2.alloc (.cells (valVC ⟨4, 0, .slice none 0 0⟩) 25)) := ⟨_, rfl⟩
  rw [← hW3] at h3 hg3 hB3 hv3 ⊢
  clear hW3 hgv
  have hc2 := h3.cell2
  go_upto_region 16 with fail
  have hl3 := hl W3 hB3
  go_wp2_with fail
  refine hl3.mono ?_; rintro e w4 ⟨A, cap, rfl, hown, hb4⟩
  have hgv3 : gv < W3.heap.size := (Array.getElem?_eq_some_iff.1 hv3).1
  have hga3 : ga < W3.heap.size := (Array.getElem?_eq_some_iff.1 hg3).1
  have hvx := (hb4.block gv hgv3).trans hv3
  have hgx := (hb4.block ga hga3).trans hg3
  have hs4 := hb4.size
  have hBx : Below ga w w4 := hB3.trans (hb4.mono (by omega))
  have hf : w4.frozen? ⟨gv, 2, none⟩ = false := by simp [World.frozen?, hvx]
  have hcv : w4.cell? ⟨gv, 2, none⟩ = some (.slice none 0 0) := by rw [cell_of_row w4 gv 2 _ _ _ hvx]; simp [go_sem]
  have hset : (valVC ⟨4, 0, .slice none 0 0⟩).setIfInBounds 2 (.slice A n cap) = valVC ⟨4, 0, .slice A n cap⟩ := by apply Array.ext'; simp [valVC]
  have hv4 : (w4.setCell ⟨gv, 2, none⟩ (.slice A n cap)).heap[gv]? = some (.cells (valVC ⟨4, 0, .slice A n cap⟩) 25 (0, 0)) := by rw [heap_setCell_same hvx, hset]
  have hks := Keep.setCell w4 ⟨gv, 2, none⟩ (.slice A n cap)
  have hg4 : (w4.setCell ⟨gv, 2, none⟩ (.slice A n cap)).heap[ga]? = some (.cells (valVC valV0) 25 (0, 0)) := (hks.block ga (by omega) (by simp; omega)).trans hgx
  have hB4 : Below ga w (w4.setCell ⟨gv, 2, none⟩ (.slice A n cap)) := hBx.trans (hks.below (by omega) (by simp; omega))
  have hown4 := hown.kept hks (fun x hx => by have := hown.at_base hx; simp; omega)
  clear hset hks hgx hBx h3 hc2 hown hb4 hg3 hB3 hl hl3
  go_upto_region 20 with fail
  obtain ⟨W4, hW4⟩ : ∃ W4, W4 = w4.setCell ⟨gv, 2, none⟩ (.slice A n cap) := ⟨_, rfl⟩
  rw [← hW4] at hv4 hg4 hB4 hown4 ⊢
  clear hW4 hf hvx hcv hv3
  have Hsz := Lib.hid (And.intro hga3 hs4)
  have hrow : rowAt W4 gv 0 3 = some (valVC ⟨4, 0, .slice A n cap⟩) := by unfold rowAt; rw [hv4]; simp [go_sem]
  have hsto := run_stS_at (P := Tryz.prog) infoValV W4 ga (valVC valV0) (valVC ⟨4, 0, .slice A n cap⟩) _ hg4 (by simp) (by simp) (valVC_one _ rfl)
  have hkf : Keep [ga] W4 (W4.setRow ga (valVC ⟨4, 0, .slice A n cap⟩)) := ⟨rfl, rfl, rfl, by simp [World.setRow], fun x _ hx => setRow_other W4 ga x _ (by simpa using hx)⟩
  have Hfin := Lib.hid (setRow_heap W4 ga _ (valVC ⟨4, 0, .slice A n cap⟩) _ _ hg4)
  have HBf := Lib.hid (hB4.trans (hkf.below (by have := hB4.size; have := Hga.out; omega) (by simp)))
  have HO := Lib.hid (hown4.kept hkf (fun x hx => by have := hown4.at_base hx; simp; omega))
  clear hkf hg4 hB4 hv4 hown4
  go_wp2_with fail
  refine bodyPost_ret (results_cell_row Tryz.results24 _ _ ga 25 (valVC ⟨4, 0, .slice A n cap⟩) (0, 0) _ rfl Hfin.out Tryz.underlying25 rfl (by rw [valVC_size]; exact infoValV)) rfl ?_
  exact ⟨A, cap, rfl, HO.out.mono (by have := Hsz.out; have := Hga.out; omega), by rw [Hga.out]; exact HBf.out⟩

set_option maxRecDepth 100000 in
set_option maxHeartbeats 1000000 in
theorem vvalue_s (w : World) (g gt : Nat) (t : ByteArray) (b : Nat) (I : List Id32) (h : ViewAt w g t b I (.iface 106 (.pointer (some ⟨gt, 0, none⟩)))) (ht : t.size ≤ 9223372036854775807) (hk : kindB t = 5) (n : Nat) (L : List (Array Value))
    (hl : ∀ w', Below w.heap.size w w' → Calls Tryz.prog 61 #[.pointer (some ⟨gt, 0, none⟩)] w' fun e w'' => ∃ A cap, e = .returned (.slice A n cap) ∧ Own w'' w'.heap.size 98 2 A n cap L ∧ Below w'.heap.size w' w'') :
    Calls Tryz.prog 24 #[.pointer (some ⟨g, 0, none⟩)] w fun e w' => ∃ A cap, e = .returned (.agg (valVC ⟨5, 0, .slice A n cap⟩)) ∧ Own w' w.heap.size 98 2 A n cap L ∧ Below w.heap.size w w' := by
  have hB : Below w.heap.size w (w.alloc (.cells (valVC valV0) 25)) := (Below.refl _ _).alloc (Nat.le_refl _) _
  have h1 := h.below hB
  have hg1 : (w.alloc (.cells (valVC valV0) 25)).heap[w.heap.size]? = some (.cells (valVC valV0) 25 (0, 0)) := heap_alloc_new w _
  have c2 := fun w => kind_any t w ht
  rw [hk] at c2
  go_enter Tryz.func24, Tryz.ntmps24
  go_upto_region 1 with fail
  obtain ⟨ga, hga⟩ : ∃ ga, w.heap.size = ga := ⟨_, rfl⟩
  have Hga := Lib.hid hga
  rw [hga] at hg1 hB hl ⊢
  obtain ⟨W, hW⟩ : ∃ W, W = w.alloc (.cells (valVC valV0) 25) := ⟨_, rfl⟩
  rw [← hW] at h1 hg1 hB ⊢
  clear hW hga
  have hc1 := h1.cell1
  go_wp2_with fail
  refine (vnone_live W g b hc1).mono ?_; rintro e w1 ⟨rfl, rfl⟩
  have hc0 := h1.cell0
  go_wp2_with fail
  refine (c2 _).mono ?_; rintro e w2 ⟨rfl, hb2⟩
  have h2 := h1.below hb2
  have hg2 := (hb2.block ga (Array.getElem?_eq_some_iff.1 hg1).1).trans hg1
  have hB2 : Below ga w w2 := hB.trans (hb2.mono (by have := hB.size; have := Hga.out; omega))
  have hs2 : ga < w2.heap.size := (Array.getElem?_eq_some_iff.1 hg2).1
  clear hc0 hc1 h1 hg1 hB hb2 h c2
  have hb3 : Below w2.heap.size w2 (w2.alloc (.cells (valVC ⟨5, 0, .slice none 0 0⟩) 25)) := (Below.refl _ _).alloc (Nat.le_refl _) _
  have h3 := h2.below hb3
  have hg3 := (hb3.block ga hs2).trans hg2
  have hB3 : Below ga w (w2.alloc (.cells (valVC ⟨5, 0, .slice none 0 0⟩) 25)) := hB2.trans (hb3.mono (by omega))
  have hv3 : (w2.alloc (.cells (valVC ⟨5, 0, .slice none 0 0⟩) 25)).heap[w2.heap.size]? = some (.cells (valVC ⟨5, 0, .slice none 0 0⟩) 25 (0, 0)) := heap_alloc_new w2 _
  obtain ⟨gv, hgv⟩ : ∃ gv, w2.heap.size = gv := ⟨_, rfl⟩
  have Hgv := Lib.hid hgv
  clear h2 hg2 hB2 hb3
  go_upto_region 4 with fail
  rw [hgv] at hv3 hs2
  obtain ⟨W3, hW3⟩ : ∃ W3, W3 = (w2.alloc (.cells (valVC ⟨5, 0, .slice none 0 0⟩) 25)) := ⟨_, rfl⟩
  rw [← hW3] at h3 hg3 hB3 hv3 ⊢
  clear hW3 hgv
  have hc2 := h3.cell2
  go_upto_region 19 with fail
  have hl3 := hl W3 hB3
  go_wp2_with fail
  refine hl3.mono ?_; rintro e w4 ⟨A, cap, rfl, hown, hb4⟩
  have hgv3 : gv < W3.heap.size := (Array.getElem?_eq_some_iff.1 hv3).1
  have hga3 : ga < W3.heap.size := (Array.getElem?_eq_some_iff.1 hg3).1
  have hvx := (hb4.block gv hgv3).trans hv3
  have hgx := (hb4.block ga hga3).trans hg3
  have hs4 := hb4.size
  have hBx : Below ga w w4 := hB3.trans (hb4.mono (by omega))
  have hf : w4.frozen? ⟨gv, 2, none⟩ = false := by simp [World.frozen?, hvx]
  have hcv : w4.cell? ⟨gv, 2, none⟩ = some (.slice none 0 0) := by rw [cell_of_row w4 gv 2 _ _ _ hvx]; simp [go_sem]
  have hset : (valVC ⟨5, 0, .slice none 0 0⟩).setIfInBounds 2 (.slice A n cap) = valVC ⟨5, 0, .slice A n cap⟩ := by apply Array.ext'; simp [valVC]
  have hv4 : (w4.setCell ⟨gv, 2, none⟩ (.slice A n cap)).heap[gv]? = some (.cells (valVC ⟨5, 0, .slice A n cap⟩) 25 (0, 0)) := by rw [heap_setCell_same hvx, hset]
  have hks := Keep.setCell w4 ⟨gv, 2, none⟩ (.slice A n cap)
  have hg4 : (w4.setCell ⟨gv, 2, none⟩ (.slice A n cap)).heap[ga]? = some (.cells (valVC valV0) 25 (0, 0)) := (hks.block ga (by omega) (by simp; omega)).trans hgx
  have hB4 : Below ga w (w4.setCell ⟨gv, 2, none⟩ (.slice A n cap)) := hBx.trans (hks.below (by omega) (by simp; omega))
  have hown4 := hown.kept hks (fun x hx => by have := hown.at_base hx; simp; omega)
  clear hset hks hgx hBx h3 hc2 hown hb4 hg3 hB3 hl hl3
  go_upto_region 20 with fail
  obtain ⟨W4, hW4⟩ : ∃ W4, W4 = w4.setCell ⟨gv, 2, none⟩ (.slice A n cap) := ⟨_, rfl⟩
  rw [← hW4] at hv4 hg4 hB4 hown4 ⊢
  clear hW4 hf hvx hcv hv3
  have Hsz := Lib.hid (And.intro hga3 hs4)
  have hrow : rowAt W4 gv 0 3 = some (valVC ⟨5, 0, .slice A n cap⟩) := by unfold rowAt; rw [hv4]; simp [go_sem]
  have hsto := run_stS_at (P := Tryz.prog) infoValV W4 ga (valVC valV0) (valVC ⟨5, 0, .slice A n cap⟩) _ hg4 (by simp) (by simp) (valVC_one _ rfl)
  have hkf : Keep [ga] W4 (W4.setRow ga (valVC ⟨5, 0, .slice A n cap⟩)) := ⟨rfl, rfl, rfl, by simp [World.setRow], fun x _ hx => setRow_other W4 ga x _ (by simpa using hx)⟩
  have Hfin := Lib.hid (setRow_heap W4 ga _ (valVC ⟨5, 0, .slice A n cap⟩) _ _ hg4)
  have HBf := Lib.hid (hB4.trans (hkf.below (by have := hB4.size; have := Hga.out; omega) (by simp)))
  have HO := Lib.hid (hown4.kept hkf (fun x hx => by have := hown4.at_base hx; simp; omega))
  clear hkf hg4 hB4 hv4 hown4
  go_wp2_with fail
  refine bodyPost_ret (results_cell_row Tryz.results24 _ _ ga 25 (valVC ⟨5, 0, .slice A n cap⟩) (0, 0) _ rfl Hfin.out Tryz.underlying25 rfl (by rw [valVC_size]; exact infoValV)) rfl ?_
  exact ⟨A, cap, rfl, HO.out.mono (by have := Hsz.out; have := Hga.out; omega), by rw [Hga.out]; exact HBf.out⟩

end Go.Proofs.YtgfpjjppeldhbaaGreatDoor
