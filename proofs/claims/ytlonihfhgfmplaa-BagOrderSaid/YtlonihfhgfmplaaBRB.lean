/- The reference of bags: additions and removals as they came: Add, Remove. -/
import Derived.Test.YtlonihfhgfmplaaBSort
import Derived.Test.YtlonihfhgfmplaaOct
namespace Go.Proofs.Ytlonihfhgfmplaa
open Go.RowKit

/-- What lies behind a pointer to the reference's Bag. -/
def RefAt (w : World) (g : Nat) (X G : List BRow) : Prop :=
  ∃ A n cap A' n' cap', w.heap[g]? = some (.cells #[.slice A n cap, .slice A' n' cap'] 74 (0, 0)) ∧ RowsIn w A n X ∧ RowsIn w A' n' G ∧ (A = none → cap = 0) ∧ (A' = none → cap' = 0) ∧ (∀ x ∈ blk A, g < x) ∧ (∀ x ∈ blk A', g < x)
section
variable {w w' : World} {g : Nat} {X G : List BRow}
theorem RefAt.lt (h : RefAt w g X G) : g < w.heap.size := by
  obtain ⟨A, n, cap, A', n', cap', hg, _⟩ := h
  exact (Array.getElem?_eq_some_iff.1 hg).1
theorem RefAt.kept {S : List Nat} (h : RefAt w g X G) (k : Keep S w w') (hS : ∀ s ∈ S, s < g) : RefAt w' g X G := by
  have hl := h.lt
  obtain ⟨A, n, cap, A', n', cap', hg, h1, h2, f1, f2, d1, d2⟩ := h
  exact ⟨A, n, cap, A', n', cap', (k.block g hl (fun hm => by have := hS g hm; omega)).trans hg, h1.kept k (fun x hx hm => by have := hS x hm; have := d1 x hx; omega), h2.kept k (fun x hx hm => by have := hS x hm; have := d2 x hx; omega), f1, f2, d1, d2⟩
theorem RefAt.below (h : RefAt w g X G) (k : Below w.heap.size w w') : RefAt w' g X G := h.kept (Keep.of_below k) (by simp)
end
/-- The same without the order of the blocks (a bag that was built last). -/
def RefIn (w : World) (g : Nat) (X G : List BRow) : Prop :=
  ∃ A n cap A' n' cap', w.heap[g]? = some (.cells #[.slice A n cap, .slice A' n' cap'] 74 (0, 0)) ∧ RowsIn w A n X ∧ RowsIn w A' n' G
theorem RefAt.refIn {w : World} {g : Nat} {X G : List BRow} (h : RefAt w g X G) : RefIn w g X G := by
  obtain ⟨A, n, cap, A', n', cap', hg, h1, h2, _⟩ := h
  exact ⟨A, n, cap, A', n', cap', hg, h1, h2⟩
theorem RefIn.lt {w : World} {g : Nat} {X G : List BRow} (h : RefIn w g X G) : g < w.heap.size := by
  obtain ⟨A, n, cap, A', n', cap', hg, _⟩ := h
  exact (Array.getElem?_eq_some_iff.1 hg).1
theorem RefIn.below {w w' : World} {g : Nat} {X G : List BRow} (h : RefIn w g X G) (k : Below w.heap.size w w') : RefIn w' g X G := by
  have hl := h.lt
  obtain ⟨A, n, cap, A', n', cap', hg, h1, h2⟩ := h
  exact ⟨A, n, cap, A', n', cap', (k.block g hl).trans hg, SlR.below h1 k, SlR.below h2 k⟩
theorem ref_set0 {w : World} {g : Nat} {a b v : Value} {t : TypeId} (h : w.heap[g]? = some (.cells #[a, b] t (0, 0))) : (w.setCell ⟨g, 0, none⟩ v).heap[g]? = some (.cells #[v, b] t (0, 0)) := by
  rw [heap_setCell_same h]; rfl
theorem ref_set1 {w : World} {g : Nat} {a b v : Value} {t : TypeId} (h : w.heap[g]? = some (.cells #[a, b] t (0, 0))) : (w.setCell ⟨g, 1, none⟩ v).heap[g]? = some (.cells #[a, v] t (0, 0)) := by
  rw [heap_setCell_same h]; rfl

theorem oneR (x : BRow) : ∀ r ∈ [bRowC x], ∀ u ∈ r.toList, u.oneCell' = true := by
  intro r hr; simp at hr; subst hr; exact bRowC_one x
theorem onesR (X : List BRow) : ∀ r ∈ X.map bRowC, ∀ u ∈ r.toList, u.oneCell' = true := by
  intro r hr; obtain ⟨x, _, rfl⟩ := List.mem_map.1 hr; exact bRowC_one x

set_option maxRecDepth 100000 in
set_option maxHeartbeats 2000000 in
theorem radd_ok (d : Id32) (v : ByteArray) (w : World) (g : Nat) (X G : List BRow) (h : RefAt w g X G) (hv : v.size ≤ 16) (hX : X.length ≤ 100000) :
    Calls Try.prog 68 #[.pointer (some ⟨g, 0, none⟩), .agg (idC d), .string v] w fun e w' => e = .returned (.int .i64 0) ∧ RefAt w' g (X ++ [⟨d, v⟩]) G ∧ Keep [g] w w' := by
  have hb0 : Below w.heap.size w (w.alloc (.cells (idC d) 24)) := (Below.refl _ _).alloc (Nat.le_refl _) _
  have h0 := h.below hb0
  have hd0 : rowAt (w.alloc (.cells (idC d) 24)) w.heap.size 0 32 = some (idC d) := by simp [go_sem]
  have hgl := h.lt
  go_enter Try.func68, Try.ntmps68
  go_upto_region 3 with fail
  obtain ⟨W, hW⟩ : ∃ W, W = w.alloc (.cells (idC d) 24) := ⟨_, rfl⟩
  rw [← hW] at h0 hd0 hb0 ⊢
  clear hW
  obtain ⟨A, n, cap, A', n', cap', hg, h1, h2, f1, f2, d1, d2⟩ := h0
  have hn := h1.len
  have Hn := Lib.hid hn
  have hnb : n ≤ 100000 := by omega
  clear hn
  have hc0 : W.cell? ⟨g, 0, none⟩ = some (.slice A n cap) := by rw [cell_of_row W g 0 _ _ _ hg]; rfl
  have hgW : g < W.heap.size := by have := hb0.size; omega
  refine wp_region_treef (.loose 0 (.loose 2 (.loose 3 (.loose 4 (.loose 5 (.loose 7 (.loose 8 (.loose 9 (.two 1 (.two 6 (.one 10 (.one 11 (.loose 12 (.loose 13 (.one 14 .done))))) 10 (.one 6 (.one 11 (.loose 12 (.loose 13 (.one 14 .done)))))) 10 (.one 1 (.one 6 (.one 11 (.loose 12 (.loose 13 (.one 14 .done))))))))))))))) (Kp [] W) false (by kernel_rfl) (by kernel_rfl) (by kernel_rfl) (by kernel_rfl) (by kernel_rfl) (kp_drew [] W) ?_
  have hne := kp_some [] W
  have hS := kp_drew [] W
  have b1 := ksub_cell hc0 (S := []) (by simp); have b2 := ksub_row hd0 (S := []) (by simp)
  repeat (refine wpTx_loose rfl ?_ ?_; (focus (simp only [chainOp]; done)); intro K hK; go_simp; refine hK _ ?_; clear hK K)
  refine wpTx_two ?_ ?_
  ·
    refine wpTx_one ?_ rfl ?_ ?_
    focus (exact hS)
    focus (simp only [chainOp]; done)
    intro K hK
    go_simp
    refine step_keep (kp_alloc hS _) (fun hSn => ?_)
    refine hK _ _ ?_
    clear hK K
    replace hS := hSn
    clear hSn
    refine wpTx_two ?_ ?_
    · have hs1 : RowsIn (W.drew.alloc (.cells #[] 130)) A n X := h1.kept hS (by simp)
      refine Tx_rows einfoRRow rfl rfl (Own.empty W.drew W.heap.size 130 33 (Nat.le_refl _)) rfl hs1 f1 (onesR X) (by omega) (by omega) (by simp) ?_
      intro A2 cap2 w2 hown2 hk2 hsub2
      simp only [Nat.zero_add, List.nil_append] at hown2 ⊢
      refine step_keep (Keep.trans hS hk2 (by simp [blk])) (fun hSn => ?_)
      replace hS := hSn
      clear hSn
      refine wpTx_one ?_ rfl ?_ ?_
      focus (exact hS)
      focus (simp only [chainOp]; done)
      intro K hK
      go_simp
      refine step_keep (kp_alloc hS _) (fun hSn => ?_)
      refine hK _ _ ?_
      clear hK K
      replace hS := hSn
      clear hSn
      have hba : Below w2.heap.size w2 (w2.alloc (.cells (bRowC ⟨d, v⟩) 130)) := (Below.refl _ _).alloc (Nat.le_refl _) _
      have hown3 := hown2.below hba
      have hrow3 : rowAt (w2.alloc (.cells (bRowC ⟨d, v⟩) 130)) w2.heap.size 0 33 = some (bRowC ⟨d, v⟩) := by simp [go_sem]
      have hsz := hS.size
      refine Tx_append einfoRRow rfl rfl hown3 rfl hrow3 (bRowC_one _) (by omega) (by omega) hsz ?_
      intro A3 cap3 w3 hown4 hk3 hsub3
      refine step_keep (Keep.trans hS hk3 (fun x hx => .inr ((hown2.at_base hx).1))) (fun hSn => ?_)
      replace hS := hSn
      clear hSn
      repeat (refine wpTx_loose rfl ?_ ?_; (focus (simp only [chainOp]; done)); intro K hK; go_simp; refine hK _ ?_; clear hK K)
      have hg3 : w3.heap[g]? = some (.cells #[.slice A n cap, .slice A' n' cap'] 74 (0, 0)) := (hS.block g hgW (by simp)).trans hg
      have hc3 : w3.cell? ⟨g, 0, none⟩ = some (.slice A n cap) := by rw [cell_of_row w3 g 0 _ _ _ hg3]; rfl
      have hf3 : w3.frozen? ⟨g, 0, none⟩ = false := by simp [World.frozen?, hg3]
      refine wpTx_end rfl ?_ (by kernel_rfl) ?_
      focus (simp only [chainOp]; done)
      intro K hK
      go_simp
      refine hK _ _ ?_
      clear hK K
      have hown5 := hown4.kept (Keep.setCell w3 ⟨g, 0, none⟩ (.slice A3 (n + 1) cap3)) (fun x hx => by have := (hown4.at_base hx).1; simp; omega)
      have hslr := hown5.slr
      have hfin : RefAt (w3.setCell ⟨g, 0, none⟩ (.slice A3 (n + 1) cap3)) g (X ++ [⟨d, v⟩]) G := ⟨A3, n + 1, cap3, A', n', cap', ref_set0 hg3, (show SlR _ _ _ _ _ by simpa using hslr), (h2.kept hS (by simp)).kept (Keep.setCell w3 ⟨g, 0, none⟩ _) (fun x hx => by have := d2 x hx; simp; omega), fun e => (hown4.cap_le.2 e).2, f2, fun x hx => by have := (hown4.at_base hx).1; omega, d2⟩
      have hkfin : Keep [g] w (w3.setCell ⟨g, 0, none⟩ (.slice A3 (n + 1) cap3)) := Keep.trans ((Keep.trans (Keep.of_below hb0) hS (by simp)).mono (S' := [g]) (by simp)) (Keep.setCell w3 ⟨g, 0, none⟩ _) (by simp)
      clear hown5 hown4 hown2 hown3 hslr hS hg3 hc3 hf3 hk3 hk2 hsub3 hsub2
      go_wp2_with fail
      go_ret
      exact ⟨rfl, hfin, hkfin⟩
    ·
      refine wpTx_one ?_ rfl ?_ ?_
      focus (exact hS)
      focus (simp only [chainOp]; done)
      intro K hK
      go_simp
      refine step_keep (kp_alloc hS _) (fun hSn => ?_)
      refine hK _ _ ?_
      clear hK K
      replace hS := hSn
      clear hSn
      have hs1 : RowsIn ((W.drew.alloc (.cells #[] 130)).alloc (.cells (bRowC ⟨d, v⟩) 130)) A n X := h1.kept hS (by simp)
      have hown0 := (Own.empty W.drew W.heap.size 130 33 (Nat.le_refl _)).below ((Below.refl _ _).alloc (Nat.le_refl _) (.cells (bRowC ⟨d, v⟩) 130))
      refine Tx_rows einfoRRow rfl rfl hown0 rfl hs1 f1 (onesR X) (by omega) (by omega) (by simp; omega) ?_
      intro A2 cap2 w2 hown2 hk2 hsub2
      simp only [Nat.zero_add, List.nil_append] at hown2 ⊢
      refine step_keep (Keep.trans hS hk2 (by simp [blk])) (fun hSn => ?_)
      replace hS := hSn
      clear hSn
      have hown3 := hown2
      have hrow3 : rowAt w2 (W.heap.size + 1) 0 33 = some (bRowC ⟨d, v⟩) := (hk2.row (by simp) (by simp [blk]) 0 33).trans (by simp [go_sem])
      have hsz := hS.size
      refine Tx_append einfoRRow rfl rfl hown3 rfl hrow3 (bRowC_one _) (by omega) (by omega) hsz ?_
      intro A3 cap3 w3 hown4 hk3 hsub3
      refine step_keep (Keep.trans hS hk3 (fun x hx => .inr ((hown2.at_base hx).1))) (fun hSn => ?_)
      replace hS := hSn
      clear hSn
      repeat (refine wpTx_loose rfl ?_ ?_; (focus (simp only [chainOp]; done)); intro K hK; go_simp; refine hK _ ?_; clear hK K)
      have hg3 : w3.heap[g]? = some (.cells #[.slice A n cap, .slice A' n' cap'] 74 (0, 0)) := (hS.block g hgW (by simp)).trans hg
      have hc3 : w3.cell? ⟨g, 0, none⟩ = some (.slice A n cap) := by rw [cell_of_row w3 g 0 _ _ _ hg3]; rfl
      have hf3 : w3.frozen? ⟨g, 0, none⟩ = false := by simp [World.frozen?, hg3]
      refine wpTx_end rfl ?_ (by kernel_rfl) ?_
      focus (simp only [chainOp]; done)
      intro K hK
      go_simp
      refine hK _ _ ?_
      clear hK K
      have hown5 := hown4.kept (Keep.setCell w3 ⟨g, 0, none⟩ (.slice A3 (n + 1) cap3)) (fun x hx => by have := (hown4.at_base hx).1; simp; omega)
      have hslr := hown5.slr
      have hfin : RefAt (w3.setCell ⟨g, 0, none⟩ (.slice A3 (n + 1) cap3)) g (X ++ [⟨d, v⟩]) G := ⟨A3, n + 1, cap3, A', n', cap', ref_set0 hg3, (show SlR _ _ _ _ _ by simpa using hslr), (h2.kept hS (by simp)).kept (Keep.setCell w3 ⟨g, 0, none⟩ _) (fun x hx => by have := d2 x hx; simp; omega), fun e => (hown4.cap_le.2 e).2, f2, fun x hx => by have := (hown4.at_base hx).1; omega, d2⟩
      have hkfin : Keep [g] w (w3.setCell ⟨g, 0, none⟩ (.slice A3 (n + 1) cap3)) := Keep.trans ((Keep.trans (Keep.of_below hb0) hS (by simp)).mono (S' := [g]) (by simp)) (Keep.setCell w3 ⟨g, 0, none⟩ _) (by simp)
      clear hown5 hown4 hown2 hown3 hslr hS hg3 hc3 hf3 hk3 hk2 hsub3 hsub2
      go_wp2_with fail
      go_ret
      exact ⟨rfl, hfin, hkfin⟩
  ·
    refine wpTx_one ?_ rfl ?_ ?_
    focus (exact hS)
    focus (simp only [chainOp]; done)
    intro K hK
    go_simp
    refine step_keep (kp_alloc hS _) (fun hSn => ?_)
    refine hK _ _ ?_
    clear hK K
    replace hS := hSn
    clear hSn
    refine wpTx_one ?_ rfl ?_ ?_
    focus (exact hS)
    focus (simp only [chainOp]; done)
    intro K hK
    go_simp
    refine step_keep (kp_alloc hS _) (fun hSn => ?_)
    refine hK _ _ ?_
    clear hK K
    replace hS := hSn
    clear hSn
    have hs1 : RowsIn ((W.drew.alloc (.cells (bRowC ⟨d, v⟩) 130)).alloc (.cells #[] 130)) A n X := h1.kept hS (by simp)
    have hown0 : Own ((W.drew.alloc (.cells (bRowC ⟨d, v⟩) 130)).alloc (.cells #[] 130)) W.heap.size 130 33 (some ⟨W.heap.size + 1, 0, none⟩) 0 0 [] := by
      have := Own.empty (W.drew.alloc (.cells (bRowC ⟨d, v⟩) 130)) W.heap.size 130 33 (by simp)
      simpa using this
    refine Tx_rows einfoRRow rfl rfl hown0 rfl hs1 f1 (onesR X) (by omega) (by omega) (by simp; omega) ?_
    intro A2 cap2 w2 hown2 hk2 hsub2
    simp only [Nat.zero_add, List.nil_append] at hown2 ⊢
    refine step_keep (Keep.trans hS hk2 (by simp [blk])) (fun hSn => ?_)
    replace hS := hSn
    clear hSn
    have hown3 := hown2
    have hrow3 : rowAt w2 W.heap.size 0 33 = some (bRowC ⟨d, v⟩) := (hk2.row (by simp; omega) (by simp [blk]) 0 33).trans (by simp [go_sem])
    have hsz := hS.size
    refine Tx_append einfoRRow rfl rfl hown3 rfl hrow3 (bRowC_one _) (by omega) (by omega) hsz ?_
    intro A3 cap3 w3 hown4 hk3 hsub3
    refine step_keep (Keep.trans hS hk3 (fun x hx => .inr ((hown2.at_base hx).1))) (fun hSn => ?_)
    replace hS := hSn
    clear hSn
    repeat (refine wpTx_loose rfl ?_ ?_; (focus (simp only [chainOp]; done)); intro K hK; go_simp; refine hK _ ?_; clear hK K)
    have hg3 : w3.heap[g]? = some (.cells #[.slice A n cap, .slice A' n' cap'] 74 (0, 0)) := (hS.block g hgW (by simp)).trans hg
    have hc3 : w3.cell? ⟨g, 0, none⟩ = some (.slice A n cap) := by rw [cell_of_row w3 g 0 _ _ _ hg3]; rfl
    have hf3 : w3.frozen? ⟨g, 0, none⟩ = false := by simp [World.frozen?, hg3]
    refine wpTx_end rfl ?_ (by kernel_rfl) ?_
    focus (simp only [chainOp]; done)
    intro K hK
    go_simp
    refine hK _ _ ?_
    clear hK K
    have hown5 := hown4.kept (Keep.setCell w3 ⟨g, 0, none⟩ (.slice A3 (n + 1) cap3)) (fun x hx => by have := (hown4.at_base hx).1; simp; omega)
    have hslr := hown5.slr
    have hfin : RefAt (w3.setCell ⟨g, 0, none⟩ (.slice A3 (n + 1) cap3)) g (X ++ [⟨d, v⟩]) G := ⟨A3, n + 1, cap3, A', n', cap', ref_set0 hg3, (show SlR _ _ _ _ _ by simpa using hslr), (h2.kept hS (by simp)).kept (Keep.setCell w3 ⟨g, 0, none⟩ _) (fun x hx => by have := d2 x hx; simp; omega), fun e => (hown4.cap_le.2 e).2, f2, fun x hx => by have := (hown4.at_base hx).1; omega, d2⟩
    have hkfin : Keep [g] w (w3.setCell ⟨g, 0, none⟩ (.slice A3 (n + 1) cap3)) := Keep.trans ((Keep.trans (Keep.of_below hb0) hS (by simp)).mono (S' := [g]) (by simp)) (Keep.setCell w3 ⟨g, 0, none⟩ _) (by simp)
    clear hown5 hown4 hown2 hown3 hslr hS hg3 hc3 hf3 hk3 hk2 hsub3 hsub2
    go_wp2_with fail
    go_ret
    exact ⟨rfl, hfin, hkfin⟩

set_option maxHeartbeats 1000000 in
theorem radd (d : Id32) (v : ByteArray) (w : World) (g : Nat) (X G : List BRow) (h : RefAt w g X G) (hv : v.size ≤ 9223372036854775807) (hX : X.length ≤ 100000) :
    Calls Try.prog 68 #[.pointer (some ⟨g, 0, none⟩), .agg (idC d), .string v] w fun e w' => e = .returned (.int .i64 (longE v)) ∧ RefAt w' g (if 16 < v.size then X else X ++ [⟨d, v⟩]) G ∧ Keep [g] w w' := by
  by_cases hl : 16 < v.size
  · have e1 : longE v = 3 := if_pos hl
    rw [if_pos hl, e1]
    clear e1
    have hb0 : Below w.heap.size w (w.alloc (.cells (idC d) 24)) := (Below.refl _ _).alloc (Nat.le_refl _) _
    go_enter Try.func68, Try.ntmps68
    go_wp2_with fail
    go_ret
    exact ⟨rfl, h.below hb0, (Keep.of_below hb0).mono (by simp)⟩
  · have e1 : longE v = 0 := if_neg hl
    rw [if_neg hl, e1]
    exact radd_ok d v w g X G h (by omega) hX

set_option maxRecDepth 100000 in
set_option maxHeartbeats 2000000 in
theorem rrem_ok (v : ByteArray) (B : Option Addr) (m c : Nat) (T : List Id32) (w : World) (g : Nat) (X G : List BRow) (h : RefAt w g X G) (hT : TagsIn w B m T) (hv : v.size ≤ 16) (hG : G.length ≤ 100000) (hm : m ≤ 100000) :
    Calls Try.prog 69 #[.pointer (some ⟨g, 0, none⟩), .string v, .slice B m c] w fun e w' => e = .returned (.int .i64 0) ∧ RefAt w' g X (G ++ T.map fun t => (⟨t, v⟩ : BRow)) ∧ Keep [g] w w' := by
  have hgl := h.lt
  obtain ⟨A, n, cap, A', n', cap', hg, h1, h2, f1, f2, d1, d2⟩ := h
  have hn := h2.len
  have Hn := Lib.hid hn
  have hnb : n' ≤ 100000 := by omega
  have hTl := hT.len
  have HT := Lib.hid hTl
  clear hn hTl
  have hc1 : w.cell? ⟨g, 1, none⟩ = some (.slice A' n' cap') := by rw [cell_of_row w g 1 _ _ _ hg]; rfl
  have hb0 : Below w.heap.size w (w.alloc (.cells #[] 130)) := (Below.refl _ _).alloc (Nat.le_refl _) _
  have hown0 := Own.empty w w.heap.size 130 33 (Nat.le_refl _)
  have hs1 : RowsIn (w.alloc (.cells #[] 130)) A' n' G := SlR.below h2 hb0
  go_enter Try.func69, Try.ntmps69
  go_upto_region 4 with (at_builtin; refine L_appends einfoRRow rfl hown0 rfl hs1 f2 (onesR G) (by omega) (by omega) (by simp) ?_; intro A2 cap2 w2 hown2 hk2 hsub2)
  simp only [Nat.zero_add, List.nil_append] at hown2
  have hb2 : Below w.heap.size w w2 := hb0.trans (hk2.below (by simp) (by simp [blk]))
  clear hown0 hs1 hk2 hsub2 hc1
  go_wp2_with fail
  go_loopw [7, 8] (fun l i wr => ∃ (k : Nat) (A3 : Option Addr) (cap3 : Nat), k ≤ m ∧ i = .int .i64 k ∧ l = .slice A3 (n' + k) cap3 ∧ Own wr w.heap.size 130 33 A3 (n' + k) cap3 ((G ++ (T.take k).map fun t => (⟨t, v⟩ : BRow)).map bRowC) ∧ Below w.heap.size w wr) (fun _ i _ => m - (intOf i).toNat)
  case atStart => exact ⟨0, A2, cap2, Nat.zero_le _, rfl, rfl, by simpa using hown2, hb2⟩
  case round =>
    obtain ⟨k, A3, cap3, hk, rfl, rfl, hown, hb⟩ := hrel
    by_cases hlt : k < m
    · obtain ⟨q, o, rfl, hr⟩ := TagsIn.get (SlR.below hT hb) hlt (by rw [HT.out]; exact hlt)
      have htk : T.take (k + 1) = T.take k ++ [T[k]'(by rw [HT.out]; exact hlt)] := by rw [List.take_add_one, List.getElem?_eq_getElem (by rw [HT.out]; exact hlt)]; rfl
      obtain ⟨d, hd⟩ : ∃ d, T[k]'(by rw [HT.out]; exact hlt) = d := ⟨_, rfl⟩
      rw [hd] at hr htk
      have hrows : (G ++ (T.take (k + 1)).map fun t => (⟨t, v⟩ : BRow)).map bRowC = (G ++ (T.take k).map fun t => (⟨t, v⟩ : BRow)).map bRowC ++ [bRowC ⟨d, v⟩] := by rw [htk]; simp
      have Hrows := Lib.hid hrows
      clear hd htk hrows
      have hsz := hb.size
      have hbx : Below wr.heap.size wr (wr.alloc (.cells (bRowC ⟨d, v⟩) 130)) := (Below.refl _ _).alloc (Nat.le_refl _) _
      have hown3 := hown.below hbx
      have hrow3 : rowAt (wr.alloc (.cells (bRowC ⟨d, v⟩) 130)) wr.heap.size 0 33 = some (bRowC ⟨d, v⟩) := by simp [go_sem]
      go_wp2_with (at_builtin; refine L_append einfoRRow rfl hown3 rfl hrow3 (bRowC_one _) (by omega) (by omega) (by simp; omega) ?_; intro A4 cap4 w4 hownA hkA hsubA)
      have hbA : Below w.heap.size w w4 := hb.trans ((hbx.mono hsz).trans (hkA.below (B := w.heap.size) (by simp; omega) fun y hy => (hown.at_base hy).1))
      go_wp2_with fail
      go_roundw
      case rel => exact ⟨k + 1, A4, cap4, by omega, by go_num, by rw [Nat.add_assoc], by rw [Hrows.out, ← Nat.add_assoc]; exact hownA, hbA⟩
      case measure => simp [intOf]; omega
    · have hkm : T.take k = T := List.take_of_length_le (by rw [HT.out]; omega)
      rw [hkm] at hown
      have hg3 : wr.heap[g]? = some (.cells #[.slice A n cap, .slice A' n' cap'] 74 (0, 0)) := (hb.block g hgl).trans hg
      have hc3 : wr.cell? ⟨g, 1, none⟩ = some (.slice A' n' cap') := by rw [cell_of_row wr g 1 _ _ _ hg3]; rfl
      have hf3 : wr.frozen? ⟨g, 1, none⟩ = false := by simp [World.frozen?, hg3]
      have hown5 := hown.kept (Keep.setCell wr ⟨g, 1, none⟩ (.slice A3 (n' + k) cap3)) (fun x hx => by have := (hown.at_base hx).1; simp; omega)
      have hslr := hown5.slr
      have hkb : Keep [] w wr := Keep.of_below hb
      have hfin : RefAt (wr.setCell ⟨g, 1, none⟩ (.slice A3 (n' + k) cap3)) g X (G ++ T.map fun t => (⟨t, v⟩ : BRow)) := ⟨A, n, cap, A3, n' + k, cap3, ref_set1 hg3, (h1.kept hkb (by simp)).kept (Keep.setCell wr ⟨g, 1, none⟩ _) (fun x hx => by have := d1 x hx; simp; omega), hslr, f1, fun e => (hown.cap_le.2 e).2, d1, fun x hx => by have := (hown.at_base hx).1; omega⟩
      have hkfin : Keep [g] w (wr.setCell ⟨g, 1, none⟩ (.slice A3 (n' + k) cap3)) := Keep.trans (hkb.mono (S' := [g]) (by simp)) (Keep.setCell wr ⟨g, 1, none⟩ _) (by simp)
      clear hown5 hown hslr hkm hown2
      go_wp2_with fail
      go_ret
      exact ⟨rfl, hfin, hkfin⟩
set_option maxHeartbeats 1000000 in
theorem rrem (v : ByteArray) (B : Option Addr) (m c : Nat) (T : List Id32) (w : World) (g : Nat) (X G : List BRow) (h : RefAt w g X G) (hT : TagsIn w B m T) (hv : v.size ≤ 9223372036854775807) (hG : G.length ≤ 100000) (hm : m ≤ 100000) :
    Calls Try.prog 69 #[.pointer (some ⟨g, 0, none⟩), .string v, .slice B m c] w fun e w' => e = .returned (.int .i64 (longE v)) ∧ RefAt w' g X (if 16 < v.size then G else G ++ T.map fun t => (⟨t, v⟩ : BRow)) ∧ Keep [g] w w' := by
  by_cases hl : 16 < v.size
  · have e1 : longE v = 3 := if_pos hl
    rw [if_pos hl, e1]
    clear e1
    go_enter Try.func69, Try.ntmps69
    go_wp2_with fail
    go_ret
    exact ⟨rfl, h, Keep.refl _ _⟩
  · have e1 : longE v = 0 := if_neg hl
    rw [if_neg hl, e1]
    exact rrem_ok v B m c T w g X G h hT (by omega) hG hm

end Go.Proofs.Ytlonihfhgfmplaa
