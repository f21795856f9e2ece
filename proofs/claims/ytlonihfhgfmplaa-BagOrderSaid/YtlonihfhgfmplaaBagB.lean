/- Package bag: New, none, ask, Add, Remove. -/
import Derived.Test.YtlonihfhgfmplaaBagA
import Derived.Test.YtlonihfhgfmplaaKeySet
import Derived.Test.YtlonihfhgfmplaaSlice
namespace Go.Proofs.Ytlonihfhgfmplaa
open Go.RowKit

abbrev okR (x : BRow) : Prop := x.val.size ≤ maxLen
abbrev RowSet (w : World) (b : Nat) (L : List BRow) : Prop := SetAt w b rowV okR L
theorem zeroBool (w : World) : (zeroValue 4).run Try.prog w = .ok (.bool false) w := by kernel_rfl

def small (x : BRow) : Prop := x.val.size ≤ 16
theorem small_ok {x : BRow} (h : small x) : okR x := by unfold small at h; unfold okR; simp only [maxLen]; omega

section
variable {w : World} {b : Nat} {X : List BRow} {x : BRow}
theorem rhit (h : RowSet w b X) (hk : small x) (hx : x ∈ X) : (Instr.lookup 78 (.map (some b)) (.agg (bRowC x)) false).run Try.prog w = .ok (.bool true) w := SetAt.hit (kv := rowV) (ok := okR) h rowKey Try.underlying78 (small_ok hk) hx
theorem rmiss (h : RowSet w b X) (hk : small x) (hx : x ∉ X) : (Instr.lookup 78 (.map (some b)) (.agg (bRowC x)) false).run Try.prog w = .ok (.bool false) w := SetAt.miss (kv := rowV) (ok := okR) h rowKey Try.underlying78 zeroBool (small_ok hk) hx
theorem rput (h : RowSet w b X) (hk : small x) : ∃ w', (Instr.mapUpdate 78 (.map (some b)) (.agg (bRowC x)) (.bool true)).run Try.prog w = .ok () w' ∧ RowSet w' b (x :: X) ∧ Keep [b] w w' := SetAt.put h rowKey Try.underlying78 (small_ok hk)
theorem rdel (h : RowSet w b X) (hk : small x) (ty : TypeId) : ∃ w', (Builtin.delete_ #[78, 120] ty #[.map (some b), .agg (bRowC x)]).run Try.prog w = .ok (.tuple #[]) w' ∧ RowSet w' b (X.filter fun y => decide (y ≠ x)) ∧ Keep [b] w w' := SetAt.del h rowKey Try.underlying78 (small_ok hk) ty
end

/-- What lies behind a pointer to a Bag: the rows that are there, those that are gone. -/
structure BagAt (w : World) (g bl bg : Nat) (L G : List BRow) : Prop where
  blk : w.heap[g]? = some (.cells #[.map (some bl), .map (some bg)] 80 (0, 0))
  live : RowSet w bl L
  gone : RowSet w bg G
  ne : bl ≠ bg
  risL : Ris cmpRow L
  risG : Ris cmpRow G
  smL : ∀ x ∈ L, small x
  smG : ∀ x ∈ G, small x
  apart : ∀ x ∈ L, x ∉ G

section
variable {w w' : World} {g bl bg : Nat} {L G : List BRow}
theorem BagAt.cell0 (h : BagAt w g bl bg L G) : w.cell? ⟨g, 0, none⟩ = some (.map (some bl)) := by rw [cell_of_row w g 0 _ _ _ h.blk]; rfl
theorem BagAt.cell1 (h : BagAt w g bl bg L G) : w.cell? ⟨g, 1, none⟩ = some (.map (some bg)) := by rw [cell_of_row w g 1 _ _ _ h.blk]; rfl
theorem set_ne {b : Nat} {X : List BRow} {cs : Array Value} {t : TypeId} {f : Nat × Nat} (h : RowSet w b X) (hg : w.heap[g]? = some (.cells cs t f)) : g ≠ b := by
  rintro rfl
  obtain ⟨M, es, clk, hm, _⟩ := h
  rw [hm.heap] at hg; cases hg
theorem BagAt.nel (h : BagAt w g bl bg L G) : g ≠ bl := set_ne h.live h.blk
theorem BagAt.neg (h : BagAt w g bl bg L G) : g ≠ bg := set_ne h.gone h.blk
theorem BagAt.lt (h : BagAt w g bl bg L G) : g < w.heap.size ∧ bl < w.heap.size ∧ bg < w.heap.size := ⟨World.block_lt_of_cell? w _ h.cell0, h.live.lt, h.gone.lt⟩
theorem BagAt.kept {S : List Nat} (h : BagAt w g bl bg L G) (k : Keep S w w') (hg : g ∉ S) (hl : bl ∉ S) (hb : bg ∉ S) : BagAt w' g bl bg L G :=
  ⟨(k.block g h.lt.1 hg).trans h.blk, h.live.kept k hl, h.gone.kept k hb, h.ne, h.risL, h.risG, h.smL, h.smG, h.apart⟩
theorem BagAt.below (h : BagAt w g bl bg L G) (k : Below w.heap.size w w') : BagAt w' g bl bg L G := h.kept (Keep.of_below k) (by simp) (by simp) (by simp)
end

theorem bnone_nil (w : World) : Calls Try.prog 63 #[.pointer none] w fun e w' => e = .returned (.bool true) ∧ w = w' := by
  go_enter Try.func63, Try.ntmps63
  go_wp2_with fail
  go_ret
  exact ⟨rfl, rfl⟩
theorem bnone_zero (w : World) (g : Nat) (h : w.cell? ⟨g, 0, none⟩ = some (.map none)) : Calls Try.prog 63 #[.pointer (some ⟨g, 0, none⟩)] w fun e w' => e = .returned (.bool true) ∧ w = w' := by
  have hn := fun r => run_eql_map_nil (P := Try.prog) w 78 120 4 r Try.underlying78
  go_enter Try.func63, Try.ntmps63
  go_wp2_with fail
  go_ret
  exact ⟨rfl, rfl⟩
theorem bnone_live (w : World) (g b : Nat) (h : w.cell? ⟨g, 0, none⟩ = some (.map (some b))) : Calls Try.prog 63 #[.pointer (some ⟨g, 0, none⟩)] w fun e w' => e = .returned (.bool false) ∧ w = w' := by
  have hn := fun r => run_eql_map_nil (P := Try.prog) w 78 120 4 r Try.underlying78
  go_enter Try.func63, Try.ntmps63
  go_wp2_with fail
  go_ret
  exact ⟨rfl, rfl⟩

theorem bnew (w : World) : Calls Try.prog 28 #[] w fun e w' => ∃ g bl bg, e = .returned (.pointer (some ⟨g, 0, none⟩)) ∧ BagAt w' g bl bg [] [] ∧ w.heap.size ≤ g ∧ w.heap.size ≤ bl ∧ w.heap.size ≤ bg ∧ Below w.heap.size w w' := by
  have hmm := @run_makeMap Try.prog
  go_enter Try.func28, Try.ntmps28
  go_wp2_with fail
  go_ret
  have k1 := SetAt.new (kv := rowV) (ok := okR) w w.heap.size rfl
  have k2 := SetAt.new (kv := rowV) (ok := okR) (w.alloc (.map #[] 0)) (w.heap.size + 1) (by simp)
  refine ⟨w.heap.size + 2, w.heap.size, w.heap.size + 1, rfl, ⟨?_, (k1.kept (Keep.alloc _ _) (by simp)).kept (Keep.alloc _ _) (by simp), k2.kept (Keep.alloc _ _) (by simp), by omega, Ris.nil, Ris.nil, by simp, by simp, by simp⟩, by omega, by omega, by omega, (((Below.refl _ _).alloc (Nat.le_refl _) _).alloc (by simp) _).alloc (by simp; omega) _⟩
  have := heap_alloc_new ((w.alloc (.map #[] 0)).alloc (.map #[] 0)) (.cells #[.map (some w.heap.size), .map (some (w.heap.size + 1))] 80 (0, 0))
  simpa using this

def longE (s : ByteArray) : Int := if 16 < s.size then 3 else 0
theorem bask_nil (v : ByteArray) (w : World) : Calls Try.prog 67 #[.pointer none, .string v] w fun e w' => e = .returned (.int .i64 8) ∧ w = w' := by
  go_enter Try.func67, Try.ntmps67
  go_wp2_with fail
  refine (bnone_nil _).mono ?_; rintro e w' ⟨rfl, rfl⟩
  go_wp2_with fail
  go_ret
  exact ⟨rfl, rfl⟩
theorem bask_zero (v : ByteArray) (w : World) (g : Nat) (h : w.cell? ⟨g, 0, none⟩ = some (.map none)) : Calls Try.prog 67 #[.pointer (some ⟨g, 0, none⟩), .string v] w fun e w' => e = .returned (.int .i64 8) ∧ w = w' := by
  go_enter Try.func67, Try.ntmps67
  go_wp2_with fail
  refine (bnone_zero _ _ h).mono ?_; rintro e w' ⟨rfl, rfl⟩
  go_wp2_with fail
  go_ret
  exact ⟨rfl, rfl⟩
theorem bask (v : ByteArray) (w : World) (g b : Nat) (h : w.cell? ⟨g, 0, none⟩ = some (.map (some b))) (hv : v.size ≤ 9223372036854775807) : Calls Try.prog 67 #[.pointer (some ⟨g, 0, none⟩), .string v] w fun e w' => e = .returned (.int .i64 (longE v)) ∧ w = w' := by
  go_enter Try.func67, Try.ntmps67
  go_wp2_with fail
  refine (bnone_live _ _ _ h).mono ?_; rintro e w' ⟨rfl, rfl⟩
  go_wp2_with fail
  all_goals
    go_ret
    refine ⟨ret_int ?_, rfl⟩
    unfold longE
    first
      | rw [if_pos (by omega)]
      | rw [if_neg (by omega)]

/-! ### Add -/
theorem badd_nil (d : Id32) (v : ByteArray) (w : World) : Calls Try.prog 35 #[.pointer none, .agg (idC d), .string v] w fun e w' => e = .returned (.int .i64 8) ∧ Below w.heap.size w w' := by
  go_enter Try.func35, Try.ntmps35
  go_wp2_with fail
  refine (bask_nil _ _).mono ?_; rintro e w' ⟨rfl, rfl⟩
  go_wp2_with fail
  go_ret
  exact ⟨rfl, (Below.refl _ _).alloc (Nat.le_refl _) _⟩
theorem badd_zero (d : Id32) (v : ByteArray) (w : World) (g : Nat) (h : w.cell? ⟨g, 0, none⟩ = some (.map none)) : Calls Try.prog 35 #[.pointer (some ⟨g, 0, none⟩), .agg (idC d), .string v] w fun e w' => e = .returned (.int .i64 8) ∧ Below w.heap.size w w' := by
  have hc : (w.alloc (.cells (idC d) 24)).cell? ⟨g, 0, none⟩ = some (.map none) := (World.cell?_alloc_lt w _ _ (World.block_lt_of_cell? w _ h)).trans h
  go_enter Try.func35, Try.ntmps35
  go_wp2_with fail
  refine (bask_zero _ _ _ hc).mono ?_; rintro e w' ⟨rfl, rfl⟩
  go_wp2_with fail
  go_ret
  exact ⟨rfl, (Below.refl _ _).alloc (Nat.le_refl _) _⟩

/-- What an addition does. -/
def addB (L G : List BRow) (x : BRow) : List BRow := if 16 < x.val.size then L else if x ∈ G then L else insC cmpRow L x

set_option maxRecDepth 100000 in
set_option maxHeartbeats 1000000 in
theorem badd (d : Id32) (v : ByteArray) (w : World) (g bl bg : Nat) (L G : List BRow) (h : BagAt w g bl bg L G) (hv : v.size ≤ 9223372036854775807) :
    Calls Try.prog 35 #[.pointer (some ⟨g, 0, none⟩), .agg (idC d), .string v] w fun e w' => e = .returned (.int .i64 (longE v)) ∧ BagAt w' g bl bg (addB L G ⟨d, v⟩) G ∧ Keep [bl] w w' := by
  have h0 : BagAt (w.alloc (.cells (idC d) 24)) g bl bg L G := h.below ((Below.refl _ _).alloc (Nat.le_refl _) _)
  have hc := h0.cell0
  by_cases hlong : 16 < v.size
  · have e1 : longE v = 3 := if_pos hlong
    have e2 : addB L G ⟨d, v⟩ = L := if_pos hlong
    rw [e1, e2]
    have hask := bask v _ g bl hc hv
    rw [e1] at hask
    clear e1 e2 hc
    go_enter Try.func35, Try.ntmps35
    go_wp2_with fail
    refine hask.mono ?_; rintro e w' ⟨rfl, rfl⟩
    go_wp2_with fail
    go_ret
    exact ⟨rfl, h0, (Keep.alloc _ _).mono (by simp)⟩
  · have e1 : longE v = 0 := if_neg hlong
    have hsm : small ⟨d, v⟩ := by unfold small; simp only; omega
    have hask := bask v _ g bl hc hv
    rw [e1] at hask
    rw [e1]
    have hb1 : Below w.heap.size w ((w.alloc (.cells (idC d) 24)).alloc (.cells (bRowC ⟨d, v⟩) 120)) := ((Below.refl _ _).alloc (Nat.le_refl _) _).alloc (by simp) _
    have h1 := h.below hb1
    have hrow : rowAt ((w.alloc (.cells (idC d) 24)).alloc (.cells (bRowC ⟨d, v⟩) 120)) (w.heap.size + 1) 0 33 = some (bRowC ⟨d, v⟩) := by simp [go_sem]
    have hbl := h.lt.2.1
    clear hc e1 hv
    by_cases hG : (⟨d, v⟩ : BRow) ∈ G
    · have e2 : addB L G ⟨d, v⟩ = L := by unfold addB; rw [if_neg hlong, if_pos hG]
      rw [e2]
      clear e2 hlong
      go_enter Try.func35, Try.ntmps35
      go_wp2_with fail
      refine hask.mono ?_; rintro e w' ⟨rfl, rfl⟩
      go_upto_region 5 with fail
      obtain ⟨W, hW⟩ : ∃ W, W = ((w.alloc (.cells (idC d) 24)).alloc (.cells (bRowC ⟨d, v⟩) 120)) := ⟨_, rfl⟩
      rw [← hW] at h1 hrow hb1 ⊢
      have hc1 := h1.cell1
      have hk : ∀ x : Subtype (Bel W), (Instr.lookup 78 (.map (some bg)) (.agg (bRowC ⟨d, v⟩)) false).run Try.prog x.1 = .ok (.bool true) x.1 := fun x => rhit (h1.gone.below x.2) hsm hG
      have hh0 := Lib.hid h0; have hh1 := Lib.hid hG
      clear hW h0 hG hask
      refine wp_region_lex (Bel W) false (by kernel_rfl) (by kernel_rfl) (by kernel_rfl) (bel_drew W) ?_
      have hne := bel_some W
      have hS := bel_drew W
      have b1 := sub_cell hc1; have b2 := sub_row hrow
      repeat (refine wpLx_loose ?_ ?_; (focus (simp only [chainOp]; done)); intro K hK; go_simp; refine hK _ ?_; clear hK K)
      refine wpLx_nil ?_
      intro hS
      go_wp2_with fail
      go_ret
      exact ⟨rfl, h1.below hS, (Keep.of_below (bel2 hb1 hS)).mono (by simp)⟩
    · have e2 : addB L G ⟨d, v⟩ = insC cmpRow L ⟨d, v⟩ := by unfold addB; rw [if_neg hlong, if_neg hG]
      rw [e2]
      clear e2 hlong
      go_enter Try.func35, Try.ntmps35
      go_wp2_with fail
      refine hask.mono ?_; rintro e w' ⟨rfl, rfl⟩
      go_upto_region 5 with fail
      obtain ⟨W, hW⟩ : ∃ W, W = ((w.alloc (.cells (idC d) 24)).alloc (.cells (bRowC ⟨d, v⟩) 120)) := ⟨_, rfl⟩
      rw [← hW] at h1 hrow hb1 ⊢
      have hc1 := h1.cell1
      have hk : ∀ x : Subtype (Bel W), (Instr.lookup 78 (.map (some bg)) (.agg (bRowC ⟨d, v⟩)) false).run Try.prog x.1 = .ok (.bool false) x.1 := fun x => rmiss (h1.gone.below x.2) hsm hG
      have hh0 := Lib.hid h0; have hh1 := Lib.hid hG
      clear hW h0 hG hask
      refine wp_region_lex (Bel W) false (by kernel_rfl) (by kernel_rfl) (by kernel_rfl) (bel_drew W) ?_
      have hne := bel_some W
      have hS := bel_drew W
      have b1 := sub_cell hc1; have b2 := sub_row hrow
      repeat (refine wpLx_loose ?_ ?_; (focus (simp only [chainOp]; done)); intro K hK; go_simp; refine hK _ ?_; clear hK K)
      refine wpLx_nil ?_
      intro hS
      have h2 := h1.below hS
      have hrow2 : rowAt W.drew (w.heap.size + 1) 0 33 = some (bRowC ⟨d, v⟩) := hrow
      have hbW : Below w.heap.size w W.drew := bel2 hb1 hS
      clear b1 b2 hk hc1 hrow h1 hne hb1
      go_upto_region 6 with fail
      obtain ⟨W1, hW1⟩ : ∃ W1, W1 = W.drew := ⟨_, rfl⟩
      rw [← hW1] at h2 hrow2 hbW ⊢
      obtain ⟨w2, hrun, hL2, hk2⟩ := rput (x := ⟨d, v⟩) (h2.live.kept (Keep.drew W1) (by simp)) hsm
      have hgb : g ∉ [bl] := by simp; exact h2.nel
      have hc0 := h2.cell0
      clear hW1 hS
      refine wp_region_lex (Kp [bl] W1) false (by kernel_rfl) (by kernel_rfl) (by kernel_rfl) (kp_drew [bl] W1) ?_
      have hne := kp_some [bl] W1
      have hS := kp_drew [bl] W1
      have b1 := ksub_cell hc0 hgb
      have b2 := ksub_row hrow2 (S := [bl]) (by simp; omega)
      repeat (refine wpLx_loose ?_ ?_; (focus (simp only [chainOp]; done)); intro K hK; go_simp; refine hK _ ?_; clear hK K)
      refine wpLx_chain ?_ ?_ ?_
      focus (exact hS)
      focus (simp only [chainOp]; done)
      intro K hK
      go_simp
      refine step_keep (kp_next hS hk2 (by simp)) (fun hS => ?_)
      refine hK _ _ ?_
      clear hK K
      refine wpLx_nil ?_
      intro hS
      go_wp2_with fail
      go_ret
      have hbg : bg ∉ [bl] := by simp; exact fun e => h2.ne e.symm
      have hS' : Keep [bl] W1 _ := hS
      refine ⟨rfl, ⟨(hS'.block g h2.lt.1 hgb).trans h2.blk, hL2.congr fun x => ?_, h2.gone.kept hS' hbg, h2.ne, ris_insC totRow h2.risL, h2.risG, fun x hx => ?_, h2.smG, fun x hx => ?_⟩, Keep.trans ((Keep.of_below hbW).mono (S' := [bl]) (by simp)) hS' (fun x hx => .inl hx)⟩
      · rw [mem_insC totRow, List.mem_cons]
      · rcases (mem_insC totRow).1 hx with e | hx
        · rw [e]; exact hsm
        · exact h2.smL x hx
      · rcases (mem_insC totRow).1 hx with e | hx
        · rw [e]; exact hh1.out
        · exact h2.apart x hx

end Go.Proofs.Ytlonihfhgfmplaa
