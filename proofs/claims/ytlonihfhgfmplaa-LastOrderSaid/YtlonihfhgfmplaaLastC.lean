/- Package last: Set. -/
import Derived.Test.YtlonihfhgfmplaaLastB
namespace Go.Proofs.Ytlonihfhgfmplaa
open Go.RowKit

theorem lset_nil (k v : ByteArray) (n : Int) (d : Id32) (w : World) : Calls Try.prog 16 #[.pointer none, .string k, .string v, .int .i64 n, .agg (idC d)] w fun e w' => e = .returned (.int .i64 8) ∧ Below w.heap.size w w' := by
  go_enter Try.func16, Try.ntmps16
  go_wp2_with fail
  refine (lnone_nil _).mono ?_; rintro e w' ⟨rfl, rfl⟩
  go_wp2_with fail
  go_ret
  exact ⟨rfl, (Below.refl _ _).alloc (Nat.le_refl _) _⟩
theorem lset_zero (k v : ByteArray) (n : Int) (d : Id32) (w : World) (g : Nat) (h : w.cell? ⟨g, 0, none⟩ = some (.map none)) : Calls Try.prog 16 #[.pointer (some ⟨g, 0, none⟩), .string k, .string v, .int .i64 n, .agg (idC d)] w fun e w' => e = .returned (.int .i64 8) ∧ Below w.heap.size w w' := by
  have hc : (w.alloc (.cells (idC d) 24)).cell? ⟨g, 0, none⟩ = some (.map none) := (World.cell?_alloc_lt w _ _ (World.block_lt_of_cell? w _ h)).trans h
  go_enter Try.func16, Try.ntmps16
  go_wp2_with fail
  refine (lnone_zero _ _ hc).mono ?_; rintro e w' ⟨rfl, rfl⟩
  go_wp2_with fail
  go_ret
  exact ⟨rfl, (Below.refl _ _).alloc (Nat.le_refl _) _⟩

set_option maxRecDepth 100000 in
set_option maxHeartbeats 1000000 in
theorem lset_bad (k v : ByteArray) (n : Int) (d : Id32) (w : World) (g b : Nat) (L : List LRow) (h : LastAt w g b L) (hk : k.size ≤ 9223372036854775807) (hv : v.size ≤ 9223372036854775807) (hbad : checkE k ⟨v, n, d⟩ ≠ 0) :
    Calls Try.prog 16 #[.pointer (some ⟨g, 0, none⟩), .string k, .string v, .int .i64 n, .agg (idC d)] w fun e w' => e = .returned (.int .i64 (checkE k ⟨v, n, d⟩)) ∧ Below w.heap.size w w' := by
  have hc : (w.alloc (.cells (idC d) 24)).cell? ⟨g, 0, none⟩ = some (.map (some b)) := (World.cell?_alloc_lt w _ _ h.lt.1).trans h.cell
  have hn : (checkE k ⟨v, n, d⟩ != 0) = true := by rw [bne_iff_ne]; exact hbad
  clear hbad
  go_enter Try.func16, Try.ntmps16
  go_wp2_with fail
  refine (lnone_live _ _ _ hc).mono ?_; rintro e w' ⟨rfl, rfl⟩
  go_wp2_with fail
  refine (check_any _ ⟨v, n, d⟩ _ hk hv).mono ?_; rintro e w' ⟨rfl, hb⟩
  go_wp2_with fail
  go_ret
  exact ⟨rfl, bel2 (((Below.refl _ _).alloc (Nat.le_refl _) _).alloc (by simp) _) hb⟩

/-- What an update does to the rows. -/
theorem LastAt.put {w : World} {g b : Nat} {L : List LRow} (h : LastAt w g b L) {k : ByteArray} {x : Setting} (hk : checkE k x = 0) (hx : ∀ was, getL L k = some was → 0 < cmpSet x was) :
    ∃ w', (Instr.mapUpdate 47 (.map (some b)) (.string k) (.agg (settingC x))).run Try.prog w = .ok () w' ∧ LastAt w' g b (insL L k x) ∧ Keep [b] w w' := by
  obtain ⟨M, es, clk, hm, hp⟩ := h.map
  have hks : k.size ≤ maxLen := by have := (checkE_bd hk).1; simp only [maxLen]; omega
  obtain ⟨w', es', clk', hrun, hm', hkeep⟩ := hm.update (v := x) strKey Try.underlying47 hks
  refine ⟨w', hrun, ⟨(hkeep.block g h.lt.1 (by simp; exact h.ne)).trans h.blk, ⟨_, es', clk', hm', ?_⟩, ?_⟩, hkeep⟩
  · unfold putL
    cases hg : getL L k with
    | none =>
      have h1 := getL_none hg
      have h2 : k ∉ M.map (·.1) := fun hx => h1 ((hp.map (·.1)).mem_iff.1 hx)
      rw [if_neg h2]
      exact (hp.append_right _).trans (insL_new L k x h1).symm
    | some was =>
      have h1 := getL_mem hg
      have h2 : k ∈ M.map (·.1) := List.mem_map.2 ⟨_, hp.mem_iff.2 h1, rfl⟩
      rw [if_pos h2, insL_old L k x was h.rows.1 h1, if_pos (hx was hg)]
      exact hp.map _
  · have := setL_ok h.rows k x
    unfold setL at this
    rwa [if_pos hk] at this

set_option maxRecDepth 100000 in
set_option maxHeartbeats 2000000 in
theorem lset_new (k v : ByteArray) (n : Int) (d : Id32) (w : World) (g b : Nat) (L : List LRow) (h : LastAt w g b L) (hok : checkE k ⟨v, n, d⟩ = 0) (hg : getL L k = none) :
    Calls Try.prog 16 #[.pointer (some ⟨g, 0, none⟩), .string k, .string v, .int .i64 n, .agg (idC d)] w fun e w' => e = .returned (.int .i64 0) ∧ LastAt w' g b (insL L k ⟨v, n, d⟩) ∧ Keep [b] w w' := by
  have hbd := checkE_bd hok
  have hk : k.size ≤ 9223372036854775807 := by omega
  have hv : v.size ≤ 9223372036854775807 := by have := hbd.2.1; simp only at this; omega
  have hkm : k.size ≤ maxLen := by simp only [maxLen]; omega
  clear hbd
  have hc : (w.alloc (.cells (idC d) 24)).cell? ⟨g, 0, none⟩ = some (.map (some b)) := (World.cell?_alloc_lt w _ _ h.lt.1).trans h.cell
  have hb0 : Below w.heap.size w ((w.alloc (.cells (idC d) 24)).alloc (.cells (settingC ⟨v, n, d⟩) 88)) := ((Below.refl _ _).alloc (Nat.le_refl _) _).alloc (by simp) _
  have hn : (checkE k ⟨v, n, d⟩ != 0) = false := by rw [hok]; rfl
  have Hok := Lib.hid hok; clear hok
  have Hg := Lib.hid hg; clear hg
  go_enter Try.func16, Try.ntmps16
  go_wp2_with fail
  refine (lnone_live _ _ _ hc).mono ?_; rintro e w' ⟨rfl, rfl⟩
  go_wp2_with fail
  refine (check_any _ ⟨v, n, d⟩ _ hk hv).mono ?_; rintro e w1 ⟨rfl, hb⟩
  have hbw := bel2 hb0 hb
  have h1 := h.below hbw
  have hc1 := h1.cell
  have hl1 := h1.look hkm
  simp only [Hg.out, Option.getD_none, Option.isSome_none] at hl1
  have hbox : rowAt w1 (w.heap.size + 1) 0 34 = some (settingC ⟨v, n, d⟩) := by
    rw [rowAt_of_block (hb.block (w.heap.size + 1) (by simp)) 0 34]; simp [go_sem]
  have hsz : w.heap.size + 1 < w1.heap.size := by have := hb.size; simp at this; omega
  have h2 : LastAt (w1.alloc (.cells (settingC setting0) 88)) g b L := h1.kept (Keep.alloc _ _) (by simp) (by simp)
  have hbox2 : rowAt (w1.alloc (.cells (settingC setting0) 88)) (w.heap.size + 1) 0 34 = some (settingC ⟨v, n, d⟩) := ((Keep.alloc w1 _).row (by omega) (by simp) 0 34).trans hbox
  have hbW : Below w.heap.size w (w1.alloc (.cells (settingC setting0) 88)) := hbw.alloc (by omega) _
  clear hbox hb hb0 hc
  go_upto_region 10 with fail
  generalize w1.alloc (.cells (settingC setting0) 88) = W at *
  obtain ⟨w2, hrun, hL2, hk2⟩ := (h2.kept (Keep.drew W) (by simp) (by simp)).put Hok.out (fun was e => by rw [Hg.out] at e; cases e)
  have hgb : g ∉ [b] := by simp; exact h.ne
  have hcW := h2.cell
  have hlb := h.lt.2
  refine wp_region_lex (Kp [b] W) false (by kernel_rfl) (by kernel_rfl) (by kernel_rfl) (kp_drew [b] W) ?_
  have hne := kp_some [b] W
  have hS := kp_drew [b] W
  have b1 := ksub_cell hcW hgb
  have b2 := ksub_row hbox2 (S := [b]) (by simp; omega)
  repeat (refine wpLx_loose ?_ ?_; (focus (simp only [chainOp]; done)); intro K hK; go_simp; refine hK _ ?_; clear hK K)
  refine wpLx_chain ?_ ?_ ?_
  focus (exact hS)
  focus (simp only [chainOp]; done)
  intro K hK
  go_simp
  refine step_keep (kp_next hS hk2 (by simp)) (fun hS => ?_)
  refine hK _ _ ?_
  clear hK K
  refine wpLx_nil ?_
  intro hS
  go_wp2_with fail
  go_ret
  exact ⟨rfl, hL2, Keep.trans ((Keep.of_below hbW).mono (S' := [b]) (by simp)) hS (fun x hx => .inl hx)⟩

set_option maxRecDepth 100000 in
set_option maxHeartbeats 2000000 in
theorem lset_later (k v : ByteArray) (n : Int) (d : Id32) (w : World) (g b : Nat) (L : List LRow) (h : LastAt w g b L) (hok : checkE k ⟨v, n, d⟩ = 0) (was : Setting) (hg : getL L k = some was) (hla : 0 < cmpSet ⟨v, n, d⟩ was) :
    Calls Try.prog 16 #[.pointer (some ⟨g, 0, none⟩), .string k, .string v, .int .i64 n, .agg (idC d)] w fun e w' => e = .returned (.int .i64 0) ∧ LastAt w' g b (insL L k ⟨v, n, d⟩) ∧ Keep [b] w w' := by
  have hbd := checkE_bd hok
  have hk : k.size ≤ 9223372036854775807 := by omega
  have hv : v.size ≤ 9223372036854775807 := by have := hbd.2.1; simp only at this; omega
  have hkm : k.size ≤ maxLen := by simp only [maxLen]; omega
  clear hbd
  have hc : (w.alloc (.cells (idC d) 24)).cell? ⟨g, 0, none⟩ = some (.map (some b)) := (World.cell?_alloc_lt w _ _ h.lt.1).trans h.cell
  have hb0 : Below w.heap.size w ((w.alloc (.cells (idC d) 24)).alloc (.cells (settingC ⟨v, n, d⟩) 88)) := ((Below.refl _ _).alloc (Nat.le_refl _) _).alloc (by simp) _
  have hn : (checkE k ⟨v, n, d⟩ != 0) = false := by rw [hok]; rfl
  have Hok := Lib.hid hok; clear hok
  have Hg := Lib.hid hg; clear hg
  go_enter Try.func16, Try.ntmps16
  go_wp2_with fail
  refine (lnone_live _ _ _ hc).mono ?_; rintro e w' ⟨rfl, rfl⟩
  go_wp2_with fail
  refine (check_any _ ⟨v, n, d⟩ _ hk hv).mono ?_; rintro e w1 ⟨rfl, hb⟩
  have hbw := bel2 hb0 hb
  have h1 := h.below hbw
  have hc1 := h1.cell
  have hl1 := h1.look hkm
  simp only [Hg.out, Option.getD_some, Option.isSome_some] at hl1
  have hbox : rowAt w1 (w.heap.size + 1) 0 34 = some (settingC ⟨v, n, d⟩) := by
    rw [rowAt_of_block (hb.block (w.heap.size + 1) (by simp)) 0 34]; simp [go_sem]
  have hsz : w.heap.size + 1 < w1.heap.size := by have := hb.size; simp at this; omega
  have h2 : LastAt (w1.alloc (.cells (settingC was) 88)) g b L := h1.kept (Keep.alloc _ _) (by simp) (by simp)
  have hbox2 : rowAt (w1.alloc (.cells (settingC was) 88)) (w.heap.size + 1) 0 34 = some (settingC ⟨v, n, d⟩) := ((Keep.alloc w1 _).row (by omega) (by simp) 0 34).trans hbox
  have hbW : Below w.heap.size w (w1.alloc (.cells (settingC was) 88)) := hbw.alloc (by omega) _
  have hwas : rowAt (w1.alloc (.cells (settingC was) 88)) w1.heap.size 0 34 = some (settingC was) := by simp [go_sem]
  clear hb hb0 hc
  go_wp2_with fail
  refine (order_any _ _ _).mono ?_; rintro e W ⟨rfl, hb3⟩
  have hbW2 := bel2 hbW hb3
  have h3 := h2.below hb3
  have hbox3 : rowAt W (w.heap.size + 1) 0 34 = some (settingC ⟨v, n, d⟩) := (rowAt_of_block (hb3.block (w.heap.size + 1) (by simp; omega)) 0 34).trans hbox2
  clear hbox hbox2 hb3 hwas
  go_upto_region 10 with fail
  obtain ⟨w2, hrun, hL2, hk2⟩ := (h3.kept (Keep.drew W) (by simp) (by simp)).put Hok.out (fun x e => by rw [Hg.out] at e; injection e with e; subst e; exact hla)
  have hgb : g ∉ [b] := by simp; exact h.ne
  have hcW := h3.cell
  have hlb := h.lt.2
  refine wp_region_lex (Kp [b] W) false (by kernel_rfl) (by kernel_rfl) (by kernel_rfl) (kp_drew [b] W) ?_
  have hne := kp_some [b] W
  have hS := kp_drew [b] W
  have b1 := ksub_cell hcW hgb
  have b2 := ksub_row hbox3 (S := [b]) (by simp; omega)
  repeat (refine wpLx_loose ?_ ?_; (focus (simp only [chainOp]; done)); intro K hK; go_simp; refine hK _ ?_; clear hK K)
  refine wpLx_chain ?_ ?_ ?_
  focus (exact hS)
  focus (simp only [chainOp]; done)
  intro K hK
  go_simp
  refine step_keep (kp_next hS hk2 (by simp)) (fun hS => ?_)
  refine hK _ _ ?_
  clear hK K
  refine wpLx_nil ?_
  intro hS
  go_wp2_with fail
  go_ret
  exact ⟨rfl, hL2, Keep.trans ((Keep.of_below hbW2).mono (S' := [b]) (by simp)) hS (fun x hx => .inl hx)⟩

set_option maxRecDepth 100000 in
set_option maxHeartbeats 2000000 in
theorem lset_same (k v : ByteArray) (n : Int) (d : Id32) (w : World) (g b : Nat) (L : List LRow) (h : LastAt w g b L) (hok : checkE k ⟨v, n, d⟩ = 0) (was : Setting) (hg : getL L k = some was) (hla : ¬ 0 < cmpSet ⟨v, n, d⟩ was) :
    Calls Try.prog 16 #[.pointer (some ⟨g, 0, none⟩), .string k, .string v, .int .i64 n, .agg (idC d)] w fun e w' => e = .returned (.int .i64 0) ∧ LastAt w' g b L ∧ Below w.heap.size w w' := by
  have hbd := checkE_bd hok
  have hk : k.size ≤ 9223372036854775807 := by omega
  have hv : v.size ≤ 9223372036854775807 := by have := hbd.2.1; simp only at this; omega
  have hkm : k.size ≤ maxLen := by simp only [maxLen]; omega
  clear hbd
  have hc : (w.alloc (.cells (idC d) 24)).cell? ⟨g, 0, none⟩ = some (.map (some b)) := (World.cell?_alloc_lt w _ _ h.lt.1).trans h.cell
  have hb0 : Below w.heap.size w ((w.alloc (.cells (idC d) 24)).alloc (.cells (settingC ⟨v, n, d⟩) 88)) := ((Below.refl _ _).alloc (Nat.le_refl _) _).alloc (by simp) _
  have hn : (checkE k ⟨v, n, d⟩ != 0) = false := by rw [hok]; rfl
  have Hok := Lib.hid hok; clear hok
  have Hg := Lib.hid hg; clear hg
  go_enter Try.func16, Try.ntmps16
  go_wp2_with fail
  refine (lnone_live _ _ _ hc).mono ?_; rintro e w' ⟨rfl, rfl⟩
  go_wp2_with fail
  refine (check_any _ ⟨v, n, d⟩ _ hk hv).mono ?_; rintro e w1 ⟨rfl, hb⟩
  have hbw := bel2 hb0 hb
  have h1 := h.below hbw
  have hc1 := h1.cell
  have hl1 := h1.look hkm
  simp only [Hg.out, Option.getD_some, Option.isSome_some] at hl1
  have hbox : rowAt w1 (w.heap.size + 1) 0 34 = some (settingC ⟨v, n, d⟩) := by
    rw [rowAt_of_block (hb.block (w.heap.size + 1) (by simp)) 0 34]; simp [go_sem]
  have hsz : w.heap.size + 1 < w1.heap.size := by have := hb.size; simp at this; omega
  have h2 : LastAt (w1.alloc (.cells (settingC was) 88)) g b L := h1.kept (Keep.alloc _ _) (by simp) (by simp)
  have hbox2 : rowAt (w1.alloc (.cells (settingC was) 88)) (w.heap.size + 1) 0 34 = some (settingC ⟨v, n, d⟩) := ((Keep.alloc w1 _).row (by omega) (by simp) 0 34).trans hbox
  have hbW : Below w.heap.size w (w1.alloc (.cells (settingC was) 88)) := hbw.alloc (by omega) _
  have hwas : rowAt (w1.alloc (.cells (settingC was) 88)) w1.heap.size 0 34 = some (settingC was) := by simp [go_sem]
  clear hb hb0 hc
  go_wp2_with fail
  refine (order_any _ _ _).mono ?_; rintro e W ⟨rfl, hb3⟩
  have hbW2 := bel2 hbW hb3
  have h3 := h2.below hb3
  have hbox3 : rowAt W (w.heap.size + 1) 0 34 = some (settingC ⟨v, n, d⟩) := (rowAt_of_block (hb3.block (w.heap.size + 1) (by simp; omega)) 0 34).trans hbox2
  clear hbox hbox2 hb3 hwas
  go_wp2_with fail
  go_ret
  exact ⟨rfl, h3, hbW2⟩

theorem lset (k v : ByteArray) (n : Int) (d : Id32) (w : World) (g b : Nat) (L : List LRow) (h : LastAt w g b L) (hk : k.size ≤ 9223372036854775807) (hv : v.size ≤ 9223372036854775807) :
    Calls Try.prog 16 #[.pointer (some ⟨g, 0, none⟩), .string k, .string v, .int .i64 n, .agg (idC d)] w fun e w' => e = .returned (.int .i64 (checkE k ⟨v, n, d⟩)) ∧ LastAt w' g b (setL L k ⟨v, n, d⟩) ∧ Keep [b] w w' := by
  by_cases hc : checkE k ⟨v, n, d⟩ = 0
  · have hs : setL L k ⟨v, n, d⟩ = insL L k ⟨v, n, d⟩ := if_pos hc
    rw [hc, hs]
    cases hg : getL L k with
    | none => exact lset_new k v n d w g b L h hc hg
    | some was =>
      by_cases hla : 0 < cmpSet ⟨v, n, d⟩ was
      · exact lset_later k v n d w g b L h hc was hg hla
      · have e : insL L k ⟨v, n, d⟩ = L := by rw [insL_old L k _ was h.rows.1 (getL_mem hg), if_neg hla]
        rw [e]
        exact (lset_same k v n d w g b L h hc was hg hla).mono fun e w' ⟨he, h1, h2⟩ => ⟨he, h1, (Keep.of_below h2).mono (by simp)⟩
  · have hs : setL L k ⟨v, n, d⟩ = L := if_neg hc
    rw [hs]
    exact (lset_bad k v n d w g b L h hk hv hc).mono fun e w' ⟨he, h2⟩ => ⟨he, h.below h2, (Keep.of_below h2).mono (by simp)⟩

end Go.Proofs.Ytlonihfhgfmplaa
