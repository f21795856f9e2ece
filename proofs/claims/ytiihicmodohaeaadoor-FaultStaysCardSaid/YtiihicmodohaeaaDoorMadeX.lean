/- The statements of layer 4: made: the walk. -/
import Derived.Test.YtiihicmodohaeaaDoorMadeW
namespace Go.Proofs.YtiihicmodohaeaaDoor
open Go.RowKit Go.Extern.Stop Go.Stop Go.Extern

theorem pow_next (k : Nat) : 2 ^ (k + 1 + 2) = 2 * 2 ^ (k + 2) := by rw [show k + 1 + 2 = (k + 2) + 1 by omega, Nat.pow_succ, Nat.mul_comm]
theorem pow_four (k : Nat) : 4 ≤ 2 ^ (k + 2) := by
  have : 2 ^ 2 ≤ 2 ^ (k + 2) := Nat.pow_le_pow_right (by omega) (by omega)
  simpa using this
theorem pow_top {k : Nat} (h : k ≤ 30) : 2 ^ (k + 2) ≤ 4294967296 := by
  have : 2 ^ (k + 2) ≤ 2 ^ 32 := Nat.pow_le_pow_right (by omega) (by omega)
  simpa using this

theorem new_sz (n : Int) : SzO (if n = 0 then none else some (.num n)) ≤ 1 := by split <;> simp [SzO, ErrT.sz]
theorem new_short (n : Int) : shortO (if n = 0 then none else some (.num n)) := by
  intro R hR; split at hR <;> simp [repsO, reportsOf] at hR
theorem mis_sz (n : Nat) (R : List Id32) : SzO (if n = 0 then none else some (.rep R)) ≤ 2 := by split <;> simp [SzO, ErrT.sz]
theorem mis_short (n : Nat) (R : List Id32) (h : R.length ≤ 20) : shortO (if n = 0 then none else some (.rep R)) := by
  intro R' hR; split at hR
  · simp [repsO] at hR
  · simp [repsO, reportsOf] at hR; subst hR; exact h
theorem wrap_sz (op : ByteArray) (o : Option ErrT) : SzO (o.map (.wrap op)) ≤ SzO o + 1 := by cases o <;> simp [SzO, ErrT.sz]
theorem wrap_short {op : ByteArray} {o : Option ErrT} (h : shortO o) : shortO (o.map (.wrap op)) := by cases o <;> exact h
theorem join_sz (a b : Option ErrT) : SzO (joinO a b) ≤ SzO a + SzO b + 1 := by cases a <;> cases b <;> simp [SzO, joinO, ErrT.sz] <;> omega
theorem join_short {a b : Option ErrT} (ha : shortO a) (hb : shortO b) : shortO (joinO a b) := by
  intro R hR
  have e : repsO (joinO a b) = repsO a ++ repsO b := by cases a <;> cases b <;> simp [repsO, joinO, reportsOf]
  rw [e] at hR
  rcases List.mem_append.1 hR with h | h
  · exact ha R h
  · exact hb R h
def stE (a : Addr) (v : Value) : Sem Unit := storeVar 26 a v
@[go_sem ↓] theorem storeErr_rw (a : Addr) (v : Value) : storeVar 26 a v = stE a v := rfl
theorem sizeErr (w : World) : (sizeOf 26).run Tryd.prog w = .ok 1 w := by kernel_rfl
theorem run_stE {w : World} {g i : Nat} {v u : Value} (hv : v = .nilIface ∨ ∃ d x, v = .iface d x) (hc : w.cell? ⟨g, i, none⟩ = some u) (hf : w.frozen? ⟨g, i, none⟩ = false) : (stE ⟨g, i, none⟩ v).run Tryd.prog w = .ok () (w.setCell ⟨g, i, none⟩ v) := by
  unfold stE storeVar
  rcases hv with rfl | ⟨d, x, rfl⟩
  · simp [Value.cells, sizeErr, storeCells, Addr.add]
    rw [run_store Tryd.prog w ⟨g, i, none⟩ _ _ rfl]
    simp [hc, hf]
  · simp [Value.cells, sizeErr, storeCells, Addr.add]
    rw [run_store Tryd.prog w ⟨g, i, none⟩ _ _ rfl]
    simp [hc, hf]
/-- What holds at the loop's head. -/
structure Loop (B : Nat) (W0 wr : World) (k : Nat) (L : List Ent) (A1 : Option Addr) (c1 : Nat) (A2 : Option Addr) (c2 : Nat) : Prop where
  len : L.length ≤ k
  o1 : Own wr W0.heap.size 26 1 A1 L.length c1 (L.map vR)
  o2 : Own wr W0.heap.size 39 3 A2 L.length c2 (L.map xR)
  ok : ∀ e ∈ L, EntOk ((B :: blk A1) ++ blk A2) wr (2 ^ (k + 2)) e
  be : Below W0.heap.size W0 wr


theorem flt_cells {W : World} {g : Nat} {x : Flt} (h : rowAt W g 0 3 = some (fltC x)) : W.cell? ⟨g, 0, none⟩ = some x.nums ∧ W.cell? ⟨g, 1, none⟩ = some x.ops ∧ W.cell? ⟨g, 2, none⟩ = some x.reps := by
  obtain ⟨a, b, c⟩ := x; exact flt_box h
/-- The result's block, filled at the end: what else stays. -/
theorem fill_end {B : Nat} {w W : World} {x : Flt} (hw : W.heap[B]? = some (.cells (fltC flt0) 39 (0, 0))) (hB : w.heap.size ≤ B) (hb : Below w.heap.size w W) {o : Option ErrT} {v : Value} (h : FltO [B] W o x) (hv : ErrOO [B] W o v) :
    ∃ W', (stS 39 ⟨B, 0, none⟩ (.agg (fltC x))).run Tryd.prog W = .ok () W' ∧ rowAt W' B 0 3 = some (fltC x) ∧ FltO [] W' o x ∧ ErrOO [] W' o v ∧ Below w.heap.size w W' := by
  have hks := keep_setRow W B (fltC x)
  have hg := setRow_heap W B _ (fltC x) _ _ hw
  refine ⟨_, stS_at infoFlt W B _ (fltC x) _ hw (fltC_size _) (fltC_size _) (fltC_one x h.n.one h.o.one h.r.one), ?_, (h.kept hks).re (by simp), (hv.kept hks).re (by simp), hb.trans (hks.below hb.size (by simpa using hB))⟩
  unfold rowAt; rw [hg]; simp [go_sem]
set_option maxRecDepth 100000 in
set_option maxHeartbeats 8000000 in
theorem made_any (w : World) (A : Option Addr) (n cap : Nat) (Q : List StepV) (h : SlR w A n 4 (Q.map stepC)) (hq : ∀ s ∈ Q, stepOk w s) (hn : n ≤ 9223372036854775807) :
    Calls Tryd.prog 12 #[.slice A n cap] w (MadeRes w) := by
  have hQl : Q.length = n := by simpa using h.1
  have HQl := Lib.hid hQl
  have Hq := Lib.hid hq
  clear hQl hq
  have hb0 : Below w.heap.size w (w.alloc (.cells (fltC flt0) 39)) := (Below.refl _ _).alloc (Nat.le_refl _) _
  have hres0 := heap_alloc_new w (.cells (fltC flt0) 39)
  have hsz0 : w.heap.size < (w.alloc (.cells (fltC flt0) 39)).heap.size := by simp
  go_enter Tryd.func12, Tryd.ntmps12
  go_wp2_with fail
  obtain ⟨B, hB⟩ : ∃ B, w.heap.size = B := ⟨_, rfl⟩
  have HB := Lib.hid hB
  rw [hB] at hres0 hsz0 ⊢
  clear hB
  generalize w.alloc (.cells (fltC flt0) 39) = W0 at *
  have Hres0 := Lib.hid hres0
  clear hres0
  go_loopw [4, 5, 6] (fun ev wv i wr => ∃ (k : Nat) (L : List Ent) (A1 A2 : Option Addr) (c1 c2 : Nat), k ≤ 30 ∧ k ≤ n ∧ i = .int .i64 k ∧ ev = .slice A1 L.length c1 ∧ wv = .slice A2 L.length c2 ∧ Hid (Loop B W0 wr k L A1 c1 A2 c2)) (fun _ _ i _ => 30 - (intOf i).toNat)
  case atStart => exact ⟨0, [], none, none, 0, 0, by omega, Nat.zero_le _, rfl, rfl, rfl, (show Loop B W0 _ 0 [] none 0 none 0 from ⟨Nat.le_refl _, Own.nil _ _ _ _, Own.nil _ _ _ _, by simp, Below.refl _ _⟩)⟩
  case round =>
    obtain ⟨k, L, A1, A2, c1, c2, hk30, hkn, rfl, rfl, rfl, HL⟩ := hrel
    have hlp := HL.out
    have hLk := hlp.len
    by_cases hgo : k < n ∧ k < 30
    · obtain ⟨hlt, hlt30⟩ := hgo
      have hbwr : Below w.heap.size w wr := bel2 hb0 hlp.be
      obtain ⟨q, o, rfl, hr0⟩ := (SlR.below h hbwr).at_ hlt
      rw [List.getElem_map] at hr0
      have hso := Hq.out _ (List.getElem_mem (show k < Q.length by rw [HQl.out]; exact hlt))
      obtain ⟨s, hs⟩ : ∃ s, Q[k]'(by rw [HQl.out]; exact hlt) = s := ⟨_, rfl⟩
      rw [hs] at hr0 hso
      obtain ⟨sk, se, sop, sA, sn, scap, sR⟩ := s
      obtain ⟨hids0, hcap1, hcap2⟩ := hso
      obtain ⟨y0, y1, y2, y3⟩ := step_cells hr0
      simp only at y0 y1 y2 y3 hids0 hcap1 hcap2
      have hids := SlR.below hids0 hbwr
      have hqw : q < w.heap.size := by
        obtain ⟨g, o', e, hr'⟩ := h.at_ hlt
        injection e with e; injection e with e1 _
        subst e1; exact rowAt_lt hr'
      clear hs hr0 hids
      have hRn : sR.length = sn := by simpa using hids0.1
      have HL2 := Lib.hid hlp
      have HRn := Lib.hid hRn
      clear hlp hRn
      by_cases h20 : 20 < sn
      · have hids2 : IdsIn w sA 20 (sR.take 20) := by have := SlR.take_ hids0 (m := 20) (by omega); rwa [← List.map_take] at this
        have hR20 : (sR.take 20).length ≤ 20 := List.length_take_le _ _
        have hcap20 : (20 : Int) ≤ scap := by omega
        obtain ⟨R20, hR20e⟩ : ∃ R20, sR.take 20 = R20 := ⟨_, rfl⟩
        rw [hR20e] at hids2 hR20
        clear hR20e hids0
        go_upto_region 10 with fail
        cases hK0 : (sk == 0) with
        | true =>
          go_upto_region 17 with fail
          have hlp := HL2.out
          go_wp2_with fail
          refine (new_oo ((B :: blk A1) ++ blk A2) se _).mono ?_
          rintro e w1 ⟨v1, rfl, hv1, hb1⟩
          have hcv := hv1.cells
          have hbs := fun w => run_bsS1v einfoErr w v1 hcv
          have hvone := vR_one hv1
          have ho1 := hlp.o1.below hb1
          have hbx : Below w1.heap.size w1 (w1.alloc (.cells #[v1] 26)) := (Below.refl _ _).alloc (Nat.le_refl _) _
          have ho1' := ho1.below hbx
          have hrowv : rowAt (w1.alloc (.cells #[v1] 26)) w1.heap.size 0 1 = some #[v1] := by simp [go_sem]
          have hB1 : W0.heap.size ≤ w1.heap.size := Nat.le_trans hlp.be.size hb1.size
          have hv1H := Lib.hid hv1
          clear hv1 hcv
          go_upto_region 18 with (at_builtin; refine L_append einfoErr rfl ho1' rfl hrowv hvone (by omega) (by omega) (by simp; omega) ?_; intro A3 c3 w3 ho3 hk3 hsub3)
          have hk13 : Keep (blk A1) w1 w3 := Keep.trans ((Keep.of_below hbx).mono (S' := blk A1) (by simp)) hk3 (fun x hx => .inl hx)
          have hsub : ∀ x ∈ blk A3, x ∈ blk A1 ∨ w1.heap.size ≤ x := fun x hx => by
            rcases hsub3 x hx with h | h
            · exact .inl h
            · right; simp at h; omega
          have ho2 := (hlp.o2.below hb1).kept hk13 (Own.apart (hlp.o2.below hb1) ho1 (by decide))
          have hS2 : ∀ x ∈ (B :: blk A3) ++ blk A2, x < w3.heap.size := fun x hx => by
            rcases List.mem_append.1 hx with h | h
            · rcases List.mem_cons.1 h with h | h
              · subst h; exact Nat.lt_of_lt_of_le hsz0 (Nat.le_trans hB1 hk13.size)
              · exact (ho3.at_base h).2
            · exact (ho2.at_base h).2
          have hb03 : Below W0.heap.size W0 w3 := (hlp.be.trans (hb1.mono hlp.be.size)).trans (hk13.below hB1 (fun x hx => (hlp.o1.at_base hx).1))
          clear ho1 ho1' hbx hrowv hbs hk3 hsub3 hvone
          have hc3 : w3.cell? ⟨q, o + k * 4 + 1, none⟩ = some (.int .i64 se) := ((bel2 hb0 hb03).cell (p := ⟨q, o + k * 4 + 1, none⟩) hqw).trans ((hbwr.cell (p := ⟨q, o + k * 4 + 1, none⟩) hqw).symm.trans y1)
          go_wp2_with fail
          refine (rnew_oo ((B :: blk A3) ++ blk A2) se _ hS2).mono ?_
          rintro e w4 ⟨x4, rfl, hx4, hb4⟩
          have hxone := xR_one hx4
          have ho2' := ho2.below hb4
          have hbx : Below w4.heap.size w4 (w4.alloc (.cells (fltC x4) 39)) := (Below.refl _ _).alloc (Nat.le_refl _) _
          have ho2'' := ho2'.below hbx
          have hrowx : rowAt (w4.alloc (.cells (fltC x4) 39)) w4.heap.size 0 3 = some (fltC x4) := by simp [go_sem]
          have hB4 : W0.heap.size ≤ w4.heap.size := Nat.le_trans hb03.size hb4.size
          have hx4H := Lib.hid hx4
          clear hx4
          go_wp2_with (at_builtin; refine L_append einfoFlt rfl ho2'' rfl hrowx hxone (by omega) (by omega) (by simp; omega) ?_; intro A5 c5 w5 ho5 hk5 hsub5)
          have hk45 : Keep (blk A2) w4 w5 := Keep.trans ((Keep.of_below hbx).mono (S' := blk A2) (by simp)) hk5 (fun x hx => .inl hx)
          have hsub' : ∀ x ∈ blk A5, x ∈ blk A2 ∨ w4.heap.size ≤ x := fun x hx => by
            rcases hsub5 x hx with h | h
            · exact .inl h
            · right; simp at h; omega
          have ho35 := (ho3.below hb4).kept hk45 (Own.apart (ho3.below hb4) ho2' (by decide))
          have hsubB : ∀ x ∈ B :: blk A3, x ∈ B :: blk A1 ∨ w1.heap.size ≤ x := fun x hx => by
            rcases List.mem_cons.1 hx with h | h
            · exact .inl (List.mem_cons.2 (.inl h))
            · exact (hsub x h).imp (fun h => List.mem_cons.2 (.inr h)) id
          have tn : Turns (B :: blk A1) (blk A2) (B :: blk A3) (blk A5) wr w1 w3 w4 w5 := ⟨hb1, hk13.mono (fun x hx => .inl (List.mem_cons.2 (.inr hx))), hsubB, hb4, hk45, hsub'⟩
          have hb05 : Below W0.heap.size W0 w5 := (hb03.trans (hb4.mono hb03.size)).trans (hk45.below hB4 (fun x hx => (ho2'.at_base hx).1))
          have hP := pow_next k; have h4 := pow_four k
          have hlp5 : Loop B W0 w5 (k + 1) (L ++ [⟨(if se = 0 then none else some (.num se)), v1, x4⟩]) A3 c3 A5 c5 := by
            have hll : (L ++ [(⟨(if se = 0 then none else some (.num se)), v1, x4⟩ : Ent)]).length = L.length + 1 := by simp
            refine ⟨by have := hlp.len; omega, by rw [hll, List.map_append]; exact ho35, by rw [hll, List.map_append]; exact ho5, fun e he => ?_, hb05⟩
            rcases List.mem_append.1 he with h | h
            · exact tn.old (by omega) (hlp.ok e h)
            · simp at h; subst h
              exact tn.ent hv1H.out hx4H.out (by have := new_sz se; omega) (by exact new_short se)
          have Hlp5 := Lib.hid hlp5
          clear hlp5 tn hb05 hk45 hsub' ho35 ho5 hk5 hsub5 hbx ho2' ho2'' hrowx hxone ho2 ho3 hk13 hsub hb1 hb4 hb03 hP h4
          have hll : L.length + 1 = (L ++ [(⟨(if se = 0 then none else some (.num se)), v1, x4⟩ : Ent)]).length := by simp
          have Hll := Lib.hid hll
          clear hll
          go_wp2_with fail
          go_roundw
          case rel => exact ⟨k + 1, _, A3, A5, c3, c5, by omega, by omega, by go_num, by rw [Hll.out], by rw [Hll.out], Hlp5⟩
          case measure => simp [intOf]; omega
        | false =>
          cases hK1 : (sk == 1) with
          | true =>
            go_upto_region 20 with fail
            have hlp := HL2.out
            go_wp2_with fail
            refine (missing_oo ((B :: blk A1) ++ blk A2) _ sA _ scap _ (SlR.below hids2 hbwr) (by omega) (fun x hx => by rcases List.mem_append.1 hx with h | h; rcases List.mem_cons.1 h with h | h; subst h; exact Nat.lt_of_lt_of_le hsz0 hlp.be.size; exact (hlp.o1.at_base h).2; exact (hlp.o2.at_base h).2)).mono ?_
            rintro e w1 ⟨v1, rfl, hv1, hb1⟩
            have hcv := hv1.cells
            have hbs := fun w => run_bsS1v einfoErr w v1 hcv
            have hvone := vR_one hv1
            have ho1 := hlp.o1.below hb1
            have hbx : Below w1.heap.size w1 (w1.alloc (.cells #[v1] 26)) := (Below.refl _ _).alloc (Nat.le_refl _) _
            have ho1' := ho1.below hbx
            have hrowv : rowAt (w1.alloc (.cells #[v1] 26)) w1.heap.size 0 1 = some #[v1] := by simp [go_sem]
            have hB1 : W0.heap.size ≤ w1.heap.size := Nat.le_trans hlp.be.size hb1.size
            have hv1H := Lib.hid hv1
            clear hv1 hcv
            go_upto_region 21 with (at_builtin; refine L_append einfoErr rfl ho1' rfl hrowv hvone (by omega) (by omega) (by simp; omega) ?_; intro A3 c3 w3 ho3 hk3 hsub3)
            have hk13 : Keep (blk A1) w1 w3 := Keep.trans ((Keep.of_below hbx).mono (S' := blk A1) (by simp)) hk3 (fun x hx => .inl hx)
            have hsub : ∀ x ∈ blk A3, x ∈ blk A1 ∨ w1.heap.size ≤ x := fun x hx => by
              rcases hsub3 x hx with h | h
              · exact .inl h
              · right; simp at h; omega
            have ho2 := (hlp.o2.below hb1).kept hk13 (Own.apart (hlp.o2.below hb1) ho1 (by decide))
            have hS2 : ∀ x ∈ (B :: blk A3) ++ blk A2, x < w3.heap.size := fun x hx => by
              rcases List.mem_append.1 hx with h | h
              · rcases List.mem_cons.1 h with h | h
                · subst h; exact Nat.lt_of_lt_of_le hsz0 (Nat.le_trans hB1 hk13.size)
                · exact (ho3.at_base h).2
              · exact (ho2.at_base h).2
            have hb03 : Below W0.heap.size W0 w3 := (hlp.be.trans (hb1.mono hlp.be.size)).trans (hk13.below hB1 (fun x hx => (hlp.o1.at_base hx).1))
            clear ho1 ho1' hbx hrowv hbs hk3 hsub3 hvone
            go_wp2_with fail
            refine (rmissing_oo ((B :: blk A3) ++ blk A2) _ sA _ scap _ (SlR.below hids2 (bel2 hb0 hb03)) (by omega) hS2).mono ?_
            rintro e w4 ⟨x4, rfl, hx4, hb4⟩
            have hxone := xR_one hx4
            have ho2' := ho2.below hb4
            have hbx : Below w4.heap.size w4 (w4.alloc (.cells (fltC x4) 39)) := (Below.refl _ _).alloc (Nat.le_refl _) _
            have ho2'' := ho2'.below hbx
            have hrowx : rowAt (w4.alloc (.cells (fltC x4) 39)) w4.heap.size 0 3 = some (fltC x4) := by simp [go_sem]
            have hB4 : W0.heap.size ≤ w4.heap.size := Nat.le_trans hb03.size hb4.size
            have hx4H := Lib.hid hx4
            clear hx4
            go_wp2_with (at_builtin; refine L_append einfoFlt rfl ho2'' rfl hrowx hxone (by omega) (by omega) (by simp; omega) ?_; intro A5 c5 w5 ho5 hk5 hsub5)
            have hk45 : Keep (blk A2) w4 w5 := Keep.trans ((Keep.of_below hbx).mono (S' := blk A2) (by simp)) hk5 (fun x hx => .inl hx)
            have hsub' : ∀ x ∈ blk A5, x ∈ blk A2 ∨ w4.heap.size ≤ x := fun x hx => by
              rcases hsub5 x hx with h | h
              · exact .inl h
              · right; simp at h; omega
            have ho35 := (ho3.below hb4).kept hk45 (Own.apart (ho3.below hb4) ho2' (by decide))
            have hsubB : ∀ x ∈ B :: blk A3, x ∈ B :: blk A1 ∨ w1.heap.size ≤ x := fun x hx => by
              rcases List.mem_cons.1 hx with h | h
              · exact .inl (List.mem_cons.2 (.inl h))
              · exact (hsub x h).imp (fun h => List.mem_cons.2 (.inr h)) id
            have tn : Turns (B :: blk A1) (blk A2) (B :: blk A3) (blk A5) wr w1 w3 w4 w5 := ⟨hb1, hk13.mono (fun x hx => .inl (List.mem_cons.2 (.inr hx))), hsubB, hb4, hk45, hsub'⟩
            have hb05 : Below W0.heap.size W0 w5 := (hb03.trans (hb4.mono hb03.size)).trans (hk45.below hB4 (fun x hx => (ho2'.at_base hx).1))
            have hP := pow_next k; have h4 := pow_four k
            have hlp5 : Loop B W0 w5 (k + 1) (L ++ [⟨(if 20 = 0 then none else some (.rep R20)), v1, x4⟩]) A3 c3 A5 c5 := by
              have hll : (L ++ [(⟨(if 20 = 0 then none else some (.rep R20)), v1, x4⟩ : Ent)]).length = L.length + 1 := by simp
              refine ⟨by have := hlp.len; omega, by rw [hll, List.map_append]; exact ho35, by rw [hll, List.map_append]; exact ho5, fun e he => ?_, hb05⟩
              rcases List.mem_append.1 he with h | h
              · exact tn.old (by omega) (hlp.ok e h)
              · simp at h; subst h
                exact tn.ent hv1H.out hx4H.out (by have := mis_sz 20 R20; omega) (by exact mis_short 20 R20 hR20)
            have Hlp5 := Lib.hid hlp5
            clear hlp5 tn hb05 hk45 hsub' ho35 ho5 hk5 hsub5 hbx ho2' ho2'' hrowx hxone ho2 ho3 hk13 hsub hb1 hb4 hb03 hP h4
            have hll : L.length + 1 = (L ++ [(⟨(if 20 = 0 then none else some (.rep R20)), v1, x4⟩ : Ent)]).length := by simp
            have Hll := Lib.hid hll
            clear hll
            go_wp2_with fail
            go_roundw
            case rel => exact ⟨k + 1, _, A3, A5, c3, c5, by omega, by omega, by go_num, by rw [Hll.out], by rw [Hll.out], Hlp5⟩
            case measure => simp [intOf]; omega
          | false =>
            cases hK2 : (sk == 2) with
            | true =>
              have hK2' : sk = 2 := by simpa using hK2
              by_cases hL0 : L.length = 0
              · have hlp5 : Loop B W0 wr (k + 1) L A1 c1 A2 c2 := by
                  have hlp := HL2.out
                  have hP := pow_next k
                  exact ⟨by omega, hlp.o1, hlp.o2, fun e he => (hlp.ok e he).more (by omega), hlp.be⟩
                have Hlp5 := Lib.hid hlp5
                have hL0b : ¬ (0 : Int) < (L.length : Int) := by omega
                clear hlp5 HL2 hK2'
                go_wp2_with fail
                go_roundw
                case rel => exact ⟨k + 1, _, A1, A2, c1, c2, by omega, by omega, by go_num, rfl, rfl, Hlp5⟩
                case measure => simp [intOf]; omega
              · have hlp := HL2.out
                obtain ⟨m, hm⟩ : ∃ m, m + 1 = L.length := ⟨L.length - 1, by omega⟩
                have hL0b : (0 : Int) < (L.length : Int) := by omega
                clear hK2' hL0
                go_upto_region 24 with fail
                obtain ⟨g1, rfl⟩ : ∃ g1, A1 = some ⟨g1, 0, none⟩ := by
                  rcases hlp.o1.addr with e | e
                  · have := (hlp.o1.cap_le.2 e).1; omega
                  · exact e
                obtain ⟨g2, rfl⟩ : ∃ g2, A2 = some ⟨g2, 0, none⟩ := by
                  rcases hlp.o2.addr with e | e
                  · have := (hlp.o2.cap_le.2 e).1; omega
                  · exact e
                have hb1e : blk (some ⟨g1, 0, none⟩) = [g1] := rfl
                have hb2e : blk (some ⟨g2, 0, none⟩) = [g2] := rfl
                have hSlt : ∀ x ∈ (B :: [g1]) ++ [g2], x < wr.heap.size := fun x hx => by
                  rcases List.mem_append.1 hx with h | h
                  · rcases List.mem_cons.1 h with h | h
                    · subst h; exact Nat.lt_of_lt_of_le hsz0 hlp.be.size
                    · exact (hlp.o1.at_base h).2
                  · exact (hlp.o2.at_base h).2
                have hg1W := (hlp.o1.at_base (x := g1) (by simp [blk])).1
                have hg2W := (hlp.o2.at_base (x := g2) (by simp [blk])).1
                have hbwr' := hlp.be
                have hmL : m < L.length := by omega
                obtain ⟨en, hen⟩ : ∃ en, L[m]'hmL = en := ⟨_, rfl⟩
                have hok := hlp.ok en (by rw [← hen]; exact List.getElem_mem hmL)
                obtain ⟨eo, ev, ex⟩ := en
                obtain ⟨hev, hex, hesz, hesh⟩ := hok
                simp only at hev hex hesz hesh
                have hcell1 : wr.cell? ⟨g1, m, none⟩ = some ev := by
                  obtain ⟨g', o', e, hr⟩ := hlp.o1.slr.at_ hmL
                  injection e with e; injection e with e1 e2
                  subst e1; subst e2
                  rw [List.getElem_map, hen] at hr
                  have := rowAt_cell hr (j := 0) (by omega)
                  simpa [vR] using this
                have t1 : IntKind.i64.wrap ((L.length : Int) - 1) = (m : Int) := by rw [show (L.length : Int) - 1 = m by omega]; exact IntWalk.i64_in _ (by omega)
                have t2 : (0 : Int) ≤ (m : Int) := by omega
                have t3 : (m : Int) < (L.length : Int) := by omega
                have hexH := Lib.hid hex
                have hevH := Lib.hid hev
                have hesh' := Lib.hid hesh
                have henH := Lib.hid hen
                have ho1H := Lib.hid hlp.o1
                have ho2H := Lib.hid hlp.o2
                have hokH := Lib.hid hlp.ok
                clear hex hev hesh hen hlp HL2 HL
                refine wp_region_lexf (Kp ([] : List Nat) wr) false (by kernel_rfl) (by kernel_rfl) (by kernel_rfl) (by kernel_rfl) (kp_drew ([] : List Nat) wr) ?_
                have hne := kp_some ([] : List Nat) wr
                have hS := kp_drew ([] : List Nat) wr
                have b1 := ksub_cell y2 (S := []) (by simp)
                have b2 := ksub_cell hcell1 (S := []) (by simp)
                repeat (refine wpLx_loose ?_ ?_; (focus (simp only [chainOp]; done)); intro K hK; go_simp; refine hK _ ?_; clear hK K)
                refine wpLx_chain ?_ ?_ ?_
                focus (exact hS)
                focus (simp only [chainOp]; done)
                intro K hK
                go_simp
                refine (wrap_oo ((B :: [g1]) ++ [g2]) sop eo ev _ (hevH.out.kept (hS.mono (by simp))) (fun x hx => Nat.lt_of_lt_of_le (hSlt x hx) hS.size)).mono ?_
                rintro e w1 ⟨v1, rfl, hv1, hb1⟩
                replace hS := kp_next hS (Keep.of_below hb1) (by simp)
                refine ⟨_, rfl, hS, hK _ _ ?_⟩
                clear hK K
                repeat (refine wpLx_loose ?_ ?_; (focus (simp only [chainOp]; done)); intro K hK; go_simp; refine hK _ ?_; clear hK K)
                have hb01 : Below wr.heap.size wr w1 := Keep.below hS (Nat.le_refl _) (by simp)
                obtain ⟨ho3, hk13, ⟨u0, hcell0⟩, hfr0⟩ := own_set1 (ho1H.out.below hb01) hmL v1
                have hst := run_stE hv1.one hcell0 hfr0
                refine wpLx_end ?_ ?_
                focus (simp only [chainOp]; done)
                intro K hK
                go_simp
                refine hK _ _ ?_
                clear hK K
                have hv1H := Lib.hid hv1
                have ho2a := (ho2H.out.below hb01).kept hk13 (fun x hx => by have := Own.apart ho2H.out ho1H.out (by decide) x hx; simpa [blk] using this)
                clear b1 b2 hne hS hcell0 hfr0 hst hv1 u0
                have hkr3 : Keep ((B :: [g1]) ++ [g2]) wr (w1.setCell ⟨g1, m, none⟩ v1) := Keep.trans ((Keep.of_below hb01).mono (by simp)) (hk13.mono (S' := (B :: [g1]) ++ [g2]) (by simp)) (fun x hx => .inl hx)
                have hex3 := hexH.out.kept hkr3
                have hb03 : Below W0.heap.size W0 (w1.setCell ⟨g1, m, none⟩ v1) := (hbwr'.trans (hb01.mono hbwr'.size)).trans (hk13.below (Nat.le_trans hbwr'.size hb01.size) (by simpa using hg1W))
                have hc3 : (w1.setCell ⟨g1, m, none⟩ v1).cell? ⟨q, o + k * 4 + 2, none⟩ = some (.string sop) := ((bel2 hb0 hb03).cell (p := ⟨q, o + k * 4 + 2, none⟩) hqw).trans ((hbwr.cell (p := ⟨q, o + k * 4 + 2, none⟩) hqw).symm.trans y2)
                go_upto_region 25 with fail
                generalize w1.setCell ⟨g1, m, none⟩ v1 = w3 at *
                have hrow3 : rowAt w3 g2 (m * 3) 3 = some (fltC ex) := by
                  obtain ⟨g', o', e, hr⟩ := ho2a.slr.at_ hmL
                  injection e with e; injection e with e1 e2
                  subst e1; subst e2
                  rw [List.getElem_map, henH.out] at hr
                  simpa [xR] using hr
                have hex3H := Lib.hid hex3
                have hszW := hkr3.size
                clear hex3
                refine wp_region_lexf (Kp ([] : List Nat) w3) false (by kernel_rfl) (by kernel_rfl) (by kernel_rfl) (by kernel_rfl) (kp_drew ([] : List Nat) w3) ?_
                have hne := kp_some ([] : List Nat) w3
                have hS := kp_drew ([] : List Nat) w3
                have b1 := ksub_cell hc3 (S := []) (by simp)
                have b2 := ksub_row hrow3 (S := []) (by simp)
                repeat (refine wpLx_loose ?_ ?_; (focus (simp only [chainOp]; done)); intro K hK; go_simp; refine hK _ ?_; clear hK K)
                refine wpLx_chain ?_ ?_ ?_
                focus (exact hS)
                focus (simp only [chainOp]; done)
                intro K hK
                go_simp
                refine (rwrap_oo ((B :: [g1]) ++ [g2]) sop eo ex _ (hex3H.out.kept (hS.mono (by simp))) (fun x hx => Nat.lt_of_lt_of_le (hSlt x hx) (Nat.le_trans hszW hS.size)) (by have := pow_top hk30; omega)).mono ?_
                rintro e w4 ⟨x4, rfl, hx4, hb4⟩
                replace hS := kp_next hS (Keep.of_below hb4) (by simp)
                refine ⟨_, rfl, hS, hK _ _ ?_⟩
                clear hK K
                repeat (refine wpLx_loose ?_ ?_; (focus (simp only [chainOp]; done)); intro K hK; go_simp; refine hK _ ?_; clear hK K)
                have hb34 : Below w3.heap.size w3 w4 := Keep.below hS (Nat.le_refl _) (by simp)
                obtain ⟨w5, hst, ho5, hk5⟩ := own_store einfoFlt (ho2a.below hb34) hmL (fltC_size x4) (xR_one hx4)
                refine wpLx_end ?_ ?_
                focus (simp only [chainOp]; done)
                intro K hK
                go_simp
                refine hK _ _ ?_
                clear hK K
                have tn : Turns (B :: [g1]) [g2] (B :: [g1]) [g2] wr w1 w3 w4 w5 := ⟨hb01, hk13.mono (by simp), fun x hx => .inl hx, hb34, hk5, fun x hx => .inl hx⟩
                have hb05 : Below W0.heap.size W0 w5 := (hb03.trans (hb34.mono hb03.size)).trans (hk5.below (Nat.le_trans hb03.size hb34.size) (by simpa using hg2W))
                have hlp5 : Loop B W0 w5 (k + 1) (L.set m ⟨eo.map (.wrap sop), v1, x4⟩) (some ⟨g1, 0, none⟩) c1 (some ⟨g2, 0, none⟩) c2 := by
                  have hP := pow_next k
                  have h4 := pow_four k
                  have hll : (L.set m (⟨eo.map (.wrap sop), v1, x4⟩ : Ent)).length = L.length := List.length_set
                  refine ⟨by omega, ?_, ?_, fun e he => ?_, hb05⟩
                  · rw [hll, List.map_set]
                    exact (ho3.below hb34).kept hk5 (fun x hx => by have := Own.apart ho1H.out ho2H.out (by decide) x hx; simpa [blk] using this)
                  · rw [hll, List.map_set]; exact ho5
                  · rcases List.mem_or_eq_of_mem_set he with h | h
                    · exact tn.old (by omega) (hokH.out e h)
                    · subst h
                      exact tn.ent hv1H.out hx4 (by have := wrap_sz sop eo; omega) (wrap_short hesh'.out)
                have Hlp5 := Lib.hid hlp5
                have hll : L.length = (L.set m (⟨eo.map (.wrap sop), v1, x4⟩ : Ent)).length := List.length_set.symm
                have Hll := Lib.hid hll
                clear hlp5 tn hb05 hst ho5 hk5 hx4 b1 b2 hne hS hrow3 hc3 ho3 ho2a hll hk13 hb01 hb34 hb03 hkr3 t1 t2 t3 hcell1
                go_wp2_with fail
                go_roundw
                case rel => exact ⟨k + 1, _, some ⟨g1, 0, none⟩, some ⟨g2, 0, none⟩, c1, c2, by omega, by omega, by go_num, by rw [Hll.out], by rw [Hll.out], Hlp5⟩
                case measure => simp [intOf]; omega
            | false =>
              by_cases hL1 : L.length ≤ 1
              · have hlp5 : Loop B W0 wr (k + 1) L A1 c1 A2 c2 := by
                  have hlp := HL2.out
                  have hP := pow_next k
                  exact ⟨by omega, hlp.o1, hlp.o2, fun e he => (hlp.ok e he).more (by omega), hlp.be⟩
                have Hlp5 := Lib.hid hlp5
                have hL1b : ¬ (1 : Int) < (L.length : Int) := by omega
                clear hlp5 HL2
                go_wp2_with fail
                go_roundw
                case rel => exact ⟨k + 1, _, A1, A2, c1, c2, by omega, by omega, by go_num, rfl, rfl, Hlp5⟩
                case measure => simp [intOf]; omega
              · have hlp := HL2.out
                obtain ⟨m, hm⟩ : ∃ m, m + 2 = L.length := ⟨L.length - 2, by omega⟩
                have hL1b : (1 : Int) < (L.length : Int) := by omega
                clear hL1
                go_upto_region 12 with fail
                obtain ⟨g1, rfl⟩ : ∃ g1, A1 = some ⟨g1, 0, none⟩ := by
                  rcases hlp.o1.addr with e | e
                  · have := (hlp.o1.cap_le.2 e).1; omega
                  · exact e
                obtain ⟨g2, rfl⟩ : ∃ g2, A2 = some ⟨g2, 0, none⟩ := by
                  rcases hlp.o2.addr with e | e
                  · have := (hlp.o2.cap_le.2 e).1; omega
                  · exact e
                have hb1e : blk (some ⟨g1, 0, none⟩) = [g1] := rfl
                have hb2e : blk (some ⟨g2, 0, none⟩) = [g2] := rfl
                have hSlt : ∀ x ∈ (B :: [g1]) ++ [g2], x < wr.heap.size := fun x hx => by
                  rcases List.mem_append.1 hx with h | h
                  · rcases List.mem_cons.1 h with h | h
                    · subst h; exact Nat.lt_of_lt_of_le hsz0 hlp.be.size
                    · exact (hlp.o1.at_base h).2
                  · exact (hlp.o2.at_base h).2
                have hg1W := (hlp.o1.at_base (x := g1) (by simp [blk])).1
                have hg2W := (hlp.o2.at_base (x := g2) (by simp [blk])).1
                have hbwr' := hlp.be
                have hmL : m < L.length := by omega
                have hmL2 : m + 1 < L.length := by omega
                obtain ⟨en, hen⟩ : ∃ en, L[m]'hmL = en := ⟨_, rfl⟩
                obtain ⟨fn, hfn⟩ : ∃ fn, L[m + 1]'hmL2 = fn := ⟨_, rfl⟩
                have hok := hlp.ok en (by rw [← hen]; exact List.getElem_mem hmL)
                have hok2 := hlp.ok fn (by rw [← hfn]; exact List.getElem_mem hmL2)
                obtain ⟨eo, ev, ex⟩ := en
                obtain ⟨fo, fv, fx⟩ := fn
                obtain ⟨hev, hex, hesz, hesh⟩ := hok
                obtain ⟨hfv, hfx, hfsz, hfsh⟩ := hok2
                simp only at hev hex hesz hesh hfv hfx hfsz hfsh
                have hcell1 : wr.cell? ⟨g1, m, none⟩ = some ev := by
                  obtain ⟨g', o', e, hr⟩ := hlp.o1.slr.at_ hmL
                  injection e with e; injection e with e1 e2
                  subst e1; subst e2
                  rw [List.getElem_map, hen] at hr
                  have := rowAt_cell hr (j := 0) (by omega)
                  simpa [vR] using this
                have hcell2 : wr.cell? ⟨g1, m + 1, none⟩ = some fv := by
                  obtain ⟨g', o', e, hr⟩ := hlp.o1.slr.at_ hmL2
                  injection e with e; injection e with e1 e2
                  subst e1; subst e2
                  rw [List.getElem_map, hfn] at hr
                  have := rowAt_cell hr (j := 0) (by omega)
                  simpa [vR] using this
                have t1 : IntKind.i64.wrap ((L.length : Int) - 2) = (m : Int) := by rw [show (L.length : Int) - 2 = m by omega]; exact IntWalk.i64_in _ (by omega)
                have s1 : IntKind.i64.wrap ((L.length : Int) - 1) = (m : Int) + 1 := by rw [show (L.length : Int) - 1 = (m : Int) + 1 by omega]; exact IntWalk.i64_in _ (by omega)
                have t2 : (0 : Int) ≤ (m : Int) := by omega
                have t3 : (m : Int) < (L.length : Int) := by omega
                have s2 : (0 : Int) ≤ (m : Int) + 1 := by omega
                have s3 : (m : Int) + 1 < (L.length : Int) := by omega
                have s4 : ((m : Int) + 1).toNat = m + 1 := by omega
                have hexH := Lib.hid hex
                have hevH := Lib.hid hev
                have hesh' := Lib.hid hesh
                have henH := Lib.hid hen
                have hfxH := Lib.hid hfx
                have hfvH := Lib.hid hfv
                have hfsh' := Lib.hid hfsh
                have hfnH := Lib.hid hfn
                have ho1H := Lib.hid hlp.o1
                have ho2H := Lib.hid hlp.o2
                have hokH := Lib.hid hlp.ok
                have hcc1 := hlp.o1.cap_le.1
                have hcc2 := hlp.o2.cap_le.1
                clear hex hev hesh hen hfx hfv hfsh hfn hlp HL2 HL
                refine wp_region_lexf (Kp ([] : List Nat) wr) false (by kernel_rfl) (by kernel_rfl) (by kernel_rfl) (by kernel_rfl) (kp_drew ([] : List Nat) wr) ?_
                have hne := kp_some ([] : List Nat) wr
                have hS := kp_drew ([] : List Nat) wr
                have b1 := ksub_cell hcell1 (S := []) (by simp)
                have b2 := ksub_cell hcell2 (S := []) (by simp)
                repeat (refine wpLx_loose ?_ ?_; (focus (simp only [chainOp]; done)); intro K hK; go_simp; refine hK _ ?_; clear hK K)
                refine wpLx_chain ?_ ?_ ?_
                focus (exact hS)
                focus (simp only [chainOp]; done)
                intro K hK
                go_simp
                refine (join_oo ((B :: [g1]) ++ [g2]) eo fo ev fv _ (hevH.out.kept (hS.mono (by simp))) (hfvH.out.kept (hS.mono (by simp))) (fun x hx => Nat.lt_of_lt_of_le (hSlt x hx) hS.size)).mono ?_
                rintro e w1 ⟨v1, rfl, hv1, hb1⟩
                replace hS := kp_next hS (Keep.of_below hb1) (by simp)
                refine ⟨_, rfl, hS, hK _ _ ?_⟩
                clear hK K
                repeat (refine wpLx_loose ?_ ?_; (focus (simp only [chainOp]; done)); intro K hK; go_simp; refine hK _ ?_; clear hK K)
                have hb01 : Below wr.heap.size wr w1 := Keep.below hS (Nat.le_refl _) (by simp)
                obtain ⟨ho3, hk13, ⟨u0, hcell0⟩, hfr0⟩ := own_set1 (ho1H.out.below hb01) hmL v1
                have hst := run_stE hv1.one hcell0 hfr0
                refine wpLx_end ?_ ?_
                focus (simp only [chainOp]; done)
                intro K hK
                go_simp
                refine hK _ _ ?_
                clear hK K
                have hv1H := Lib.hid hv1
                have ho2a := (ho2H.out.below hb01).kept hk13 (fun x hx => by have := Own.apart ho2H.out ho1H.out (by decide) x hx; simpa [blk] using this)
                clear b1 b2 hne hS hcell0 hfr0 hst hv1 u0
                have hkr3 : Keep ((B :: [g1]) ++ [g2]) wr (w1.setCell ⟨g1, m, none⟩ v1) := Keep.trans ((Keep.of_below hb01).mono (by simp)) (hk13.mono (S' := (B :: [g1]) ++ [g2]) (by simp)) (fun x hx => .inl hx)
                have hex3 := hexH.out.kept hkr3
                have hfx3 := hfxH.out.kept hkr3
                have hb03 : Below W0.heap.size W0 (w1.setCell ⟨g1, m, none⟩ v1) := (hbwr'.trans (hb01.mono hbwr'.size)).trans (hk13.below (Nat.le_trans hbwr'.size hb01.size) (by simpa using hg1W))
                go_upto_region 13 with fail
                generalize w1.setCell ⟨g1, m, none⟩ v1 = w3 at *
                have hrow3 : rowAt w3 g2 (m * 3) 3 = some (fltC ex) := by
                  obtain ⟨g', o', e, hr⟩ := ho2a.slr.at_ hmL
                  injection e with e; injection e with e1 e2
                  subst e1; subst e2
                  rw [List.getElem_map, henH.out] at hr
                  simpa [xR] using hr
                have hrow4 : rowAt w3 g2 ((m + 1) * 3) 3 = some (fltC fx) := by
                  obtain ⟨g', o', e, hr⟩ := ho2a.slr.at_ hmL2
                  injection e with e; injection e with e1 e2
                  subst e1; subst e2
                  rw [List.getElem_map, hfnH.out] at hr
                  simpa [xR] using hr
                have hex3H := Lib.hid hex3
                have hfx3H := Lib.hid hfx3
                have hszW := hkr3.size
                clear hex3 hfx3
                refine wp_region_lexf (Kp ([] : List Nat) w3) false (by kernel_rfl) (by kernel_rfl) (by kernel_rfl) (by kernel_rfl) (kp_drew ([] : List Nat) w3) ?_
                have hne := kp_some ([] : List Nat) w3
                have hS := kp_drew ([] : List Nat) w3
                have b1 := ksub_row hrow3 (S := []) (by simp)
                have b2 := ksub_row hrow4 (S := []) (by simp)
                repeat (refine wpLx_loose ?_ ?_; (focus (simp only [chainOp]; done)); intro K hK; go_simp; refine hK _ ?_; clear hK K)
                refine wpLx_chain ?_ ?_ ?_
                focus (exact hS)
                focus (simp only [chainOp]; done)
                intro K hK
                go_simp
                refine (rjoin_oo ((B :: [g1]) ++ [g2]) eo fo ex fx _ (hex3H.out.kept (hS.mono (by simp))) (hfx3H.out.kept (hS.mono (by simp))) (fun x hx => Nat.lt_of_lt_of_le (hSlt x hx) (Nat.le_trans hszW hS.size)) (by have := pow_top hk30; omega) (by have := pow_top hk30; omega)).mono ?_
                rintro e w4 ⟨x4, rfl, hx4, hb4⟩
                replace hS := kp_next hS (Keep.of_below hb4) (by simp)
                refine ⟨_, rfl, hS, hK _ _ ?_⟩
                clear hK K
                repeat (refine wpLx_loose ?_ ?_; (focus (simp only [chainOp]; done)); intro K hK; go_simp; refine hK _ ?_; clear hK K)
                have hb34 : Below w3.heap.size w3 w4 := Keep.below hS (Nat.le_refl _) (by simp)
                obtain ⟨w5, hst, ho5, hk5⟩ := own_store einfoFlt (ho2a.below hb34) hmL (fltC_size x4) (xR_one hx4)
                refine wpLx_end ?_ ?_
                focus (simp only [chainOp]; done)
                intro K hK
                go_simp
                refine hK _ _ ?_
                clear hK K
                have tn : Turns (B :: [g1]) [g2] (B :: [g1]) [g2] wr w1 w3 w4 w5 := ⟨hb01, hk13.mono (by simp), fun x hx => .inl hx, hb34, hk5, fun x hx => .inl hx⟩
                have hb05 : Below W0.heap.size W0 w5 := (hb03.trans (hb34.mono hb03.size)).trans (hk5.below (Nat.le_trans hb03.size hb34.size) (by simpa using hg2W))
                have hll : ((L.set m (⟨joinO eo fo, v1, x4⟩ : Ent)).take (m + 1)).length = m + 1 := by rw [List.length_take, List.length_set]; omega
                have hlp5 : Loop B W0 w5 (k + 1) ((L.set m ⟨joinO eo fo, v1, x4⟩).take (m + 1)) (some ⟨g1, 0, none⟩) c1 (some ⟨g2, 0, none⟩) c2 := by
                  have hP := pow_next k
                  have h4 := pow_four k
                  refine ⟨by omega, ?_, ?_, fun e he => ?_, hb05⟩
                  · rw [hll, List.map_take, List.map_set]
                    exact Own.take_ ((ho3.below hb34).kept hk5 (fun x hx => by have := Own.apart ho1H.out ho2H.out (by decide) x hx; simpa [blk] using this)) (by omega) (by simp)
                  · rw [hll, List.map_take, List.map_set]; exact Own.take_ ho5 (by omega) (by simp)
                  · rcases List.mem_or_eq_of_mem_set (List.mem_of_mem_take he) with h | h
                    · exact tn.old (by omega) (hokH.out e h)
                    · subst h
                      exact tn.ent hv1H.out hx4 (by have := join_sz eo fo; omega) (join_short hesh'.out hfsh'.out)
                have Hlp5 := Lib.hid hlp5
                have Hll := Lib.hid hll
                clear hlp5 tn hb05 hst ho5 hk5 hx4 b1 b2 hne hS hrow3 hrow4 ho3 ho2a hll hk13 hb01 hb34 hb03 hkr3 t1 s1 t3 s3 hcell1 hcell2
                have r1 : (L.length : Int) - 1 = (m : Int) + 1 := by omega
                have r2 : (m : Int) + 1 ≤ (c1 : Int) := by omega
                have r3 : (m : Int) + 1 ≤ (c2 : Int) := by omega
                have r4 : m + 1 ≤ c1 := by omega
                have r5 : m + 1 ≤ c2 := by omega
                go_wp2_with fail
                go_roundw
                case rel => exact ⟨k + 1, _, some ⟨g1, 0, none⟩, some ⟨g2, 0, none⟩, c1, c2, by omega, by omega, by go_num, by rw [Hll.out], by rw [Hll.out], Hlp5⟩
                case measure => simp [intOf]; omega
      · have hids2 := hids0
        obtain ⟨R20, hR20e⟩ : ∃ R20, sR = R20 := ⟨_, rfl⟩
        have hR20 : R20.length ≤ 20 := by rw [← hR20e, HRn.out]; omega
        rw [hR20e] at hids2
        obtain ⟨m20, rfl⟩ : ∃ m20 : Nat, m20 = sn := ⟨_, rfl⟩
        clear hR20e hids0 HRn
        go_upto_region 10 with fail
        cases hK0 : (sk == 0) with
        | true =>
          go_upto_region 17 with fail
          have hlp := HL2.out
          go_wp2_with fail
          refine (new_oo ((B :: blk A1) ++ blk A2) se _).mono ?_
          rintro e w1 ⟨v1, rfl, hv1, hb1⟩
          have hcv := hv1.cells
          have hbs := fun w => run_bsS1v einfoErr w v1 hcv
          have hvone := vR_one hv1
          have ho1 := hlp.o1.below hb1
          have hbx : Below w1.heap.size w1 (w1.alloc (.cells #[v1] 26)) := (Below.refl _ _).alloc (Nat.le_refl _) _
          have ho1' := ho1.below hbx
          have hrowv : rowAt (w1.alloc (.cells #[v1] 26)) w1.heap.size 0 1 = some #[v1] := by simp [go_sem]
          have hB1 : W0.heap.size ≤ w1.heap.size := Nat.le_trans hlp.be.size hb1.size
          have hv1H := Lib.hid hv1
          clear hv1 hcv
          go_upto_region 18 with (at_builtin; refine L_append einfoErr rfl ho1' rfl hrowv hvone (by omega) (by omega) (by simp; omega) ?_; intro A3 c3 w3 ho3 hk3 hsub3)
          have hk13 : Keep (blk A1) w1 w3 := Keep.trans ((Keep.of_below hbx).mono (S' := blk A1) (by simp)) hk3 (fun x hx => .inl hx)
          have hsub : ∀ x ∈ blk A3, x ∈ blk A1 ∨ w1.heap.size ≤ x := fun x hx => by
            rcases hsub3 x hx with h | h
            · exact .inl h
            · right; simp at h; omega
          have ho2 := (hlp.o2.below hb1).kept hk13 (Own.apart (hlp.o2.below hb1) ho1 (by decide))
          have hS2 : ∀ x ∈ (B :: blk A3) ++ blk A2, x < w3.heap.size := fun x hx => by
            rcases List.mem_append.1 hx with h | h
            · rcases List.mem_cons.1 h with h | h
              · subst h; exact Nat.lt_of_lt_of_le hsz0 (Nat.le_trans hB1 hk13.size)
              · exact (ho3.at_base h).2
            · exact (ho2.at_base h).2
          have hb03 : Below W0.heap.size W0 w3 := (hlp.be.trans (hb1.mono hlp.be.size)).trans (hk13.below hB1 (fun x hx => (hlp.o1.at_base hx).1))
          clear ho1 ho1' hbx hrowv hbs hk3 hsub3 hvone
          have hc3 : w3.cell? ⟨q, o + k * 4 + 1, none⟩ = some (.int .i64 se) := ((bel2 hb0 hb03).cell (p := ⟨q, o + k * 4 + 1, none⟩) hqw).trans ((hbwr.cell (p := ⟨q, o + k * 4 + 1, none⟩) hqw).symm.trans y1)
          go_wp2_with fail
          refine (rnew_oo ((B :: blk A3) ++ blk A2) se _ hS2).mono ?_
          rintro e w4 ⟨x4, rfl, hx4, hb4⟩
          have hxone := xR_one hx4
          have ho2' := ho2.below hb4
          have hbx : Below w4.heap.size w4 (w4.alloc (.cells (fltC x4) 39)) := (Below.refl _ _).alloc (Nat.le_refl _) _
          have ho2'' := ho2'.below hbx
          have hrowx : rowAt (w4.alloc (.cells (fltC x4) 39)) w4.heap.size 0 3 = some (fltC x4) := by simp [go_sem]
          have hB4 : W0.heap.size ≤ w4.heap.size := Nat.le_trans hb03.size hb4.size
          have hx4H := Lib.hid hx4
          clear hx4
          go_wp2_with (at_builtin; refine L_append einfoFlt rfl ho2'' rfl hrowx hxone (by omega) (by omega) (by simp; omega) ?_; intro A5 c5 w5 ho5 hk5 hsub5)
          have hk45 : Keep (blk A2) w4 w5 := Keep.trans ((Keep.of_below hbx).mono (S' := blk A2) (by simp)) hk5 (fun x hx => .inl hx)
          have hsub' : ∀ x ∈ blk A5, x ∈ blk A2 ∨ w4.heap.size ≤ x := fun x hx => by
            rcases hsub5 x hx with h | h
            · exact .inl h
            · right; simp at h; omega
          have ho35 := (ho3.below hb4).kept hk45 (Own.apart (ho3.below hb4) ho2' (by decide))
          have hsubB : ∀ x ∈ B :: blk A3, x ∈ B :: blk A1 ∨ w1.heap.size ≤ x := fun x hx => by
            rcases List.mem_cons.1 hx with h | h
            · exact .inl (List.mem_cons.2 (.inl h))
            · exact (hsub x h).imp (fun h => List.mem_cons.2 (.inr h)) id
          have tn : Turns (B :: blk A1) (blk A2) (B :: blk A3) (blk A5) wr w1 w3 w4 w5 := ⟨hb1, hk13.mono (fun x hx => .inl (List.mem_cons.2 (.inr hx))), hsubB, hb4, hk45, hsub'⟩
          have hb05 : Below W0.heap.size W0 w5 := (hb03.trans (hb4.mono hb03.size)).trans (hk45.below hB4 (fun x hx => (ho2'.at_base hx).1))
          have hP := pow_next k; have h4 := pow_four k
          have hlp5 : Loop B W0 w5 (k + 1) (L ++ [⟨(if se = 0 then none else some (.num se)), v1, x4⟩]) A3 c3 A5 c5 := by
            have hll : (L ++ [(⟨(if se = 0 then none else some (.num se)), v1, x4⟩ : Ent)]).length = L.length + 1 := by simp
            refine ⟨by have := hlp.len; omega, by rw [hll, List.map_append]; exact ho35, by rw [hll, List.map_append]; exact ho5, fun e he => ?_, hb05⟩
            rcases List.mem_append.1 he with h | h
            · exact tn.old (by omega) (hlp.ok e h)
            · simp at h; subst h
              exact tn.ent hv1H.out hx4H.out (by have := new_sz se; omega) (by exact new_short se)
          have Hlp5 := Lib.hid hlp5
          clear hlp5 tn hb05 hk45 hsub' ho35 ho5 hk5 hsub5 hbx ho2' ho2'' hrowx hxone ho2 ho3 hk13 hsub hb1 hb4 hb03 hP h4
          have hll : L.length + 1 = (L ++ [(⟨(if se = 0 then none else some (.num se)), v1, x4⟩ : Ent)]).length := by simp
          have Hll := Lib.hid hll
          clear hll
          go_wp2_with fail
          go_roundw
          case rel => exact ⟨k + 1, _, A3, A5, c3, c5, by omega, by omega, by go_num, by rw [Hll.out], by rw [Hll.out], Hlp5⟩
          case measure => simp [intOf]; omega
        | false =>
          cases hK1 : (sk == 1) with
          | true =>
            go_upto_region 20 with fail
            have hlp := HL2.out
            go_wp2_with fail
            refine (missing_oo ((B :: blk A1) ++ blk A2) _ sA _ scap _ (SlR.below hids2 hbwr) (by omega) (fun x hx => by rcases List.mem_append.1 hx with h | h; rcases List.mem_cons.1 h with h | h; subst h; exact Nat.lt_of_lt_of_le hsz0 hlp.be.size; exact (hlp.o1.at_base h).2; exact (hlp.o2.at_base h).2)).mono ?_
            rintro e w1 ⟨v1, rfl, hv1, hb1⟩
            have hcv := hv1.cells
            have hbs := fun w => run_bsS1v einfoErr w v1 hcv
            have hvone := vR_one hv1
            have ho1 := hlp.o1.below hb1
            have hbx : Below w1.heap.size w1 (w1.alloc (.cells #[v1] 26)) := (Below.refl _ _).alloc (Nat.le_refl _) _
            have ho1' := ho1.below hbx
            have hrowv : rowAt (w1.alloc (.cells #[v1] 26)) w1.heap.size 0 1 = some #[v1] := by simp [go_sem]
            have hB1 : W0.heap.size ≤ w1.heap.size := Nat.le_trans hlp.be.size hb1.size
            have hv1H := Lib.hid hv1
            clear hv1 hcv
            go_upto_region 21 with (at_builtin; refine L_append einfoErr rfl ho1' rfl hrowv hvone (by omega) (by omega) (by simp; omega) ?_; intro A3 c3 w3 ho3 hk3 hsub3)
            have hk13 : Keep (blk A1) w1 w3 := Keep.trans ((Keep.of_below hbx).mono (S' := blk A1) (by simp)) hk3 (fun x hx => .inl hx)
            have hsub : ∀ x ∈ blk A3, x ∈ blk A1 ∨ w1.heap.size ≤ x := fun x hx => by
              rcases hsub3 x hx with h | h
              · exact .inl h
              · right; simp at h; omega
            have ho2 := (hlp.o2.below hb1).kept hk13 (Own.apart (hlp.o2.below hb1) ho1 (by decide))
            have hS2 : ∀ x ∈ (B :: blk A3) ++ blk A2, x < w3.heap.size := fun x hx => by
              rcases List.mem_append.1 hx with h | h
              · rcases List.mem_cons.1 h with h | h
                · subst h; exact Nat.lt_of_lt_of_le hsz0 (Nat.le_trans hB1 hk13.size)
                · exact (ho3.at_base h).2
              · exact (ho2.at_base h).2
            have hb03 : Below W0.heap.size W0 w3 := (hlp.be.trans (hb1.mono hlp.be.size)).trans (hk13.below hB1 (fun x hx => (hlp.o1.at_base hx).1))
            clear ho1 ho1' hbx hrowv hbs hk3 hsub3 hvone
            go_wp2_with fail
            refine (rmissing_oo ((B :: blk A3) ++ blk A2) _ sA _ scap _ (SlR.below hids2 (bel2 hb0 hb03)) (by omega) hS2).mono ?_
            rintro e w4 ⟨x4, rfl, hx4, hb4⟩
            have hxone := xR_one hx4
            have ho2' := ho2.below hb4
            have hbx : Below w4.heap.size w4 (w4.alloc (.cells (fltC x4) 39)) := (Below.refl _ _).alloc (Nat.le_refl _) _
            have ho2'' := ho2'.below hbx
            have hrowx : rowAt (w4.alloc (.cells (fltC x4) 39)) w4.heap.size 0 3 = some (fltC x4) := by simp [go_sem]
            have hB4 : W0.heap.size ≤ w4.heap.size := Nat.le_trans hb03.size hb4.size
            have hx4H := Lib.hid hx4
            clear hx4
            go_wp2_with (at_builtin; refine L_append einfoFlt rfl ho2'' rfl hrowx hxone (by omega) (by omega) (by simp; omega) ?_; intro A5 c5 w5 ho5 hk5 hsub5)
            have hk45 : Keep (blk A2) w4 w5 := Keep.trans ((Keep.of_below hbx).mono (S' := blk A2) (by simp)) hk5 (fun x hx => .inl hx)
            have hsub' : ∀ x ∈ blk A5, x ∈ blk A2 ∨ w4.heap.size ≤ x := fun x hx => by
              rcases hsub5 x hx with h | h
              · exact .inl h
              · right; simp at h; omega
            have ho35 := (ho3.below hb4).kept hk45 (Own.apart (ho3.below hb4) ho2' (by decide))
            have hsubB : ∀ x ∈ B :: blk A3, x ∈ B :: blk A1 ∨ w1.heap.size ≤ x := fun x hx => by
              rcases List.mem_cons.1 hx with h | h
              · exact .inl (List.mem_cons.2 (.inl h))
              · exact (hsub x h).imp (fun h => List.mem_cons.2 (.inr h)) id
            have tn : Turns (B :: blk A1) (blk A2) (B :: blk A3) (blk A5) wr w1 w3 w4 w5 := ⟨hb1, hk13.mono (fun x hx => .inl (List.mem_cons.2 (.inr hx))), hsubB, hb4, hk45, hsub'⟩
            have hb05 : Below W0.heap.size W0 w5 := (hb03.trans (hb4.mono hb03.size)).trans (hk45.below hB4 (fun x hx => (ho2'.at_base hx).1))
            have hP := pow_next k; have h4 := pow_four k
            have hlp5 : Loop B W0 w5 (k + 1) (L ++ [⟨(if m20 = 0 then none else some (.rep R20)), v1, x4⟩]) A3 c3 A5 c5 := by
              have hll : (L ++ [(⟨(if m20 = 0 then none else some (.rep R20)), v1, x4⟩ : Ent)]).length = L.length + 1 := by simp
              refine ⟨by have := hlp.len; omega, by rw [hll, List.map_append]; exact ho35, by rw [hll, List.map_append]; exact ho5, fun e he => ?_, hb05⟩
              rcases List.mem_append.1 he with h | h
              · exact tn.old (by omega) (hlp.ok e h)
              · simp at h; subst h
                exact tn.ent hv1H.out hx4H.out (by have := mis_sz m20 R20; omega) (by exact mis_short m20 R20 hR20)
            have Hlp5 := Lib.hid hlp5
            clear hlp5 tn hb05 hk45 hsub' ho35 ho5 hk5 hsub5 hbx ho2' ho2'' hrowx hxone ho2 ho3 hk13 hsub hb1 hb4 hb03 hP h4
            have hll : L.length + 1 = (L ++ [(⟨(if m20 = 0 then none else some (.rep R20)), v1, x4⟩ : Ent)]).length := by simp
            have Hll := Lib.hid hll
            clear hll
            go_wp2_with fail
            go_roundw
            case rel => exact ⟨k + 1, _, A3, A5, c3, c5, by omega, by omega, by go_num, by rw [Hll.out], by rw [Hll.out], Hlp5⟩
            case measure => simp [intOf]; omega
          | false =>
            cases hK2 : (sk == 2) with
            | true =>
              have hK2' : sk = 2 := by simpa using hK2
              by_cases hL0 : L.length = 0
              · have hlp5 : Loop B W0 wr (k + 1) L A1 c1 A2 c2 := by
                  have hlp := HL2.out
                  have hP := pow_next k
                  exact ⟨by omega, hlp.o1, hlp.o2, fun e he => (hlp.ok e he).more (by omega), hlp.be⟩
                have Hlp5 := Lib.hid hlp5
                have hL0b : ¬ (0 : Int) < (L.length : Int) := by omega
                clear hlp5 HL2 hK2'
                go_wp2_with fail
                go_roundw
                case rel => exact ⟨k + 1, _, A1, A2, c1, c2, by omega, by omega, by go_num, rfl, rfl, Hlp5⟩
                case measure => simp [intOf]; omega
              · have hlp := HL2.out
                obtain ⟨m, hm⟩ : ∃ m, m + 1 = L.length := ⟨L.length - 1, by omega⟩
                have hL0b : (0 : Int) < (L.length : Int) := by omega
                clear hK2' hL0
                go_upto_region 24 with fail
                obtain ⟨g1, rfl⟩ : ∃ g1, A1 = some ⟨g1, 0, none⟩ := by
                  rcases hlp.o1.addr with e | e
                  · have := (hlp.o1.cap_le.2 e).1; omega
                  · exact e
                obtain ⟨g2, rfl⟩ : ∃ g2, A2 = some ⟨g2, 0, none⟩ := by
                  rcases hlp.o2.addr with e | e
                  · have := (hlp.o2.cap_le.2 e).1; omega
                  · exact e
                have hb1e : blk (some ⟨g1, 0, none⟩) = [g1] := rfl
                have hb2e : blk (some ⟨g2, 0, none⟩) = [g2] := rfl
                have hSlt : ∀ x ∈ (B :: [g1]) ++ [g2], x < wr.heap.size := fun x hx => by
                  rcases List.mem_append.1 hx with h | h
                  · rcases List.mem_cons.1 h with h | h
                    · subst h; exact Nat.lt_of_lt_of_le hsz0 hlp.be.size
                    · exact (hlp.o1.at_base h).2
                  · exact (hlp.o2.at_base h).2
                have hg1W := (hlp.o1.at_base (x := g1) (by simp [blk])).1
                have hg2W := (hlp.o2.at_base (x := g2) (by simp [blk])).1
                have hbwr' := hlp.be
                have hmL : m < L.length := by omega
                obtain ⟨en, hen⟩ : ∃ en, L[m]'hmL = en := ⟨_, rfl⟩
                have hok := hlp.ok en (by rw [← hen]; exact List.getElem_mem hmL)
                obtain ⟨eo, ev, ex⟩ := en
                obtain ⟨hev, hex, hesz, hesh⟩ := hok
                simp only at hev hex hesz hesh
                have hcell1 : wr.cell? ⟨g1, m, none⟩ = some ev := by
                  obtain ⟨g', o', e, hr⟩ := hlp.o1.slr.at_ hmL
                  injection e with e; injection e with e1 e2
                  subst e1; subst e2
                  rw [List.getElem_map, hen] at hr
                  have := rowAt_cell hr (j := 0) (by omega)
                  simpa [vR] using this
                have t1 : IntKind.i64.wrap ((L.length : Int) - 1) = (m : Int) := by rw [show (L.length : Int) - 1 = m by omega]; exact IntWalk.i64_in _ (by omega)
                have t2 : (0 : Int) ≤ (m : Int) := by omega
                have t3 : (m : Int) < (L.length : Int) := by omega
                have hexH := Lib.hid hex
                have hevH := Lib.hid hev
                have hesh' := Lib.hid hesh
                have henH := Lib.hid hen
                have ho1H := Lib.hid hlp.o1
                have ho2H := Lib.hid hlp.o2
                have hokH := Lib.hid hlp.ok
                clear hex hev hesh hen hlp HL2 HL
                refine wp_region_lexf (Kp ([] : List Nat) wr) false (by kernel_rfl) (by kernel_rfl) (by kernel_rfl) (by kernel_rfl) (kp_drew ([] : List Nat) wr) ?_
                have hne := kp_some ([] : List Nat) wr
                have hS := kp_drew ([] : List Nat) wr
                have b1 := ksub_cell y2 (S := []) (by simp)
                have b2 := ksub_cell hcell1 (S := []) (by simp)
                repeat (refine wpLx_loose ?_ ?_; (focus (simp only [chainOp]; done)); intro K hK; go_simp; refine hK _ ?_; clear hK K)
                refine wpLx_chain ?_ ?_ ?_
                focus (exact hS)
                focus (simp only [chainOp]; done)
                intro K hK
                go_simp
                refine (wrap_oo ((B :: [g1]) ++ [g2]) sop eo ev _ (hevH.out.kept (hS.mono (by simp))) (fun x hx => Nat.lt_of_lt_of_le (hSlt x hx) hS.size)).mono ?_
                rintro e w1 ⟨v1, rfl, hv1, hb1⟩
                replace hS := kp_next hS (Keep.of_below hb1) (by simp)
                refine ⟨_, rfl, hS, hK _ _ ?_⟩
                clear hK K
                repeat (refine wpLx_loose ?_ ?_; (focus (simp only [chainOp]; done)); intro K hK; go_simp; refine hK _ ?_; clear hK K)
                have hb01 : Below wr.heap.size wr w1 := Keep.below hS (Nat.le_refl _) (by simp)
                obtain ⟨ho3, hk13, ⟨u0, hcell0⟩, hfr0⟩ := own_set1 (ho1H.out.below hb01) hmL v1
                have hst := run_stE hv1.one hcell0 hfr0
                refine wpLx_end ?_ ?_
                focus (simp only [chainOp]; done)
                intro K hK
                go_simp
                refine hK _ _ ?_
                clear hK K
                have hv1H := Lib.hid hv1
                have ho2a := (ho2H.out.below hb01).kept hk13 (fun x hx => by have := Own.apart ho2H.out ho1H.out (by decide) x hx; simpa [blk] using this)
                clear b1 b2 hne hS hcell0 hfr0 hst hv1 u0
                have hkr3 : Keep ((B :: [g1]) ++ [g2]) wr (w1.setCell ⟨g1, m, none⟩ v1) := Keep.trans ((Keep.of_below hb01).mono (by simp)) (hk13.mono (S' := (B :: [g1]) ++ [g2]) (by simp)) (fun x hx => .inl hx)
                have hex3 := hexH.out.kept hkr3
                have hb03 : Below W0.heap.size W0 (w1.setCell ⟨g1, m, none⟩ v1) := (hbwr'.trans (hb01.mono hbwr'.size)).trans (hk13.below (Nat.le_trans hbwr'.size hb01.size) (by simpa using hg1W))
                have hc3 : (w1.setCell ⟨g1, m, none⟩ v1).cell? ⟨q, o + k * 4 + 2, none⟩ = some (.string sop) := ((bel2 hb0 hb03).cell (p := ⟨q, o + k * 4 + 2, none⟩) hqw).trans ((hbwr.cell (p := ⟨q, o + k * 4 + 2, none⟩) hqw).symm.trans y2)
                go_upto_region 25 with fail
                generalize w1.setCell ⟨g1, m, none⟩ v1 = w3 at *
                have hrow3 : rowAt w3 g2 (m * 3) 3 = some (fltC ex) := by
                  obtain ⟨g', o', e, hr⟩ := ho2a.slr.at_ hmL
                  injection e with e; injection e with e1 e2
                  subst e1; subst e2
                  rw [List.getElem_map, henH.out] at hr
                  simpa [xR] using hr
                have hex3H := Lib.hid hex3
                have hszW := hkr3.size
                clear hex3
                refine wp_region_lexf (Kp ([] : List Nat) w3) false (by kernel_rfl) (by kernel_rfl) (by kernel_rfl) (by kernel_rfl) (kp_drew ([] : List Nat) w3) ?_
                have hne := kp_some ([] : List Nat) w3
                have hS := kp_drew ([] : List Nat) w3
                have b1 := ksub_cell hc3 (S := []) (by simp)
                have b2 := ksub_row hrow3 (S := []) (by simp)
                repeat (refine wpLx_loose ?_ ?_; (focus (simp only [chainOp]; done)); intro K hK; go_simp; refine hK _ ?_; clear hK K)
                refine wpLx_chain ?_ ?_ ?_
                focus (exact hS)
                focus (simp only [chainOp]; done)
                intro K hK
                go_simp
                refine (rwrap_oo ((B :: [g1]) ++ [g2]) sop eo ex _ (hex3H.out.kept (hS.mono (by simp))) (fun x hx => Nat.lt_of_lt_of_le (hSlt x hx) (Nat.le_trans hszW hS.size)) (by have := pow_top hk30; omega)).mono ?_
                rintro e w4 ⟨x4, rfl, hx4, hb4⟩
                replace hS := kp_next hS (Keep.of_below hb4) (by simp)
                refine ⟨_, rfl, hS, hK _ _ ?_⟩
                clear hK K
                repeat (refine wpLx_loose ?_ ?_; (focus (simp only [chainOp]; done)); intro K hK; go_simp; refine hK _ ?_; clear hK K)
                have hb34 : Below w3.heap.size w3 w4 := Keep.below hS (Nat.le_refl _) (by simp)
                obtain ⟨w5, hst, ho5, hk5⟩ := own_store einfoFlt (ho2a.below hb34) hmL (fltC_size x4) (xR_one hx4)
                refine wpLx_end ?_ ?_
                focus (simp only [chainOp]; done)
                intro K hK
                go_simp
                refine hK _ _ ?_
                clear hK K
                have tn : Turns (B :: [g1]) [g2] (B :: [g1]) [g2] wr w1 w3 w4 w5 := ⟨hb01, hk13.mono (by simp), fun x hx => .inl hx, hb34, hk5, fun x hx => .inl hx⟩
                have hb05 : Below W0.heap.size W0 w5 := (hb03.trans (hb34.mono hb03.size)).trans (hk5.below (Nat.le_trans hb03.size hb34.size) (by simpa using hg2W))
                have hlp5 : Loop B W0 w5 (k + 1) (L.set m ⟨eo.map (.wrap sop), v1, x4⟩) (some ⟨g1, 0, none⟩) c1 (some ⟨g2, 0, none⟩) c2 := by
                  have hP := pow_next k
                  have h4 := pow_four k
                  have hll : (L.set m (⟨eo.map (.wrap sop), v1, x4⟩ : Ent)).length = L.length := List.length_set
                  refine ⟨by omega, ?_, ?_, fun e he => ?_, hb05⟩
                  · rw [hll, List.map_set]
                    exact (ho3.below hb34).kept hk5 (fun x hx => by have := Own.apart ho1H.out ho2H.out (by decide) x hx; simpa [blk] using this)
                  · rw [hll, List.map_set]; exact ho5
                  · rcases List.mem_or_eq_of_mem_set he with h | h
                    · exact tn.old (by omega) (hokH.out e h)
                    · subst h
                      exact tn.ent hv1H.out hx4 (by have := wrap_sz sop eo; omega) (wrap_short hesh'.out)
                have Hlp5 := Lib.hid hlp5
                have hll : L.length = (L.set m (⟨eo.map (.wrap sop), v1, x4⟩ : Ent)).length := List.length_set.symm
                have Hll := Lib.hid hll
                clear hlp5 tn hb05 hst ho5 hk5 hx4 b1 b2 hne hS hrow3 hc3 ho3 ho2a hll hk13 hb01 hb34 hb03 hkr3 t1 t2 t3 hcell1
                go_wp2_with fail
                go_roundw
                case rel => exact ⟨k + 1, _, some ⟨g1, 0, none⟩, some ⟨g2, 0, none⟩, c1, c2, by omega, by omega, by go_num, by rw [Hll.out], by rw [Hll.out], Hlp5⟩
                case measure => simp [intOf]; omega
            | false =>
              by_cases hL1 : L.length ≤ 1
              · have hlp5 : Loop B W0 wr (k + 1) L A1 c1 A2 c2 := by
                  have hlp := HL2.out
                  have hP := pow_next k
                  exact ⟨by omega, hlp.o1, hlp.o2, fun e he => (hlp.ok e he).more (by omega), hlp.be⟩
                have Hlp5 := Lib.hid hlp5
                have hL1b : ¬ (1 : Int) < (L.length : Int) := by omega
                clear hlp5 HL2
                go_wp2_with fail
                go_roundw
                case rel => exact ⟨k + 1, _, A1, A2, c1, c2, by omega, by omega, by go_num, rfl, rfl, Hlp5⟩
                case measure => simp [intOf]; omega
              · have hlp := HL2.out
                obtain ⟨m, hm⟩ : ∃ m, m + 2 = L.length := ⟨L.length - 2, by omega⟩
                have hL1b : (1 : Int) < (L.length : Int) := by omega
                clear hL1
                go_upto_region 12 with fail
                obtain ⟨g1, rfl⟩ : ∃ g1, A1 = some ⟨g1, 0, none⟩ := by
                  rcases hlp.o1.addr with e | e
                  · have := (hlp.o1.cap_le.2 e).1; omega
                  · exact e
                obtain ⟨g2, rfl⟩ : ∃ g2, A2 = some ⟨g2, 0, none⟩ := by
                  rcases hlp.o2.addr with e | e
                  · have := (hlp.o2.cap_le.2 e).1; omega
                  · exact e
                have hb1e : blk (some ⟨g1, 0, none⟩) = [g1] := rfl
                have hb2e : blk (some ⟨g2, 0, none⟩) = [g2] := rfl
                have hSlt : ∀ x ∈ (B :: [g1]) ++ [g2], x < wr.heap.size := fun x hx => by
                  rcases List.mem_append.1 hx with h | h
                  · rcases List.mem_cons.1 h with h | h
                    · subst h; exact Nat.lt_of_lt_of_le hsz0 hlp.be.size
                    · exact (hlp.o1.at_base h).2
                  · exact (hlp.o2.at_base h).2
                have hg1W := (hlp.o1.at_base (x := g1) (by simp [blk])).1
                have hg2W := (hlp.o2.at_base (x := g2) (by simp [blk])).1
                have hbwr' := hlp.be
                have hmL : m < L.length := by omega
                have hmL2 : m + 1 < L.length := by omega
                obtain ⟨en, hen⟩ : ∃ en, L[m]'hmL = en := ⟨_, rfl⟩
                obtain ⟨fn, hfn⟩ : ∃ fn, L[m + 1]'hmL2 = fn := ⟨_, rfl⟩
                have hok := hlp.ok en (by rw [← hen]; exact List.getElem_mem hmL)
                have hok2 := hlp.ok fn (by rw [← hfn]; exact List.getElem_mem hmL2)
                obtain ⟨eo, ev, ex⟩ := en
                obtain ⟨fo, fv, fx⟩ := fn
                obtain ⟨hev, hex, hesz, hesh⟩ := hok
                obtain ⟨hfv, hfx, hfsz, hfsh⟩ := hok2
                simp only at hev hex hesz hesh hfv hfx hfsz hfsh
                have hcell1 : wr.cell? ⟨g1, m, none⟩ = some ev := by
                  obtain ⟨g', o', e, hr⟩ := hlp.o1.slr.at_ hmL
                  injection e with e; injection e with e1 e2
                  subst e1; subst e2
                  rw [List.getElem_map, hen] at hr
                  have := rowAt_cell hr (j := 0) (by omega)
                  simpa [vR] using this
                have hcell2 : wr.cell? ⟨g1, m + 1, none⟩ = some fv := by
                  obtain ⟨g', o', e, hr⟩ := hlp.o1.slr.at_ hmL2
                  injection e with e; injection e with e1 e2
                  subst e1; subst e2
                  rw [List.getElem_map, hfn] at hr
                  have := rowAt_cell hr (j := 0) (by omega)
                  simpa [vR] using this
                have t1 : IntKind.i64.wrap ((L.length : Int) - 2) = (m : Int) := by rw [show (L.length : Int) - 2 = m by omega]; exact IntWalk.i64_in _ (by omega)
                have s1 : IntKind.i64.wrap ((L.length : Int) - 1) = (m : Int) + 1 := by rw [show (L.length : Int) - 1 = (m : Int) + 1 by omega]; exact IntWalk.i64_in _ (by omega)
                have t2 : (0 : Int) ≤ (m : Int) := by omega
                have t3 : (m : Int) < (L.length : Int) := by omega
                have s2 : (0 : Int) ≤ (m : Int) + 1 := by omega
                have s3 : (m : Int) + 1 < (L.length : Int) := by omega
                have s4 : ((m : Int) + 1).toNat = m + 1 := by omega
                have hexH := Lib.hid hex
                have hevH := Lib.hid hev
                have hesh' := Lib.hid hesh
                have henH := Lib.hid hen
                have hfxH := Lib.hid hfx
                have hfvH := Lib.hid hfv
                have hfsh' := Lib.hid hfsh
                have hfnH := Lib.hid hfn
                have ho1H := Lib.hid hlp.o1
                have ho2H := Lib.hid hlp.o2
                have hokH := Lib.hid hlp.ok
                have hcc1 := hlp.o1.cap_le.1
                have hcc2 := hlp.o2.cap_le.1
                clear hex hev hesh hen hfx hfv hfsh hfn hlp HL2 HL
                refine wp_region_lexf (Kp ([] : List Nat) wr) false (by kernel_rfl) (by kernel_rfl) (by kernel_rfl) (by kernel_rfl) (kp_drew ([] : List Nat) wr) ?_
                have hne := kp_some ([] : List Nat) wr
                have hS := kp_drew ([] : List Nat) wr
                have b1 := ksub_cell hcell1 (S := []) (by simp)
                have b2 := ksub_cell hcell2 (S := []) (by simp)
                repeat (refine wpLx_loose ?_ ?_; (focus (simp only [chainOp]; done)); intro K hK; go_simp; refine hK _ ?_; clear hK K)
                refine wpLx_chain ?_ ?_ ?_
                focus (exact hS)
                focus (simp only [chainOp]; done)
                intro K hK
                go_simp
                refine (join_oo ((B :: [g1]) ++ [g2]) eo fo ev fv _ (hevH.out.kept (hS.mono (by simp))) (hfvH.out.kept (hS.mono (by simp))) (fun x hx => Nat.lt_of_lt_of_le (hSlt x hx) hS.size)).mono ?_
                rintro e w1 ⟨v1, rfl, hv1, hb1⟩
                replace hS := kp_next hS (Keep.of_below hb1) (by simp)
                refine ⟨_, rfl, hS, hK _ _ ?_⟩
                clear hK K
                repeat (refine wpLx_loose ?_ ?_; (focus (simp only [chainOp]; done)); intro K hK; go_simp; refine hK _ ?_; clear hK K)
                have hb01 : Below wr.heap.size wr w1 := Keep.below hS (Nat.le_refl _) (by simp)
                obtain ⟨ho3, hk13, ⟨u0, hcell0⟩, hfr0⟩ := own_set1 (ho1H.out.below hb01) hmL v1
                have hst := run_stE hv1.one hcell0 hfr0
                refine wpLx_end ?_ ?_
                focus (simp only [chainOp]; done)
                intro K hK
                go_simp
                refine hK _ _ ?_
                clear hK K
                have hv1H := Lib.hid hv1
                have ho2a := (ho2H.out.below hb01).kept hk13 (fun x hx => by have := Own.apart ho2H.out ho1H.out (by decide) x hx; simpa [blk] using this)
                clear b1 b2 hne hS hcell0 hfr0 hst hv1 u0
                have hkr3 : Keep ((B :: [g1]) ++ [g2]) wr (w1.setCell ⟨g1, m, none⟩ v1) := Keep.trans ((Keep.of_below hb01).mono (by simp)) (hk13.mono (S' := (B :: [g1]) ++ [g2]) (by simp)) (fun x hx => .inl hx)
                have hex3 := hexH.out.kept hkr3
                have hfx3 := hfxH.out.kept hkr3
                have hb03 : Below W0.heap.size W0 (w1.setCell ⟨g1, m, none⟩ v1) := (hbwr'.trans (hb01.mono hbwr'.size)).trans (hk13.below (Nat.le_trans hbwr'.size hb01.size) (by simpa using hg1W))
                go_upto_region 13 with fail
                generalize w1.setCell ⟨g1, m, none⟩ v1 = w3 at *
                have hrow3 : rowAt w3 g2 (m * 3) 3 = some (fltC ex) := by
                  obtain ⟨g', o', e, hr⟩ := ho2a.slr.at_ hmL
                  injection e with e; injection e with e1 e2
                  subst e1; subst e2
                  rw [List.getElem_map, henH.out] at hr
                  simpa [xR] using hr
                have hrow4 : rowAt w3 g2 ((m + 1) * 3) 3 = some (fltC fx) := by
                  obtain ⟨g', o', e, hr⟩ := ho2a.slr.at_ hmL2
                  injection e with e; injection e with e1 e2
                  subst e1; subst e2
                  rw [List.getElem_map, hfnH.out] at hr
                  simpa [xR] using hr
                have hex3H := Lib.hid hex3
                have hfx3H := Lib.hid hfx3
                have hszW := hkr3.size
                clear hex3 hfx3
                refine wp_region_lexf (Kp ([] : List Nat) w3) false (by kernel_rfl) (by kernel_rfl) (by kernel_rfl) (by kernel_rfl) (kp_drew ([] : List Nat) w3) ?_
                have hne := kp_some ([] : List Nat) w3
                have hS := kp_drew ([] : List Nat) w3
                have b1 := ksub_row hrow3 (S := []) (by simp)
                have b2 := ksub_row hrow4 (S := []) (by simp)
                repeat (refine wpLx_loose ?_ ?_; (focus (simp only [chainOp]; done)); intro K hK; go_simp; refine hK _ ?_; clear hK K)
                refine wpLx_chain ?_ ?_ ?_
                focus (exact hS)
                focus (simp only [chainOp]; done)
                intro K hK
                go_simp
                refine (rjoin_oo ((B :: [g1]) ++ [g2]) eo fo ex fx _ (hex3H.out.kept (hS.mono (by simp))) (hfx3H.out.kept (hS.mono (by simp))) (fun x hx => Nat.lt_of_lt_of_le (hSlt x hx) (Nat.le_trans hszW hS.size)) (by have := pow_top hk30; omega) (by have := pow_top hk30; omega)).mono ?_
                rintro e w4 ⟨x4, rfl, hx4, hb4⟩
                replace hS := kp_next hS (Keep.of_below hb4) (by simp)
                refine ⟨_, rfl, hS, hK _ _ ?_⟩
                clear hK K
                repeat (refine wpLx_loose ?_ ?_; (focus (simp only [chainOp]; done)); intro K hK; go_simp; refine hK _ ?_; clear hK K)
                have hb34 : Below w3.heap.size w3 w4 := Keep.below hS (Nat.le_refl _) (by simp)
                obtain ⟨w5, hst, ho5, hk5⟩ := own_store einfoFlt (ho2a.below hb34) hmL (fltC_size x4) (xR_one hx4)
                refine wpLx_end ?_ ?_
                focus (simp only [chainOp]; done)
                intro K hK
                go_simp
                refine hK _ _ ?_
                clear hK K
                have tn : Turns (B :: [g1]) [g2] (B :: [g1]) [g2] wr w1 w3 w4 w5 := ⟨hb01, hk13.mono (by simp), fun x hx => .inl hx, hb34, hk5, fun x hx => .inl hx⟩
                have hb05 : Below W0.heap.size W0 w5 := (hb03.trans (hb34.mono hb03.size)).trans (hk5.below (Nat.le_trans hb03.size hb34.size) (by simpa using hg2W))
                have hll : ((L.set m (⟨joinO eo fo, v1, x4⟩ : Ent)).take (m + 1)).length = m + 1 := by rw [List.length_take, List.length_set]; omega
                have hlp5 : Loop B W0 w5 (k + 1) ((L.set m ⟨joinO eo fo, v1, x4⟩).take (m + 1)) (some ⟨g1, 0, none⟩) c1 (some ⟨g2, 0, none⟩) c2 := by
                  have hP := pow_next k
                  have h4 := pow_four k
                  refine ⟨by omega, ?_, ?_, fun e he => ?_, hb05⟩
                  · rw [hll, List.map_take, List.map_set]
                    exact Own.take_ ((ho3.below hb34).kept hk5 (fun x hx => by have := Own.apart ho1H.out ho2H.out (by decide) x hx; simpa [blk] using this)) (by omega) (by simp)
                  · rw [hll, List.map_take, List.map_set]; exact Own.take_ ho5 (by omega) (by simp)
                  · rcases List.mem_or_eq_of_mem_set (List.mem_of_mem_take he) with h | h
                    · exact tn.old (by omega) (hokH.out e h)
                    · subst h
                      exact tn.ent hv1H.out hx4 (by have := join_sz eo fo; omega) (join_short hesh'.out hfsh'.out)
                have Hlp5 := Lib.hid hlp5
                have Hll := Lib.hid hll
                clear hlp5 tn hb05 hst ho5 hk5 hx4 b1 b2 hne hS hrow3 hrow4 ho3 ho2a hll hk13 hb01 hb34 hb03 hkr3 t1 s1 t3 s3 hcell1 hcell2
                have r1 : (L.length : Int) - 1 = (m : Int) + 1 := by omega
                have r2 : (m : Int) + 1 ≤ (c1 : Int) := by omega
                have r3 : (m : Int) + 1 ≤ (c2 : Int) := by omega
                have r4 : m + 1 ≤ c1 := by omega
                have r5 : m + 1 ≤ c2 := by omega
                go_wp2_with fail
                go_roundw
                case rel => exact ⟨k + 1, _, some ⟨g1, 0, none⟩, some ⟨g2, 0, none⟩, c1, c2, by omega, by omega, by go_num, by rw [Hll.out], by rw [Hll.out], Hlp5⟩
                case measure => simp [intOf]; omega
    · have hlp := HL.out
      have hbw := bel2 hb0 hlp.be
      have hresB := (hlp.be.block B hsz0).trans Hres0.out
      by_cases hkn3 : k < n
      · have hk31 : ¬ k < 30 := by omega
        clear hgo
        go_upto_region 26 with fail
        by_cases hL0 : L.length = 0
        focus
          obtain ⟨W', hst, hrow, hF, hV, hbW⟩ := fill_end (x := flt0) (o := none) (v := .nilIface) hresB (by have := HB.out; omega) hbw (FltAt.zero _ _) rfl
          have hF' := Lib.hid hF; have hbW' := Lib.hid hbW; have hV' := Lib.hid hV
          have hrowl := rowAt_lt hrow
          clear hF hbW hV HL hlp hLk
          go_wp2_with fail
          exact bodyPost_ret (v := .tuple #[.nilIface, .agg (fltC flt0)]) (by obtain ⟨z0, z1, z2⟩ := flt_cells hrow; simp [results, Tryd.results12, go_sem, z0, z1, z2, fltC]) rfl ⟨none, .nilIface, flt0, rfl, hV'.out, hF'.out, Nat.zero_le _, (by intro R hR; simp [repsO] at hR), hbW'.out⟩
        obtain ⟨m, hm⟩ : ∃ m, m + 1 = L.length := ⟨L.length - 1, by omega⟩
        have hL0b : ((L.length : Int) == 0) = false := by rw [beq_eq_false_iff_ne]; omega
        obtain ⟨g1, rfl⟩ : ∃ g1, A1 = some ⟨g1, 0, none⟩ := by
          rcases hlp.o1.addr with e | e
          · have := (hlp.o1.cap_le.2 e).1; omega
          · exact e
        obtain ⟨g2, rfl⟩ : ∃ g2, A2 = some ⟨g2, 0, none⟩ := by
          rcases hlp.o2.addr with e | e
          · have := (hlp.o2.cap_le.2 e).1; omega
          · exact e
        have hb1e : blk (some ⟨g1, 0, none⟩) = [g1] := rfl
        have hb2e : blk (some ⟨g2, 0, none⟩) = [g2] := rfl
        have hSlt : ∀ x ∈ (B :: [g1]) ++ [g2], x < wr.heap.size := fun x hx => by
          rcases List.mem_append.1 hx with h | h
          · rcases List.mem_cons.1 h with h | h
            · subst h; exact Nat.lt_of_lt_of_le hsz0 hlp.be.size
            · exact (hlp.o1.at_base h).2
          · exact (hlp.o2.at_base h).2
        have hg1W := (hlp.o1.at_base (x := g1) (by simp [blk])).1
        have hg2W := (hlp.o2.at_base (x := g2) (by simp [blk])).1
        have hbwr' := hlp.be
        have hmL : m < L.length := by omega
        obtain ⟨en, hen⟩ : ∃ en, L[m]'hmL = en := ⟨_, rfl⟩
        have hok := hlp.ok en (by rw [← hen]; exact List.getElem_mem hmL)
        obtain ⟨eo, ev, ex⟩ := en
        obtain ⟨hev, hex, hesz, hesh⟩ := hok
        simp only at hev hex hesz hesh
        have hcell1 : wr.cell? ⟨g1, m, none⟩ = some ev := by
          obtain ⟨g', o', e, hr⟩ := hlp.o1.slr.at_ hmL
          injection e with e; injection e with e1 e2
          subst e1; subst e2
          rw [List.getElem_map, hen] at hr
          have := rowAt_cell hr (j := 0) (by omega)
          simpa [vR] using this
        have hrow3 : rowAt wr g2 (m * 3) 3 = some (fltC ex) := by
          obtain ⟨g', o', e, hr⟩ := hlp.o2.slr.at_ hmL
          injection e with e; injection e with e1 e2
          subst e1; subst e2
          rw [List.getElem_map, hen] at hr
          simpa [xR] using hr
        have t1 : IntKind.i64.wrap ((L.length : Int) - 1) = (m : Int) := by rw [show (L.length : Int) - 1 = m by omega]; exact IntWalk.i64_in _ (by omega)
        have t2 : (0 : Int) ≤ (m : Int) := by omega
        have t3 : (m : Int) < (L.length : Int) := by omega
        obtain ⟨W', hst, hrow, hF, hV, hbW⟩ := fill_end (W := wr.drew) (x := ex) (o := eo) (v := ev) hresB (by have := HB.out; omega) hbw.drew ((hex.re (S' := [B]) (fun x hx => .inl (by simp at hx; subst hx; simp))).kept ((Keep.drew wr).mono (by simp))) ((hev.re (S' := [B]) (fun x hx => .inl (by simp at hx; subst hx; simp))).kept ((Keep.drew wr).mono (by simp)))
        have hF' := Lib.hid hF; have hbW' := Lib.hid hbW; have hV' := Lib.hid hV
        have hez : SzO eo ≤ 4294967296 := by have := pow_top hk30; omega
        have hesh' := Lib.hid hesh
        clear hF hbW hV HL hlp hLk hex hev hesh hen hm hL0
        go_upto_region 28 with fail
        refine wp_region_lexf (Kp ([] : List Nat) wr) false (by kernel_rfl) (by kernel_rfl) (by kernel_rfl) (by kernel_rfl) (kp_drew ([] : List Nat) wr) ?_
        have hne := kp_some ([] : List Nat) wr
        have hS := kp_drew ([] : List Nat) wr
        have b1 := ksub_cell hcell1 (S := []) (by simp)
        have b2 := ksub_row hrow3 (S := []) (by simp)
        repeat (refine wpLx_loose ?_ ?_; (focus (simp only [chainOp]; done)); intro K hK; go_simp; refine hK _ ?_; clear hK K)
        refine wpLx_end ?_ ?_
        focus (simp only [chainOp]; done)
        intro K hK
        go_simp
        refine hK _ _ ?_
        clear hK K b1 b2 hne hS hst t1 t3 hcell1 hrow3
        go_wp2_with fail
        exact bodyPost_ret (v := .tuple #[ev, .agg (fltC ex)]) (by obtain ⟨z0, z1, z2⟩ := flt_cells hrow; simp [results, Tryd.results12, go_sem, z0, z1, z2, fltC]) rfl ⟨eo, ev, ex, rfl, hV'.out, hF'.out, hez, hesh'.out, hbW'.out⟩
      · clear hgo
        go_upto_region 26 with fail
        by_cases hL0 : L.length = 0
        focus
          obtain ⟨W', hst, hrow, hF, hV, hbW⟩ := fill_end (x := flt0) (o := none) (v := .nilIface) hresB (by have := HB.out; omega) hbw (FltAt.zero _ _) rfl
          have hF' := Lib.hid hF; have hbW' := Lib.hid hbW; have hV' := Lib.hid hV
          have hrowl := rowAt_lt hrow
          clear hF hbW hV HL hlp hLk
          go_wp2_with fail
          exact bodyPost_ret (v := .tuple #[.nilIface, .agg (fltC flt0)]) (by obtain ⟨z0, z1, z2⟩ := flt_cells hrow; simp [results, Tryd.results12, go_sem, z0, z1, z2, fltC]) rfl ⟨none, .nilIface, flt0, rfl, hV'.out, hF'.out, Nat.zero_le _, (by intro R hR; simp [repsO] at hR), hbW'.out⟩
        obtain ⟨m, hm⟩ : ∃ m, m + 1 = L.length := ⟨L.length - 1, by omega⟩
        have hL0b : ((L.length : Int) == 0) = false := by rw [beq_eq_false_iff_ne]; omega
        obtain ⟨g1, rfl⟩ : ∃ g1, A1 = some ⟨g1, 0, none⟩ := by
          rcases hlp.o1.addr with e | e
          · have := (hlp.o1.cap_le.2 e).1; omega
          · exact e
        obtain ⟨g2, rfl⟩ : ∃ g2, A2 = some ⟨g2, 0, none⟩ := by
          rcases hlp.o2.addr with e | e
          · have := (hlp.o2.cap_le.2 e).1; omega
          · exact e
        have hb1e : blk (some ⟨g1, 0, none⟩) = [g1] := rfl
        have hb2e : blk (some ⟨g2, 0, none⟩) = [g2] := rfl
        have hSlt : ∀ x ∈ (B :: [g1]) ++ [g2], x < wr.heap.size := fun x hx => by
          rcases List.mem_append.1 hx with h | h
          · rcases List.mem_cons.1 h with h | h
            · subst h; exact Nat.lt_of_lt_of_le hsz0 hlp.be.size
            · exact (hlp.o1.at_base h).2
          · exact (hlp.o2.at_base h).2
        have hg1W := (hlp.o1.at_base (x := g1) (by simp [blk])).1
        have hg2W := (hlp.o2.at_base (x := g2) (by simp [blk])).1
        have hbwr' := hlp.be
        have hmL : m < L.length := by omega
        obtain ⟨en, hen⟩ : ∃ en, L[m]'hmL = en := ⟨_, rfl⟩
        have hok := hlp.ok en (by rw [← hen]; exact List.getElem_mem hmL)
        obtain ⟨eo, ev, ex⟩ := en
        obtain ⟨hev, hex, hesz, hesh⟩ := hok
        simp only at hev hex hesz hesh
        have hcell1 : wr.cell? ⟨g1, m, none⟩ = some ev := by
          obtain ⟨g', o', e, hr⟩ := hlp.o1.slr.at_ hmL
          injection e with e; injection e with e1 e2
          subst e1; subst e2
          rw [List.getElem_map, hen] at hr
          have := rowAt_cell hr (j := 0) (by omega)
          simpa [vR] using this
        have hrow3 : rowAt wr g2 (m * 3) 3 = some (fltC ex) := by
          obtain ⟨g', o', e, hr⟩ := hlp.o2.slr.at_ hmL
          injection e with e; injection e with e1 e2
          subst e1; subst e2
          rw [List.getElem_map, hen] at hr
          simpa [xR] using hr
        have t1 : IntKind.i64.wrap ((L.length : Int) - 1) = (m : Int) := by rw [show (L.length : Int) - 1 = m by omega]; exact IntWalk.i64_in _ (by omega)
        have t2 : (0 : Int) ≤ (m : Int) := by omega
        have t3 : (m : Int) < (L.length : Int) := by omega
        obtain ⟨W', hst, hrow, hF, hV, hbW⟩ := fill_end (W := wr.drew) (x := ex) (o := eo) (v := ev) hresB (by have := HB.out; omega) hbw.drew ((hex.re (S' := [B]) (fun x hx => .inl (by simp at hx; subst hx; simp))).kept ((Keep.drew wr).mono (by simp))) ((hev.re (S' := [B]) (fun x hx => .inl (by simp at hx; subst hx; simp))).kept ((Keep.drew wr).mono (by simp)))
        have hF' := Lib.hid hF; have hbW' := Lib.hid hbW; have hV' := Lib.hid hV
        have hez : SzO eo ≤ 4294967296 := by have := pow_top hk30; omega
        have hesh' := Lib.hid hesh
        clear hF hbW hV HL hlp hLk hex hev hesh hen hm hL0
        go_upto_region 28 with fail
        refine wp_region_lexf (Kp ([] : List Nat) wr) false (by kernel_rfl) (by kernel_rfl) (by kernel_rfl) (by kernel_rfl) (kp_drew ([] : List Nat) wr) ?_
        have hne := kp_some ([] : List Nat) wr
        have hS := kp_drew ([] : List Nat) wr
        have b1 := ksub_cell hcell1 (S := []) (by simp)
        have b2 := ksub_row hrow3 (S := []) (by simp)
        repeat (refine wpLx_loose ?_ ?_; (focus (simp only [chainOp]; done)); intro K hK; go_simp; refine hK _ ?_; clear hK K)
        refine wpLx_end ?_ ?_
        focus (simp only [chainOp]; done)
        intro K hK
        go_simp
        refine hK _ _ ?_
        clear hK K b1 b2 hne hS hst t1 t3 hcell1 hrow3
        go_wp2_with fail
        exact bodyPost_ret (v := .tuple #[ev, .agg (fltC ex)]) (by obtain ⟨z0, z1, z2⟩ := flt_cells hrow; simp [results, Tryd.results12, go_sem, z0, z1, z2, fltC]) rfl ⟨eo, ev, ex, rfl, hV'.out, hF'.out, hez, hesh'.out, hbW'.out⟩

end Go.Proofs.YtiihicmodohaeaaDoor
