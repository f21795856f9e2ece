/- The reference of bags: rows: In, less. -/
import Derived.Test.YtlonihfhgfmplaaBagJ
import Derived.Test.YtlonihfhgfmplaaRCmp
import Derived.Test.YtlonihfhgfmplaaIns
import Derived.Laws.StructEq
namespace Go.Proofs.Ytlonihfhgfmplaa
open Go.RowKit

theorem infoRRow : (Try.prog.info? 130).map (·.size) = some 33 := by kernel_rfl
@[go_sem ↓] theorem zeroRRow_run (w : World) : (zeroValue 130).run Try.prog w = .ok (.agg (bRowC bRow0)) w := by
  have h : (Try.prog.info? 130).bind (·.zero) = some (.agg (bRowC bRow0)) := by kernel_rfl
  cases hi : Try.prog.info? 130 with
  | none => rw [hi] at h; cases h
  | some i =>
    rw [hi] at h
    have hz : i.zero = some (.agg (bRowC bRow0)) := h
    simp [zeroValue, typeInfo, hi, hz]
@[go_sem ↓] theorem loadRRow_rw (a : Addr) : loadVar 130 a = ldS 130 a := rfl
@[go_sem ↓] theorem storeRRow_rw (a : Addr) (v : Value) : storeVar 130 a v = stS 130 a v := rfl
@[go_sem] theorem loadRRow_run (w : World) (g o : Nat) : (ldS 130 ⟨g, o, none⟩).run Try.prog w = match rowAt w g o 33 with | some cs => .ok (.agg cs) w | none => (loadVar 130 ⟨g, o, none⟩).run Try.prog w :=
  run_ldS Try.underlying130 rfl infoRRow w g o
@[go_sem] theorem storeRRow_run (w : World) (g : Nat) (hg : g = w.heap.size) (z : Array Value) (hz : z.size = 33) (x : BRow) (e : TypeId) : (stS 130 ⟨g, 0, none⟩ (.agg (bRowC x))).run Try.prog (w.alloc (.cells z e)) = .ok () (w.alloc (.cells (bRowC x) e)) :=
  hg ▸ run_stS_new infoRRow w z (bRowC x) hz (bRowC_size x) (bRowC_one x)
theorem fieldsRRow : Try.prog.underlying 130 = some (.struct (Try.prog.fieldsOf 130)) := by kernel_rfl
theorem placesRRow (w : World) : ((Try.prog.fieldsOf 130).mapM fun (f : Field) => do pure (f.offset, ← sizeOf f.type)).run Try.prog w = .ok #[(0, 32), (32, 1)] w := by kernel_rfl
@[go_sem ↓] theorem buildRRow_rw (parts : Array (Nat × Value)) : Instr.build 130 parts = bdS 130 parts := rfl
@[go_sem ↓] theorem fieldRRow_0 (x : BRow) (w : World) : (Instr.field 130 (.agg (bRowC x)) 0).run Try.prog w = .ok (.agg (idC x.tag)) w := by
  unfold Instr.field
  simp only [Sem.run_bind, run_underlying Try.underlying130, Result.andThen_ok, part, asAgg, isAgg]
  simp [go_sem]
@[go_sem ↓] theorem fieldRRow_1 (x : BRow) (w : World) : (Instr.field 130 (.agg (bRowC x)) 1).run Try.prog w = .ok (.string x.val) w := by
  unfold Instr.field
  simp only [Sem.run_bind, run_underlying Try.underlying130, Result.andThen_ok, part, asAgg, isAgg]
  simp [go_sem]
@[go_sem] theorem buildRRow (a0 : Id32) (a1 : ByteArray) (w : World) : (bdS 130 #[(0, .agg (idC a0)), (1, .string a1)]).run Try.prog w = .ok (.agg (bRowC ⟨a0, a1⟩)) w := by
  refine run_build w fieldsRRow _ (zeroRRow_run w) _ (placesRRow w) [(0, .agg (idC a0)), (1, .string a1)] _ ?_
  rw [show bRowC bRow0 = (#[] : Array Value) ++ idC id0 ++ (#[.string ⟨#[]⟩]) from by first | (simp [bRowC, bRow0, Array.append_assoc]; done) | (apply Array.ext'; simp [bRowC, bRow0])]
  rw [fill_step (off := 0) (size := 32) rfl (by simp) (by simp) (by simp [Value.cells])]
  rw [show (#[] : Array Value) ++ (Value.agg (idC a0)).cells ++ (#[.string ⟨#[]⟩]) = (idC a0) ++ #[.string ⟨#[]⟩] ++ (#[] : Array Value) from by first | (simp [Value.cells, Array.append_assoc]; done) | (apply Array.ext'; simp [Value.cells]; done) | (apply Array.ext'; simp only [Array.toList_append]; simp [Value.cells])]
  rw [fill_step (off := 32) (size := 1) rfl (by simp) (by simp) (by simp [Value.cells])]
  first | (simp [Instr.fill, bRowC, Array.append_assoc, Value.cells]; done) | (simp only [Instr.fill, bRowC]; congr 1; apply Array.ext'; simp [Value.cells]; done) | (simp only [Instr.fill, bRowC]; congr 1; done) | (simp only [Instr.fill, bRowC]; done)

theorem einfoRRow : ElemInfo Try.prog 72 130 33 48 :=
  .of (z := .agg (bRowC bRow0)) Try.underlying72 (by kernel_rfl) (by kernel_rfl) (by kernel_rfl) (bRowC_size _) (by omega)
@[go_sem ↓] theorem bsRRow_rw (n : Nat) (parts : Array (Nat × Value)) : Instr.buildSlice 72 n parts = bsS 72 n parts := rfl
@[go_sem] theorem bsRRow_run (w : World) (x : BRow) : (bsS 72 1 #[(0, .agg (bRowC x))]).run Try.prog w = .ok (.slice (some ⟨w.heap.size, 0, none⟩) 1 1) (w.alloc (.cells (bRowC x) 130)) :=
  run_bsS1 einfoRRow (by omega) w (bRowC x) (bRowC_size x)
@[go_sem] theorem bsRRow0_run (w : World) : (bsS 72 0 #[]).run Try.prog w = .ok (.slice (some ⟨w.heap.size, 0, none⟩) 0 0) (w.alloc (.cells #[] 130)) := run_bsS0 einfoRRow w
@[go_sem ↓] theorem slRRow_rw (x : Value) (lo hi mx : Option Value) : Instr.sliceAt 72 x lo hi mx = slS 72 x lo hi mx := rfl

def rowEqB (x y : BRow) : Bool := (x.tag == y.tag) && (x.val.toList == y.val.toList)
theorem rowEqB_eq (x y : BRow) : rowEqB x y = decide (x = y) := by
  unfold rowEqB
  rw [Bool.eq_iff_iff]
  simp only [Bool.and_eq_true, beq_iff_eq, toList_inj, decide_eq_true_eq]
  exact ⟨fun h => BRow_ext h, fun h => by subst h; exact ⟨rfl, rfl⟩⟩
theorem eqRRow_in (x y : BRow) (w : World) : (Op.equalIn 10000 130 (.agg (bRowC x)) (.agg (bRowC y))).run Try.prog w = .ok (rowEqB x y) w := by
  rw [show (10000 : Nat) = 9999 + 1 from rfl, run_equalIn_agg w 9999 130 _ _ fieldsRRow (by kernel_rfl)]
  unfold rowEqB
  have e1 := eqId_in 9997 x.tag y.tag w
  have e2 := run_equalIn_string (P := Try.prog) w 9998 9 x.val y.val Try.underlying9
  simp only [Program.fieldsOf, Try.underlying130]
  simp [Op.eqFields, part, asAgg, isAgg, go_sem, Try.underlying9, Try.underlying24, e1, e2]
  cases h1 : (x.tag == y.tag) <;> cases h2 : (x.val.toList == y.val.toList) <;> simp_all
@[go_sem ↓] theorem eqRRow_run (x y : BRow) (w : World) : (Op.equalIn 10000 130 (.agg (bRowC x)) (.agg (bRowC y))).run Try.prog w = .ok (rowEqB x y) w := eqRRow_in x y w

abbrev RowsIn (w : World) (A : Option Addr) (n : Nat) (R : List BRow) : Prop := SlR w A n 33 (R.map bRowC)
theorem RowsIn.len {w : World} {A : Option Addr} {n : Nat} {R : List BRow} (h : RowsIn w A n R) : R.length = n := by simpa using h.1
theorem RowsIn.get {w : World} {A : Option Addr} {n : Nat} {R : List BRow} (h : RowsIn w A n R) {i : Nat} (hi : i < n) (hR : i < R.length) :
    ∃ g o, A = some ⟨g, o, none⟩ ∧ rowAt w g (o + i * 33) 33 = some (bRowC R[i]) ∧ rowAt w g (o + i * 33) 32 = some (idC (R[i]).tag) ∧ w.cell? ⟨g, o + i * 33 + 32, none⟩ = some (.string (R[i]).val) := by
  obtain ⟨g, o, e, hr⟩ := h.at_ hi
  rw [List.getElem_map] at hr
  refine ⟨g, o, e, hr, ?_, ?_⟩
  · have := rowAt_sub hr (j := 0) (m := 32) (by omega)
    rwa [bRowC_e0] at this
  · have := rowAt_cell hr (j := 32) (by omega)
    rwa [bRowC_g32] at this

set_option maxHeartbeats 1000000 in
theorem rin (w : World) (A : Option Addr) (n cap : Nat) (R : List BRow) (x : BRow) (h : RowsIn w A n R) (hn : n ≤ 9223372036854775807) :
    Calls Try.prog 80 #[.slice A n cap, .agg (bRowC x)] w fun e w' => e = .returned (.bool (decide (x ∈ R))) ∧ Below w.heap.size w w' := by
  have hlen := h.len
  have hB : Below w.heap.size w (w.alloc (.cells (bRowC x) 130)) := (Below.refl _ _).alloc (Nat.le_refl _) _
  have hd0 : rowAt (w.alloc (.cells (bRowC x) 130)) w.heap.size 0 33 = some (bRowC x) := by simp [go_sem]
  have Hlen := Lib.hid hlen
  clear hlen
  go_enter Try.func80, Try.ntmps80
  go_wp2_with fail
  generalize w.alloc (.cells (bRowC x) 130) = W at *
  go_loopw [5] (fun i wr => ∃ k : Nat, k ≤ n ∧ i = .int .i64 k ∧ Hid (x ∉ R.take k) ∧ Below W.heap.size W wr) (fun i _ => n - (intOf i).toNat)
  case atStart => exact ⟨0, Nat.zero_le _, rfl, (show x ∉ R.take 0 by simp), Below.refl _ _⟩
  case round =>
    obtain ⟨k, hk, rfl, hno, hb⟩ := hrel
    by_cases hlt : k < n
    · obtain ⟨q, o, rfl, hr, _, _⟩ := RowsIn.get (SlR.below (SlR.below h hB) hb) hlt (by rw [Hlen.out]; exact hlt)
      have hdr : rowAt wr w.heap.size 0 33 = some (bRowC x) := (rowAt_of_block (hb.block _ (rowAt_lt hd0)) _ _).trans hd0
      have htk : R.take (k + 1) = R.take k ++ [R[k]'(by rw [Hlen.out]; exact hlt)] := by rw [List.take_add_one, List.getElem?_eq_getElem (by rw [Hlen.out]; exact hlt)]; rfl
      have hmem : R[k]'(by rw [Hlen.out]; exact hlt) ∈ R := List.getElem_mem _
      obtain ⟨y, hy⟩ : ∃ y, R[k]'(by rw [Hlen.out]; exact hlt) = y := ⟨_, rfl⟩
      rw [hy] at hr htk hmem
      have Htk := Lib.hid htk
      have Hm := Lib.hid hmem
      clear hy htk hmem
      obtain ⟨bb, hbb⟩ : ∃ bb, rowEqB y x = bb := ⟨_, rfl⟩
      have hbd := rowEqB_eq y x
      rw [hbb] at hbd
      have Hbd := Lib.hid hbd
      clear hbd
      go_upto_region 4 with fail
      refine wp_region_lex (Bel wr) false (by kernel_rfl) (by kernel_rfl) (by kernel_rfl) (bel_drew wr) ?_
      have hne := bel_some wr
      have hS := bel_drew wr
      have b1 := sub_row hr; have b2 := sub_row hdr
      repeat (refine wpLx_loose ?_ ?_; (focus (simp only [chainOp]; done)); intro K hK; go_simp; refine hK _ ?_; clear hK K)
      refine wpLx_nil ?_
      intro hS
      clear hne hS b1 b2 hr hdr hbb
      cases bb with
      | true =>
        have e : y = x := by simpa using Hbd.out.symm
        have Hin : Hid (decide (x ∈ R) = true) := decide_eq_true (by rw [← e]; exact Hm.out)
        clear e
        go_wp2_with fail
        go_ret
        exact ⟨ret_bool (by rw [Hin.out]), hB.trans (hb.drew.mono hB.size)⟩
      | false =>
        have e : ¬ y = x := by simpa using Hbd.out.symm
        have hno' : Hid (x ∉ R.take (k + 1)) := by
          show _
          rw [Htk.out, List.mem_append, List.mem_singleton]
          rintro (h1 | h1)
          · exact hno.out h1
          · exact e h1.symm
        clear e
        go_wp2_with fail
        go_roundw
        case rel => exact ⟨k + 1, by omega, by go_num, hno', hb.drew⟩
        case measure => simp [intOf]; omega
    · have hall : x ∉ R := by
        have := hno.out
        rwa [List.take_of_length_le (by rw [Hlen.out]; omega)] at this
      have Hn : Hid (decide (x ∈ R) = false) := decide_eq_false hall
      clear hall
      go_wp2_with fail
      go_ret
      exact ⟨ret_bool (by rw [Hn.out]), hB.trans (hb.mono hB.size)⟩

theorem orC_lt (a b : Int) : orC a b < 0 ↔ a < 0 ∨ (a = 0 ∧ b < 0) := by
  unfold orC
  split <;> omega
set_option maxHeartbeats 1000000 in
theorem rless (x y : BRow) (w : World) : Calls Try.prog 99 #[.agg (bRowC x), .agg (bRowC y)] w fun e w' => e = .returned (.bool (decide (cmpRow x y < 0))) ∧ Below w.heap.size w w' := by
  have hB : Below w.heap.size w ((w.alloc (.cells (bRowC x) 130)).alloc (.cells (bRowC y) 130)) := ((Below.refl _ _).alloc (Nat.le_refl _) _).alloc (by simp) _
  have h0 : decide (cmpRow x y < 0) = decide (cmpId x.tag y.tag < 0 ∨ (cmpId x.tag y.tag = 0 ∧ cmpS x.val y.val < 0)) := by
    unfold cmpRow
    rw [orL2]
    exact decide_eq_decide.2 (orC_lt _ _)
  have hs := bltS_cmp x.val y.val
  have ra : rowAt ((w.alloc (.cells (bRowC x) 130)).alloc (.cells (bRowC y) 130)) w.heap.size 0 33 = some (bRowC x) := by simp [go_sem]
  have rb : rowAt ((w.alloc (.cells (bRowC x) 130)).alloc (.cells (bRowC y) 130)) (w.heap.size + 1) 0 33 = some (bRowC y) := by simp [go_sem]
  have H0 := Lib.hid h0
  clear h0
  go_enter Try.func99, Try.ntmps99
  go_upto_region 1 with fail
  generalize (w.alloc (.cells (bRowC x) 130)).alloc (.cells (bRowC y) 130) = W at *
  have a1 : rowAt W w.heap.size 0 32 = some (idC x.tag) := by have := rowAt_sub ra (j := 0) (m := 32) (by omega); rwa [bRowC_e0] at this
  have a2 : W.cell? ⟨w.heap.size, 32, none⟩ = some (.string x.val) := by have := rowAt_cell ra (j := 32) (by omega); rwa [bRowC_g32, Nat.zero_add] at this
  have a3 : rowAt W (w.heap.size + 1) 0 32 = some (idC y.tag) := by have := rowAt_sub rb (j := 0) (m := 32) (by omega); rwa [bRowC_e0] at this
  have a4 : W.cell? ⟨w.heap.size + 1, 32, none⟩ = some (.string y.val) := by have := rowAt_cell rb (j := 32) (by omega); rwa [bRowC_g32, Nat.zero_add] at this
  clear ra rb
  have c1 := rcompare x.tag y.tag W
  obtain ⟨c, hc⟩ : ∃ c, cmpId x.tag y.tag = c := ⟨_, rfl⟩
  rw [hc] at c1
  obtain ⟨sb, hsb⟩ : ∃ sb, Op.bytesLess x.val.toList y.val.toList = sb := ⟨_, rfl⟩
  have hs' : sb = decide (cmpS x.val y.val < 0) := hsb.symm.trans hs
  have Hc := Lib.hid hc
  have Hs := Lib.hid hs'
  clear hc hs hs'
  go_wp2_with fail
  refine c1.mono ?_; rintro e W2 ⟨rfl, hb⟩
  have d2 := (hb.cell (p := ⟨w.heap.size, 32, none⟩) (World.block_lt_of_cell? W _ a2)).trans a2
  have e2 := (hb.cell (p := ⟨w.heap.size + 1, 32, none⟩) (World.block_lt_of_cell? W _ a4)).trans a4
  have hB2 := hB.trans (hb.mono hB.size)
  clear a1 a2 a3 a4 hb hB c1
  by_cases h1 : c < 0
  · go_wp2_with fail
    go_ret
    exact ⟨ret_bool (by rw [H0.out, Hc.out]; simp [h1]), hB2⟩
  · by_cases h2 : c = 0
    · subst h2
      cases sb with
      | true =>
        go_wp2_with fail
        go_ret
        exact ⟨ret_bool (by rw [H0.out, Hc.out]; simpa using Hs.out.symm), hB2⟩
      | false =>
        go_wp2_with fail
        go_ret
        exact ⟨ret_bool (by rw [H0.out, Hc.out]; simpa using Hs.out.symm), hB2⟩
    · have h3 : (c == 0) = false := by rw [beq_eq_false_iff_ne]; exact h2
      have Hd : Hid (decide (c < 0 ∨ (c = 0 ∧ cmpS x.val y.val < 0)) = false) := by
        show _ = _
        rw [decide_eq_false_iff_not]
        rintro (h | ⟨h, _⟩)
        · exact h1 h
        · exact h2 h
      clear h2
      go_wp2_with fail
      go_ret
      exact ⟨ret_bool (by rw [H0.out, Hc.out, Hd.out, decide_eq_false_iff_not]; omega), hB2⟩

end Go.Proofs.Ytlonihfhgfmplaa
