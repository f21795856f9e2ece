/- Package last: settings, their order, which may be. -/
import Derived.Test.YtlonihfhgfmplaaCmp
import Derived.Test.YtlonihfhgfmplaaLex
namespace Go.Proofs.Ytlonihfhgfmplaa
open Go.RowKit

structure Setting where
  val : ByteArray
  n : Int
  id : Id32
/-- Its cells. -/
def settingC (x : Setting) : Array Value := #[.string x.val] ++ #[.int .i64 x.n] ++ idC x.id
@[simp] theorem settingC_size (x : Setting) : (settingC x).size = 34 := by simp [settingC]
@[go_sem] theorem settingC_g0 (x : Setting) : (settingC x)[0]? = some (.string x.val) := by simp [settingC, Array.getElem?_append]
@[go_sem] theorem settingC_gg0 (x : Setting) (h : 0 < (settingC x).size) : (settingC x)[0]'h = .string x.val := Option.some.inj ((Array.getElem?_eq_getElem h).symm.trans (settingC_g0 x))
@[go_sem] theorem settingC_g1 (x : Setting) : (settingC x)[1]? = some (.int .i64 x.n) := by simp [settingC, Array.getElem?_append]
@[go_sem] theorem settingC_gg1 (x : Setting) (h : 1 < (settingC x).size) : (settingC x)[1]'h = .int .i64 x.n := Option.some.inj ((Array.getElem?_eq_getElem h).symm.trans (settingC_g1 x))
@[go_sem] theorem settingC_e2 (x : Setting) : (settingC x).extract 2 34 = idC x.id := by
  have h : settingC x = (#[.string x.val] ++ #[.int .i64 x.n]) ++ idC x.id ++ ((#[] : Array Value)) := by simp [settingC, Array.append_assoc]
  rw [h]; exact arr_mid _ _ _ _ _ (by simp) (by simp)
@[go_sem] theorem settingC_all (x : Setting) : (settingC x).extract 0 34 = settingC x := by have := Array.extract_size (xs := settingC x); rwa [settingC_size] at this
theorem settingC_inj {x y : Setting} (h : settingC x = settingC y) : x = y := by
  have h0 := congrArg (fun a => a[0]?) h
  simp only [settingC_g0, Option.some.injEq, Value.string.injEq] at h0
  have h1 := congrArg (fun a => a[1]?) h
  simp only [settingC_g1, Option.some.injEq, Value.int.injEq, true_and] at h1
  have h2 := congrArg (fun a => a.extract 2 34) h
  simp only [settingC_e2] at h2
  have h2 := idC_inj h2
  cases x; cases y; simp_all
theorem settingC_one (x : Setting) : ∀ u ∈ (settingC x).toList, u.oneCell' = true := by
  intro u hu
  simp only [settingC, Array.toList_append, List.mem_append] at hu
  rcases hu with (hu | hu) | hu
  · simp at hu; subst hu; rfl
  · simp at hu; subst hu; rfl
  · exact idC_one _ u hu
def setting0 : Setting := ⟨⟨#[]⟩, 0, id0⟩
theorem Setting_ext {x y : Setting} (h : x.val = y.val ∧ x.n = y.n ∧ x.id = y.id) : x = y := by cases x; cases y; simp_all
instance : DecidableEq Setting := fun x y => if h : x.val = y.val ∧ x.n = y.n ∧ x.id = y.id then isTrue (Setting_ext h) else isFalse (fun e => h (by subst e; simp))
theorem infoSetting : (Try.prog.info? 88).map (·.size) = some 34 := by kernel_rfl
@[go_sem ↓] theorem zeroSetting_run (w : World) : (zeroValue 88).run Try.prog w = .ok (.agg (settingC setting0)) w := by
  have h : (Try.prog.info? 88).bind (·.zero) = some (.agg (settingC setting0)) := by kernel_rfl
  cases hi : Try.prog.info? 88 with
  | none => rw [hi] at h; cases h
  | some i =>
    rw [hi] at h
    have hz : i.zero = some (.agg (settingC setting0)) := h
    simp [zeroValue, typeInfo, hi, hz]
@[go_sem ↓] theorem loadSetting_rw (a : Addr) : loadVar 88 a = ldS 88 a := rfl
@[go_sem ↓] theorem storeSetting_rw (a : Addr) (v : Value) : storeVar 88 a v = stS 88 a v := rfl
@[go_sem] theorem loadSetting_run (w : World) (g o : Nat) : (ldS 88 ⟨g, o, none⟩).run Try.prog w = match rowAt w g o 34 with | some cs => .ok (.agg cs) w | none => (loadVar 88 ⟨g, o, none⟩).run Try.prog w :=
  run_ldS Try.underlying88 rfl infoSetting w g o
@[go_sem] theorem storeSetting_run (w : World) (g : Nat) (hg : g = w.heap.size) (z : Array Value) (hz : z.size = 34) (x : Setting) (e : TypeId) : (stS 88 ⟨g, 0, none⟩ (.agg (settingC x))).run Try.prog (w.alloc (.cells z e)) = .ok () (w.alloc (.cells (settingC x) e)) :=
  hg ▸ run_stS_new infoSetting w z (settingC x) hz (settingC_size x) (settingC_one x)
theorem fieldsSetting : Try.prog.underlying 88 = some (.struct (Try.prog.fieldsOf 88)) := by kernel_rfl
theorem placesSetting (w : World) : ((Try.prog.fieldsOf 88).mapM fun (f : Field) => do pure (f.offset, ← sizeOf f.type)).run Try.prog w = .ok #[(0, 1), (1, 1), (2, 32)] w := by kernel_rfl
@[go_sem ↓] theorem buildSetting_rw (parts : Array (Nat × Value)) : Instr.build 88 parts = bdS 88 parts := rfl
@[go_sem ↓] theorem fieldSetting_0 (x : Setting) (w : World) : (Instr.field 88 (.agg (settingC x)) 0).run Try.prog w = .ok (.string x.val) w := by
  unfold Instr.field
  simp only [Sem.run_bind, run_underlying Try.underlying88, Result.andThen_ok, part, asAgg, isAgg]
  simp [go_sem]
@[go_sem ↓] theorem fieldSetting_1 (x : Setting) (w : World) : (Instr.field 88 (.agg (settingC x)) 1).run Try.prog w = .ok (.int .i64 x.n) w := by
  unfold Instr.field
  simp only [Sem.run_bind, run_underlying Try.underlying88, Result.andThen_ok, part, asAgg, isAgg]
  simp [go_sem]
@[go_sem ↓] theorem fieldSetting_2 (x : Setting) (w : World) : (Instr.field 88 (.agg (settingC x)) 2).run Try.prog w = .ok (.agg (idC x.id)) w := by
  unfold Instr.field
  simp only [Sem.run_bind, run_underlying Try.underlying88, Result.andThen_ok, part, asAgg, isAgg]
  simp [go_sem]
@[go_sem] theorem buildSetting (a0 : ByteArray) (a1 : Int) (a2 : Id32) (w : World) : (bdS 88 #[(0, .string a0), (1, .int .i64 a1), (2, .agg (idC a2))]).run Try.prog w = .ok (.agg (settingC ⟨a0, a1, a2⟩)) w := by
  refine run_build w fieldsSetting _ (zeroSetting_run w) _ (placesSetting w) [(0, .string a0), (1, .int .i64 a1), (2, .agg (idC a2))] _ ?_
  rw [show settingC setting0 = (#[] : Array Value) ++ #[.string ⟨#[]⟩] ++ (#[.int .i64 0] ++ (idC id0)) from by first | (simp [settingC, setting0, Array.append_assoc]; done) | (apply Array.ext'; simp [settingC, setting0])]
  rw [fill_step (off := 0) (size := 1) rfl (by simp) (by simp) (by simp [Value.cells])]
  rw [show (#[] : Array Value) ++ (Value.string a0).cells ++ (#[.int .i64 0] ++ (idC id0)) = (#[.string a0]) ++ #[.int .i64 0] ++ (idC id0) from by first | (simp [Value.cells, Array.append_assoc]; done) | (apply Array.ext'; simp [Value.cells]; done) | (apply Array.ext'; simp only [Array.toList_append]; simp [Value.cells])]
  rw [fill_step (off := 1) (size := 1) rfl (by simp) (by simp) (by simp [Value.cells])]
  rw [show (#[.string a0]) ++ (Value.int .i64 a1).cells ++ (idC id0) = (#[.string a0] ++ (#[.int .i64 a1])) ++ idC id0 ++ (#[] : Array Value) from by first | (simp [Value.cells, Array.append_assoc]; done) | (apply Array.ext'; simp [Value.cells]; done) | (apply Array.ext'; simp only [Array.toList_append]; simp [Value.cells])]
  rw [fill_step (off := 2) (size := 32) rfl (by simp) (by simp) (by simp [Value.cells])]
  first | (simp [Instr.fill, settingC, Array.append_assoc, Value.cells]; done) | (simp only [Instr.fill, settingC]; congr 1; apply Array.ext'; simp [Value.cells])

/-- Which of two is later: by number, id, text. -/
def cmpSet (x y : Setting) : Int := orL [cmpI x.n y.n, cmpId x.id y.id, cmpS x.val y.val]

theorem or3_cells (w : World) (a b c : Int) : ∀ j, j < [a, b, c].length → (w.alloc (.cells #[.int .i64 a, .int .i64 b, .int .i64 c] 3)).cell? ⟨w.heap.size, j, none⟩ = some (.int .i64 ([a, b, c].getD j 0)) := by
  intro j hj
  have : j = 0 ∨ j = 1 ∨ j = 2 := by simp at hj; omega
  rcases this with rfl | rfl | rfl <;> simp

set_option maxHeartbeats 1000000 in
theorem order_any (x y : Setting) (w : World) : Calls Try.prog 46 #[.agg (settingC x), .agg (settingC y)] w fun e w' => e = .returned (.int .i64 (cmpSet x y)) ∧ Below w.heap.size w w' := by
  go_enter Try.func46, Try.ntmps46
  go_upto_region 1 with fail
  obtain ⟨W, hW⟩ : ∃ W, W = (w.alloc (.cells (settingC x) 88)).alloc (.cells (settingC y) 88) := ⟨_, rfl⟩
  have hB : Below w.heap.size w W := by rw [hW]; exact ((Below.refl _ _).alloc (Nat.le_refl _) _).alloc (by simp) _
  have a1 : W.cell? ⟨w.heap.size, 1, none⟩ = some (.int .i64 x.n) := by rw [hW]; simp [go_sem]
  have a2 : W.cell? ⟨w.heap.size + 1, 1, none⟩ = some (.int .i64 y.n) := by rw [hW]; simp [go_sem]
  have a3 : rowAt W w.heap.size 2 32 = some (idC x.id) := by rw [hW]; simp [go_sem]
  have a4 : rowAt W (w.heap.size + 1) 2 32 = some (idC y.id) := by rw [hW]; simp [go_sem]
  have a5 : W.cell? ⟨w.heap.size, 0, none⟩ = some (.string x.val) := by rw [hW]; simp [go_sem]
  have a6 : W.cell? ⟨w.heap.size + 1, 0, none⟩ = some (.string y.val) := by rw [hW]; simp [go_sem]
  rw [← hW]
  clear hW
  refine wp_region_lex (Bel W) false (by kernel_rfl) (by kernel_rfl) (by kernel_rfl) (bel_drew W) ?_
  have hne := bel_some W
  have hS := bel_drew W
  have b1 := sub_cell a1; have b2 := sub_cell a2; have b3 := sub_row a3; have b4 := sub_row a4; have b5 := sub_cell a5; have b6 := sub_cell a6
  repeat (refine wpLx_loose ?_ ?_; (focus (simp only [chainOp]; done)); intro K hK; go_simp; refine hK _ ?_; clear hK K)
  refine wpLx_chain ?_ ?_ ?_
  focus (exact hS)
  focus (simp only [chainOp]; done)
  intro K hK
  go_simp
  refine (cmp_int _ _ _).mono ?_
  rintro e w' ⟨rfl, rfl⟩
  refine ⟨_, rfl, hS, hK _ _ ?_⟩
  clear hK K
  repeat (refine wpLx_loose ?_ ?_; (focus (simp only [chainOp]; done)); intro K hK; go_simp; refine hK _ ?_; clear hK K)
  refine wpLx_chain ?_ ?_ ?_
  focus (exact hS)
  focus (simp only [chainOp]; done)
  intro K hK
  go_simp
  refine (cmp_id _ _ _).mono ?_
  rintro e w' ⟨rfl, hb⟩
  replace hS := bel_next hS hb
  refine ⟨_, rfl, hS, hK _ _ ?_⟩
  clear hK K hb
  repeat (refine wpLx_loose ?_ ?_; (focus (simp only [chainOp]; done)); intro K hK; go_simp; refine hK _ ?_; clear hK K)
  refine wpLx_chain ?_ ?_ ?_
  focus (exact hS)
  focus (simp only [chainOp]; done)
  intro K hK
  go_simp
  refine (cmp_str _ _ _).mono ?_
  rintro e w' ⟨rfl, rfl⟩
  refine ⟨_, rfl, hS, hK _ _ ?_⟩
  clear hK K
  refine wpLx_chain ?_ ?_ ?_
  focus (exact hS)
  focus (simp only [chainOp]; done)
  intro K hK
  go_simp
  refine step_keep (bel_alloc hS _) (fun hS => ?_)
  refine hK _ _ ?_
  clear hK K
  refine wpLx_chain ?_ ?_ ?_
  focus (exact hS)
  focus (simp only [chainOp]; done)
  intro K hK
  go_simp
  refine (or_any _ _ [cmpI x.n y.n, cmpId x.id y.id, cmpS x.val y.val] (by simp) _ (or3_cells _ _ _ _)).mono ?_
  rintro e w' ⟨rfl, rfl⟩
  refine ⟨_, rfl, hS, hK _ _ ?_⟩
  clear hK K
  repeat (refine wpLx_loose ?_ ?_; (focus (simp only [chainOp]; done)); intro K hK; go_simp; refine hK _ ?_; clear hK K)
  refine wpLx_nil ?_
  intro hS
  go_wp2_with fail
  go_ret
  exact ⟨rfl, hB.trans (hS.mono hB.size)⟩

end Go.Proofs.Ytlonihfhgfmplaa
