/- Package bag: rows, their order; rows and ids as keys of a map. -/
import Derived.Test.YtlonihfhgfmplaaCmp
import Derived.Test.YtlonihfhgfmplaaGr
import Derived.Test.YtlonihfhgfmplaaSet
import Derived.Test.YtlonihfhgfmplaaRange
import Derived.Test.YtlonihfhgfmplaaFrame
namespace Go.Proofs.Ytlonihfhgfmplaa
open Go.RowKit

structure BRow where
  tag : Id32
  val : ByteArray
/-- Its cells. -/
def bRowC (x : BRow) : Array Value := idC x.tag ++ #[.string x.val]
@[simp] theorem bRowC_size (x : BRow) : (bRowC x).size = 33 := by simp [bRowC]
@[go_sem] theorem bRowC_e0 (x : BRow) : (bRowC x).extract 0 32 = idC x.tag := by
  have h : bRowC x = ((#[] : Array Value)) ++ idC x.tag ++ (#[.string x.val]) := by first | (simp [bRowC, Array.append_assoc]; done) | (apply Array.ext'; simp [bRowC]; done)
  rw [h]; exact arr_mid _ _ _ _ _ (by simp) (by simp)
@[go_sem] theorem bRowC_g32 (x : BRow) : (bRowC x)[32]? = some (.string x.val) := by first | (simp [bRowC, Array.getElem?_append]; done) | (rw [show bRowC x = (idC x.tag) ++ #[.string x.val] ++ ((#[] : Array Value)) from by apply Array.ext'; simp [bRowC]]; exact arr_at _ _ _ _ (by simp))
@[go_sem] theorem bRowC_gg32 (x : BRow) (h : 32 < (bRowC x).size) : (bRowC x)[32]'h = .string x.val := Option.some.inj ((Array.getElem?_eq_getElem h).symm.trans (bRowC_g32 x))
@[go_sem] theorem bRowC_pop (x : BRow) : (bRowC x).pop = idC x.tag := by apply Array.ext'; simp [bRowC]
@[go_sem] theorem bRowC_all (x : BRow) : (bRowC x).extract 0 33 = bRowC x := by have := Array.extract_size (xs := bRowC x); rwa [bRowC_size] at this
theorem bRowC_inj {x y : BRow} (h : bRowC x = bRowC y) : x = y := by
  have h0 := congrArg (fun a => a.extract 0 32) h
  simp only [bRowC_e0] at h0
  have h0 := idC_inj h0
  have h1 := congrArg (fun a => a[32]?) h
  simp only [bRowC_g32, Option.some.injEq, Value.string.injEq] at h1
  cases x; cases y; simp_all
theorem bRowC_one (x : BRow) : ∀ u ∈ (bRowC x).toList, u.oneCell' = true := by
  intro u hu
  simp only [bRowC, Array.toList_append, List.mem_append] at hu
  rcases hu with hu | hu
  · exact idC_one _ u hu
  · simp at hu; subst hu; rfl
def bRow0 : BRow := ⟨id0, ⟨#[]⟩⟩
theorem BRow_ext {x y : BRow} (h : x.tag = y.tag ∧ x.val = y.val) : x = y := by cases x; cases y; simp_all
instance : DecidableEq BRow := fun x y => if h : x.tag = y.tag ∧ x.val = y.val then isTrue (BRow_ext h) else isFalse (fun e => h (by subst e; simp))
theorem infoBRow : (Try.prog.info? 120).map (·.size) = some 33 := by kernel_rfl
@[go_sem ↓] theorem zeroBRow_run (w : World) : (zeroValue 120).run Try.prog w = .ok (.agg (bRowC bRow0)) w := by
  have h : (Try.prog.info? 120).bind (·.zero) = some (.agg (bRowC bRow0)) := by kernel_rfl
  cases hi : Try.prog.info? 120 with
  | none => rw [hi] at h; cases h
  | some i =>
    rw [hi] at h
    have hz : i.zero = some (.agg (bRowC bRow0)) := h
    simp [zeroValue, typeInfo, hi, hz]
@[go_sem ↓] theorem loadBRow_rw (a : Addr) : loadVar 120 a = ldS 120 a := rfl
@[go_sem ↓] theorem storeBRow_rw (a : Addr) (v : Value) : storeVar 120 a v = stS 120 a v := rfl
@[go_sem] theorem loadBRow_run (w : World) (g o : Nat) : (ldS 120 ⟨g, o, none⟩).run Try.prog w = match rowAt w g o 33 with | some cs => .ok (.agg cs) w | none => (loadVar 120 ⟨g, o, none⟩).run Try.prog w :=
  run_ldS Try.underlying120 rfl infoBRow w g o
@[go_sem] theorem storeBRow_run (w : World) (g : Nat) (hg : g = w.heap.size) (z : Array Value) (hz : z.size = 33) (x : BRow) (e : TypeId) : (stS 120 ⟨g, 0, none⟩ (.agg (bRowC x))).run Try.prog (w.alloc (.cells z e)) = .ok () (w.alloc (.cells (bRowC x) e)) :=
  hg ▸ run_stS_new infoBRow w z (bRowC x) hz (bRowC_size x) (bRowC_one x)
theorem fieldsBRow : Try.prog.underlying 120 = some (.struct (Try.prog.fieldsOf 120)) := by kernel_rfl
theorem placesBRow (w : World) : ((Try.prog.fieldsOf 120).mapM fun (f : Field) => do pure (f.offset, ← sizeOf f.type)).run Try.prog w = .ok #[(0, 32), (32, 1)] w := by kernel_rfl
@[go_sem ↓] theorem buildBRow_rw (parts : Array (Nat × Value)) : Instr.build 120 parts = bdS 120 parts := rfl
@[go_sem ↓] theorem fieldBRow_0 (x : BRow) (w : World) : (Instr.field 120 (.agg (bRowC x)) 0).run Try.prog w = .ok (.agg (idC x.tag)) w := by
  unfold Instr.field
  simp only [Sem.run_bind, run_underlying Try.underlying120, Result.andThen_ok, part, asAgg, isAgg]
  simp [go_sem]
@[go_sem ↓] theorem fieldBRow_1 (x : BRow) (w : World) : (Instr.field 120 (.agg (bRowC x)) 1).run Try.prog w = .ok (.string x.val) w := by
  unfold Instr.field
  simp only [Sem.run_bind, run_underlying Try.underlying120, Result.andThen_ok, part, asAgg, isAgg]
  simp [go_sem]
@[go_sem] theorem buildBRow (a0 : Id32) (a1 : ByteArray) (w : World) : (bdS 120 #[(0, .agg (idC a0)), (1, .string a1)]).run Try.prog w = .ok (.agg (bRowC ⟨a0, a1⟩)) w := by
  refine run_build w fieldsBRow _ (zeroBRow_run w) _ (placesBRow w) [(0, .agg (idC a0)), (1, .string a1)] _ ?_
  rw [show bRowC bRow0 = (#[] : Array Value) ++ idC id0 ++ (#[.string ⟨#[]⟩]) from by first | (simp [bRowC, bRow0, Array.append_assoc]; done) | (apply Array.ext'; simp [bRowC, bRow0])]
  rw [fill_step (off := 0) (size := 32) rfl (by simp) (by simp) (by simp [Value.cells])]
  rw [show (#[] : Array Value) ++ (Value.agg (idC a0)).cells ++ (#[.string ⟨#[]⟩]) = (idC a0) ++ #[.string ⟨#[]⟩] ++ (#[] : Array Value) from by first | (simp [Value.cells, Array.append_assoc]; done) | (apply Array.ext'; simp [Value.cells]; done) | (apply Array.ext'; simp only [Array.toList_append]; simp [Value.cells])]
  rw [fill_step (off := 32) (size := 1) rfl (by simp) (by simp) (by simp [Value.cells])]
  first | (simp [Instr.fill, bRowC, Array.append_assoc, Value.cells]; done) | (simp only [Instr.fill, bRowC]; congr 1; apply Array.ext'; simp [Value.cells]; done) | (simp only [Instr.fill, bRowC]; congr 1; done) | (simp only [Instr.fill, bRowC]; done)

def cmpRow (x y : BRow) : Int := orL [cmpId x.tag y.tag, cmpS x.val y.val]
theorem orL2 (a b : Int) : orL [a, b] = orC a b := by
  unfold orC orL orL orL
  split
  · split <;> simp_all
  · rfl
theorem totRow : TotC cmpRow := (totId.pair totS).of (fun x : BRow => (x.tag, x.val)) (fun x y h => by
  cases x; cases y
  simp only [Prod.mk.injEq] at h
  obtain ⟨h1, h2⟩ := h
  subst h1; subst h2; rfl) (fun x y => orL2 _ _)

theorem cmp_id_gr (x y : Id32) (w : World) : Calls Try.prog 83 #[.agg (idC x), .agg (idC y)] w fun e w' => e = .returned (.int .i64 (cmpId x y)) ∧ Gr w w' := by
  have hB : Gr w ((w.alloc (.cells (idC x) 24)).alloc (.cells (idC y) 24)) := ((Gr.refl _).alloc _).alloc _
  have hx : rowAt ((w.alloc (.cells (idC x) 24)).alloc (.cells (idC y) 24)) w.heap.size 0 32 = some (idC x) := by simp [go_sem]
  have hy : rowAt ((w.alloc (.cells (idC x) 24)).alloc (.cells (idC y) 24)) (w.heap.size + 1) 0 32 = some (idC y) := by simp [go_sem]
  have hx := Lib.hid (id_cells hx)
  have hy := Lib.hid (id_cells hy)
  go_enter Try.func83, Try.ntmps83
  go_wp2_with fail
  · go_ret
    have h : (x == y) = true := by assumption
    have : x = y := by simpa using h
    subst this
    exact ⟨ret_int (cmpId_self x).symm, hB⟩
  · go_quiet ((go_at_call 102; exact quiet_eq (bytesCmp_any _ _ _ _ _ _ x.l y.l _ x.h y.h hx.out hy.out)))
    go_wp2_with fail
    go_ret
    exact ⟨rfl, hB.drewN _⟩

theorem or2_cells (w : World) (a b : Int) : ∀ j, j < [a, b].length → (w.alloc (.cells #[.int .i64 a, .int .i64 b] 3)).cell? ⟨w.heap.size, j, none⟩ = some (.int .i64 ([a, b].getD j 0)) := by
  intro j hj
  have : j = 0 ∨ j = 1 := by simp at hj; omega
  rcases this with rfl | rfl <;> simp

set_option maxHeartbeats 1000000 in
theorem rorder (x y : BRow) (w : World) : Calls Try.prog 98 #[.agg (bRowC x), .agg (bRowC y)] w fun e w' => e = .returned (.int .i64 (cmpRow x y)) ∧ Gr w w' := by
  go_enter Try.func98, Try.ntmps98
  go_upto_region 1 with fail
  obtain ⟨W, hW⟩ : ∃ W, W = (w.alloc (.cells (bRowC x) 120)).alloc (.cells (bRowC y) 120) := ⟨_, rfl⟩
  have hB : Gr w W := by rw [hW]; exact ((Gr.refl _).alloc _).alloc _
  have a3 : rowAt W w.heap.size 0 32 = some (idC x.tag) := by rw [hW]; simp [go_sem]
  have a4 : rowAt W (w.heap.size + 1) 0 32 = some (idC y.tag) := by rw [hW]; simp [go_sem]
  have a5 : W.cell? ⟨w.heap.size, 32, none⟩ = some (.string x.val) := by rw [hW]; simp [go_sem]
  have a6 : W.cell? ⟨w.heap.size + 1, 32, none⟩ = some (.string y.val) := by rw [hW]; simp [go_sem]
  rw [← hW]
  clear hW
  refine wp_region_lex (Gr W) false (by kernel_rfl) (by kernel_rfl) (by kernel_rfl) (Gr.drew W) ?_
  have hne := gr_some W
  have hS := Gr.drew W
  have b3 := gsub_row a3; have b4 := gsub_row a4; have b5 := gsub_cell a5; have b6 := gsub_cell a6
  repeat (refine wpLx_loose ?_ ?_; (focus (simp only [chainOp]; done)); intro K hK; go_simp; refine hK _ ?_; clear hK K)
  refine wpLx_chain ?_ ?_ ?_
  focus (exact hS)
  focus (simp only [chainOp]; done)
  intro K hK
  go_simp
  refine (cmp_id_gr _ _ _).mono ?_
  rintro e w' ⟨rfl, hb⟩
  replace hS := Gr.trans hS hb
  refine ⟨_, rfl, hS, hK _ _ ?_⟩
  clear hK K hb
  repeat (refine wpLx_loose ?_ ?_; (focus (simp only [chainOp]; done)); intro K hK; go_simp; refine hK _ ?_; clear hK K)
  refine wpLx_chain ?_ ?_ ?_
  focus (exact hS)
  focus (simp only [chainOp]; done)
  intro K hK
  go_simp
  refine (cmp_str _ _ _).mono ?_
  rintro e w' ⟨rfl, rfl⟩
  refine ⟨_, rfl, hS, hK _ _ ?_⟩
  clear hK K
  refine wpLx_chain ?_ ?_ ?_
  focus (exact hS)
  focus (simp only [chainOp]; done)
  intro K hK
  go_simp
  refine step_keep (Gr.alloc hS _) (fun hS => ?_)
  refine hK _ _ ?_
  clear hK K
  refine wpLx_chain ?_ ?_ ?_
  focus (exact hS)
  focus (simp only [chainOp]; done)
  intro K hK
  go_simp
  refine (or_any _ _ [cmpId x.tag y.tag, cmpS x.val y.val] (by simp) _ (or2_cells _ _ _)).mono ?_
  rintro e w' ⟨rfl, rfl⟩
  refine ⟨_, rfl, hS, hK _ _ ?_⟩
  clear hK K
  repeat (refine wpLx_loose ?_ ?_; (focus (simp only [chainOp]; done)); intro K hK; go_simp; refine hK _ ?_; clear hK K)
  refine wpLx_nil ?_
  intro hS
  go_wp2_with fail
  go_ret
  exact ⟨rfl, hB.trans hS⟩

/-- Keys. -/
theorem mapM_some_all {α β : Type} {f : α → Option β} : ∀ {L : List α}, (∀ x ∈ L, ∃ y, f x = some y) → ∃ ys, L.mapM f = some ys
  | [], _ => ⟨[], rfl⟩
  | x :: L, h => by
    obtain ⟨y, hy⟩ := h x (by simp)
    obtain ⟨ys, hys⟩ := mapM_some_all (L := L) (fun z hz => h z (by simp [hz]))
    exact ⟨y :: ys, by simp [List.mapM_cons, hy, hys]⟩
theorem size3 : 3 ≤ Try.prog.types.size := of_decide_eq_true (by kernel_rfl)
theorem cellsId : Try.prog.cellsOf 24 = 32 := by kernel_rfl
theorem cellsByte : Try.prog.cellsOf 5 = 1 := by kernel_rfl
theorem keyLits_str (d : Nat) {s : ByteArray} (h : s.size ≤ maxLen) : ∃ l, Try.prog.keyLits (d + 1) 9 [.string s] = some l := by
  refine Option.isSome_iff_exists.1 ?_
  unfold Program.keyLits
  simp only [Try.underlying9]
  rw [if_pos h]
  rfl
theorem keyLits_id (d : Nat) (x : Id32) : ∃ l, Try.prog.keyLits (d + 2) 24 (idC x).toList = some l := by
  have hall : ∀ i ∈ List.range 32, ∃ y, Try.prog.keyLits (d + 1) 5 (((idC x).toList.drop (i * Try.prog.cellsOf 5)).take (Try.prog.cellsOf 5)) = some y := by
    intro i hi
    have hi' : i < 32 := List.mem_range.1 hi
    rw [cellsByte, Nat.mul_one]
    have e : ((idC x).toList.drop i).take 1 = [.int .u8 (idB x i)] := by
      have := idC_get x i
      rw [if_pos hi'] at this
      have h2 : (idC x).toList[i]? = some (.int .u8 (idB x i)) := by simpa using this
      rw [List.take_one, List.head?_drop, h2]; rfl
    rw [e]
    refine Option.isSome_iff_exists.1 ?_
    unfold Program.keyLits
    simp only [Try.underlying5]
    rw [if_pos ⟨trivial, by have := idB_bd x i; simp [Lit.wf, IntKind.min, IntKind.max, IntKind.signed, IntKind.bits]; omega⟩]
    rfl
  obtain ⟨ys, hys⟩ := mapM_some_all hall
  refine Option.isSome_iff_exists.1 ?_
  unfold Program.keyLits
  simp only [Try.underlying24]
  rw [if_pos (by rw [cellsId]; simp), hys]
  rfl
theorem rowId : 24 < Try.prog.types.size := of_decide_eq_true (by kernel_rfl)
theorem idKey : KeyEnc Try.prog 24 (fun x : Id32 => .agg (idC x)) (fun _ => True) where
  law := deep_law_laid Try.laidOut (m := 2) (by omega) rowId (by kernel_rfl) (by rw [Try.underlying24])
  key := fun x _ => by
    obtain ⟨d, hd⟩ : ∃ d, Try.prog.types.size + 1 = d + 2 := ⟨Try.prog.types.size - 1, by have := size3; omega⟩
    obtain ⟨l, hl⟩ := keyLits_id d x
    refine ⟨.string (keyBytes l), ?_⟩
    unfold keyOf
    simp only [Try.underlying24]
    have hkt : Try.prog.keyType 24 = true := by kernel_rfl
    have hf : (Value.agg (idC x)).formed Try.prog 24 = true := by simp [Value.formed, Try.underlying24, cellsId]
    rw [hkt, hf, hd]
    simp only [Bool.and_self, if_true]
    have : (Value.agg (idC x)).cells.toList = (idC x).toList := rfl
    rw [this, hl]; rfl
  inj := fun a b h => by injection h with h; exact idC_inj h
theorem cellsRow : Try.prog.cellsOf 120 = 33 := by kernel_rfl
theorem rowRow : 120 < Try.prog.types.size := of_decide_eq_true (by kernel_rfl)
theorem cellsStr : Try.prog.cellsOf 9 = 1 := by kernel_rfl
theorem keyLits_row (d : Nat) {x : BRow} (h : x.val.size ≤ maxLen) : ∃ l, Try.prog.keyLits (d + 3) 120 (bRowC x).toList = some l := by
  obtain ⟨l1, h1⟩ := keyLits_id d x.tag
  obtain ⟨l2, h2⟩ := keyLits_str (d + 1) h
  have e1 : ((bRowC x).toList.drop 0).take 32 = (idC x.tag).toList := by simp [bRowC]
  have e2 : ((bRowC x).toList.drop 32).take 1 = [.string x.val] := by simp [bRowC]
  refine Option.isSome_iff_exists.1 ?_
  unfold Program.keyLits
  simp only [Try.underlying120]
  rw [if_pos ⟨by rw [cellsRow]; simp, by kernel_rfl⟩]
  simp only [List.mapM_cons, List.mapM_nil, cellsId, cellsStr, e1, e2, h1, h2]
  rfl
def rowV (x : BRow) : Value := .agg (bRowC x)
theorem rowKey : KeyEnc Try.prog 120 rowV (fun x => x.val.size ≤ maxLen) where
  law := deep_law_laid Try.laidOut (m := 3) (by omega) rowRow (by kernel_rfl) (by rw [Try.underlying120])
  key := fun x hx => by
    obtain ⟨d, hd⟩ : ∃ d, Try.prog.types.size + 1 = d + 3 := ⟨Try.prog.types.size - 2, by have := size3; omega⟩
    obtain ⟨l, hl⟩ := keyLits_row d hx
    refine ⟨.string (keyBytes l), ?_⟩
    unfold keyOf
    simp only [Try.underlying120]
    have hkt : Try.prog.keyType 120 = true := by kernel_rfl
    have hf : (rowV x).formed Try.prog 120 = true := by simp [rowV, Value.formed, Try.underlying120, cellsRow]
    rw [hkt, hf, hd]
    simp only [Bool.and_self, if_true]
    have : (rowV x).cells.toList = (bRowC x).toList := rfl
    rw [this, hl]; rfl
  inj := fun a b h => by unfold rowV at h; injection h with h; exact bRowC_inj h

end Go.Proofs.Ytlonihfhgfmplaa
