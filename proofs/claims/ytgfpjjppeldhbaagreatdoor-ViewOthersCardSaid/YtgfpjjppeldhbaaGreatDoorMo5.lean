/- Part 5 of the texts that lead to this claim: the walks of the functions and the plain law, in order. -/
import Derived.Test.YtgfpjjppeldhbaaGreatDoorMo4

/- Operations read: op.take. -/
namespace Go.Proofs.YtgfpjjppeldhbaaGreatDoor
open Go.RowKit

structure OpP where
  k : Int
  n : Int
  key : ByteArray
  val : ByteArray
  ref : Id32
  refs : Value
/-- Its cells. -/
def opPC (x : OpP) : Array Value := #[.int .i64 x.k] ++ #[.int .i64 x.n] ++ #[.string x.key] ++ #[.string x.val] ++ idC x.ref ++ #[x.refs]
@[simp] theorem opPC_size (x : OpP) : (opPC x).size = 37 := by simp [opPC]
@[go_sem] theorem opPC_g0 (x : OpP) : (opPC x)[0]? = some (.int .i64 x.k) := by first | (simp [opPC, Array.getElem?_append]; done) | (rw [show opPC x = ((#[] : Array Value)) ++ #[.int .i64 x.k] ++ (#[.int .i64 x.n] ++ #[.string x.key] ++ #[.string x.val] ++ idC x.ref ++ #[x.refs]) from by apply Array.ext'; simp [opPC]]; exact arr_at _ _ _ _ (by simp))
@[go_sem] theorem opPC_gg0 (x : OpP) (h : 0 < (opPC x).size) : (opPC x)[0]'h = .int .i64 x.k := Option.some.inj ((Array.getElem?_eq_getElem h).symm.trans (opPC_g0 x))
@[go_sem] theorem opPC_g1 (x : OpP) : (opPC x)[1]? = some (.int .i64 x.n) := by first | (simp [opPC, Array.getElem?_append]; done) | (rw [show opPC x = (#[.int .i64 x.k]) ++ #[.int .i64 x.n] ++ (#[.string x.key] ++ #[.string x.val] ++ idC x.ref ++ #[x.refs]) from by apply Array.ext'; simp [opPC]]; exact arr_at _ _ _ _ (by simp))
@[go_sem] theorem opPC_gg1 (x : OpP) (h : 1 < (opPC x).size) : (opPC x)[1]'h = .int .i64 x.n := Option.some.inj ((Array.getElem?_eq_getElem h).symm.trans (opPC_g1 x))
@[go_sem] theorem opPC_g2 (x : OpP) : (opPC x)[2]? = some (.string x.key) := by first | (simp [opPC, Array.getElem?_append]; done) | (rw [show opPC x = (#[.int .i64 x.k] ++ #[.int .i64 x.n]) ++ #[.string x.key] ++ (#[.string x.val] ++ idC x.ref ++ #[x.refs]) from by apply Array.ext'; simp [opPC]]; exact arr_at _ _ _ _ (by simp))
@[go_sem] theorem opPC_gg2 (x : OpP) (h : 2 < (opPC x).size) : (opPC x)[2]'h = .string x.key := Option.some.inj ((Array.getElem?_eq_getElem h).symm.trans (opPC_g2 x))
@[go_sem] theorem opPC_g3 (x : OpP) : (opPC x)[3]? = some (.string x.val) := by first | (simp [opPC, Array.getElem?_append]; done) | (rw [show opPC x = (#[.int .i64 x.k] ++ #[.int .i64 x.n] ++ #[.string x.key]) ++ #[.string x.val] ++ (idC x.ref ++ #[x.refs]) from by apply Array.ext'; simp [opPC]]; exact arr_at _ _ _ _ (by simp))
@[go_sem] theorem opPC_gg3 (x : OpP) (h : 3 < (opPC x).size) : (opPC x)[3]'h = .string x.val := Option.some.inj ((Array.getElem?_eq_getElem h).symm.trans (opPC_g3 x))
@[go_sem] theorem opPC_e4 (x : OpP) : (opPC x).extract 4 36 = idC x.ref := by
  have h : opPC x = (#[.int .i64 x.k] ++ #[.int .i64 x.n] ++ #[.string x.key] ++ #[.string x.val]) ++ idC x.ref ++ (#[x.refs]) := by first | (simp [opPC, Array.append_assoc]; done) | (apply Array.ext'; simp [opPC]; done)
  rw [h]; exact arr_mid _ _ _ _ _ (by simp) (by simp)
@[go_sem] theorem opPC_g36 (x : OpP) : (opPC x)[36]? = some (x.refs) := by first | (simp [opPC, Array.getElem?_append]; done) | (rw [show opPC x = (#[.int .i64 x.k] ++ #[.int .i64 x.n] ++ #[.string x.key] ++ #[.string x.val] ++ idC x.ref) ++ #[x.refs] ++ ((#[] : Array Value)) from by apply Array.ext'; simp [opPC]]; exact arr_at _ _ _ _ (by simp))
@[go_sem] theorem opPC_gg36 (x : OpP) (h : 36 < (opPC x).size) : (opPC x)[36]'h = x.refs := Option.some.inj ((Array.getElem?_eq_getElem h).symm.trans (opPC_g36 x))
@[go_sem] theorem opPC_all (x : OpP) : (opPC x).extract 0 37 = opPC x := by have := Array.extract_size (xs := opPC x); rwa [opPC_size] at this
theorem opPC_inj {x y : OpP} (h : opPC x = opPC y) : x = y := by
  have h0 := congrArg (fun a => a[0]?) h
  simp only [opPC_g0, Option.some.injEq, Value.int.injEq, true_and] at h0
  have h1 := congrArg (fun a => a[1]?) h
  simp only [opPC_g1, Option.some.injEq, Value.int.injEq, true_and] at h1
  have h2 := congrArg (fun a => a[2]?) h
  simp only [opPC_g2, Option.some.injEq, Value.string.injEq] at h2
  have h3 := congrArg (fun a => a[3]?) h
  simp only [opPC_g3, Option.some.injEq, Value.string.injEq] at h3
  have h4 := congrArg (fun a => a.extract 4 36) h
  simp only [opPC_e4] at h4
  have h4 := idC_inj h4
  have h5 := congrArg (fun a => a[36]?) h
  simp only [opPC_g36, Option.some.injEq] at h5
  cases x; cases y; simp_all
theorem opPC_one (x : OpP) (hrefs : x.refs.oneCell' = true) : ∀ u ∈ (opPC x).toList, u.oneCell' = true := by
  intro u hu
  simp only [opPC, Array.toList_append, List.mem_append] at hu
  rcases hu with ((((hu | hu) | hu) | hu) | hu) | hu
  · simp at hu; subst hu; rfl
  · simp at hu; subst hu; rfl
  · simp at hu; subst hu; rfl
  · simp at hu; subst hu; rfl
  · exact idC_one _ u hu
  · simp at hu; subst hu; exact hrefs
def opP0 : OpP := ⟨0, 0, ⟨#[]⟩, ⟨#[]⟩, id0, (.slice none 0 0)⟩
theorem infoOpP : (Tryz.prog.info? 52).map (·.size) = some 37 := by kernel_rfl
@[go_sem ↓] theorem zeroOpP_run (w : World) : (zeroValue 52).run Tryz.prog w = .ok (.agg (opPC opP0)) w := by
  have h : (Tryz.prog.info? 52).bind (·.zero) = some (.agg (opPC opP0)) := by kernel_rfl
  cases hi : Tryz.prog.info? 52 with
  | none => rw [hi] at h; cases h
  | some i =>
    rw [hi] at h
    have hz : i.zero = some (.agg (opPC opP0)) := h
    simp [zeroValue, typeInfo, hi, hz]
@[go_sem ↓] theorem loadOpP_rw (a : Addr) : loadVar 52 a = ldS 52 a := rfl
@[go_sem ↓] theorem storeOpP_rw (a : Addr) (v : Value) : storeVar 52 a v = stS 52 a v := rfl
@[go_sem] theorem loadOpP_run (w : World) (g o : Nat) : (ldS 52 ⟨g, o, none⟩).run Tryz.prog w = match rowAt w g o 37 with | some cs => .ok (.agg cs) w | none => (loadVar 52 ⟨g, o, none⟩).run Tryz.prog w :=
  run_ldS Tryz.underlying52 rfl infoOpP w g o
@[go_sem] theorem storeOpP_run (w : World) (g : Nat) (hg : g = w.heap.size) (z : Array Value) (hz : z.size = 37) (x : OpP) (hrefs : x.refs.oneCell' = true) (e : TypeId) : (stS 52 ⟨g, 0, none⟩ (.agg (opPC x))).run Tryz.prog (w.alloc (.cells z e)) = .ok () (w.alloc (.cells (opPC x) e)) :=
  hg ▸ run_stS_new infoOpP w z (opPC x) hz (opPC_size x) (opPC_one x hrefs)
theorem fieldsOpP : Tryz.prog.underlying 52 = some (.struct (Tryz.prog.fieldsOf 52)) := by kernel_rfl
theorem placesOpP (w : World) : ((Tryz.prog.fieldsOf 52).mapM fun (f : Field) => do pure (f.offset, ← sizeOf f.type)).run Tryz.prog w = .ok #[(0, 1), (1, 1), (2, 1), (3, 1), (4, 32), (36, 1)] w := by kernel_rfl
@[go_sem ↓] theorem buildOpP_rw (parts : Array (Nat × Value)) : Instr.build 52 parts = bdS 52 parts := rfl
@[go_sem ↓] theorem fieldOpP_0 (x : OpP) (w : World) : (Instr.field 52 (.agg (opPC x)) 0).run Tryz.prog w = .ok (.int .i64 x.k) w := by
  unfold Instr.field
  simp only [Sem.run_bind, run_underlying Tryz.underlying52, Result.andThen_ok, part, asAgg, isAgg]
  simp [go_sem]
@[go_sem ↓] theorem fieldOpP_1 (x : OpP) (w : World) : (Instr.field 52 (.agg (opPC x)) 1).run Tryz.prog w = .ok (.int .i64 x.n) w := by
  unfold Instr.field
  simp only [Sem.run_bind, run_underlying Tryz.underlying52, Result.andThen_ok, part, asAgg, isAgg]
  simp [go_sem]
@[go_sem ↓] theorem fieldOpP_2 (x : OpP) (w : World) : (Instr.field 52 (.agg (opPC x)) 2).run Tryz.prog w = .ok (.string x.key) w := by
  unfold Instr.field
  simp only [Sem.run_bind, run_underlying Tryz.underlying52, Result.andThen_ok, part, asAgg, isAgg]
  simp [go_sem]
@[go_sem ↓] theorem fieldOpP_3 (x : OpP) (w : World) : (Instr.field 52 (.agg (opPC x)) 3).run Tryz.prog w = .ok (.string x.val) w := by
  unfold Instr.field
  simp only [Sem.run_bind, run_underlying Tryz.underlying52, Result.andThen_ok, part, asAgg, isAgg]
  simp [go_sem]
@[go_sem ↓] theorem fieldOpP_4 (x : OpP) (w : World) : (Instr.field 52 (.agg (opPC x)) 4).run Tryz.prog w = .ok (.agg (idC x.ref)) w := by
  unfold Instr.field
  simp only [Sem.run_bind, run_underlying Tryz.underlying52, Result.andThen_ok, part, asAgg, isAgg]
  simp [go_sem]
@[go_sem ↓] theorem fieldOpP_5 (x : OpP) (w : World) : (Instr.field 52 (.agg (opPC x)) 5).run Tryz.prog w = .ok (x.refs) w := by
  unfold Instr.field
  simp only [Sem.run_bind, run_underlying Tryz.underlying52, Result.andThen_ok, part, asAgg, isAgg]
  simp [go_sem]
@[go_sem] theorem buildOpP (a0 : Int) (a1 : Int) (a2 : ByteArray) (a3 : ByteArray) (a4 : Id32) (a5 : Value) (k5 : (a5).cells = #[a5]) (w : World) : (bdS 52 #[(0, .int .i64 a0), (1, .int .i64 a1), (2, .string a2), (3, .string a3), (4, .agg (idC a4)), (5, a5)]).run Tryz.prog w = .ok (.agg (opPC ⟨a0, a1, a2, a3, a4, a5⟩)) w := by
  refine run_build w fieldsOpP _ (zeroOpP_run w) _ (placesOpP w) [(0, .int .i64 a0), (1, .int .i64 a1), (2, .string a2), (3, .string a3), (4, .agg (idC a4)), (5, a5)] _ ?_
  rw [show opPC opP0 = (#[] : Array Value) ++ #[.int .i64 0] ++ (#[.int .i64 0] ++ (#[.string ⟨#[]⟩] ++ (#[.string ⟨#[]⟩] ++ (idC id0 ++ (#[(.slice none 0 0)]))))) from by first | (simp [opPC, opP0, Array.append_assoc]; done) | (apply Array.ext'; simp [opPC, opP0])]
  rw [fill_step (off := 0) (size := 1) rfl (by simp) (by simp) (by simp [Value.cells])]
  rw [show (#[] : Array Value) ++ (Value.int .i64 a0).cells ++ (#[.int .i64 0] ++ (#[.string ⟨#[]⟩] ++ (#[.string ⟨#[]⟩] ++ (idC id0 ++ (#[(.slice none 0 0)]))))) = (#[.int .i64 a0]) ++ #[.int .i64 0] ++ (#[.string ⟨#[]⟩] ++ (#[.string ⟨#[]⟩] ++ (idC id0 ++ (#[(.slice none 0 0)])))) from by first | (simp [k5, Array.append_assoc]; done) | (apply Array.ext'; simp [k5]; done) | (apply Array.ext'; simp only [Array.toList_append, k5]; simp [Value.cells])]
  rw [fill_step (off := 1) (size := 1) rfl (by simp) (by simp) (by simp [Value.cells])]
  rw [show (#[.int .i64 a0]) ++ (Value.int .i64 a1).cells ++ (#[.string ⟨#[]⟩] ++ (#[.string ⟨#[]⟩] ++ (idC id0 ++ (#[(.slice none 0 0)])))) = (#[.int .i64 a0] ++ (#[.int .i64 a1])) ++ #[.string ⟨#[]⟩] ++ (#[.string ⟨#[]⟩] ++ (idC id0 ++ (#[(.slice none 0 0)]))) from by first | (simp [k5, Array.append_assoc]; done) | (apply Array.ext'; simp [k5]; done) | (apply Array.ext'; simp only [Array.toList_append, k5]; simp [Value.cells])]
  rw [fill_step (off := 2) (size := 1) rfl (by simp) (by simp) (by simp [Value.cells])]
  rw [show (#[.int .i64 a0] ++ (#[.int .i64 a1])) ++ (Value.string a2).cells ++ (#[.string ⟨#[]⟩] ++ (idC id0 ++ (#[(.slice none 0 0)]))) = (#[.int .i64 a0] ++ (#[.int .i64 a1] ++ (#[.string a2]))) ++ #[.string ⟨#[]⟩] ++ (idC id0 ++ (#[(.slice none 0 0)])) from by first | (simp [k5, Array.append_assoc]; done) | (apply Array.ext'; simp [k5]; done) | (apply Array.ext'; simp only [Array.toList_append, k5]; simp [Value.cells])]
  rw [fill_step (off := 3) (size := 1) rfl (by simp) (by simp) (by simp [Value.cells])]
  rw [show (#[.int .i64 a0] ++ (#[.int .i64 a1] ++ (#[.string a2]))) ++ (Value.string a3).cells ++ (idC id0 ++ (#[(.slice none 0 0)])) = (#[.int .i64 a0] ++ (#[.int .i64 a1] ++ (#[.string a2] ++ (#[.string a3])))) ++ idC id0 ++ (#[(.slice none 0 0)]) from by first | (simp [k5, Array.append_assoc]; done) | (apply Array.ext'; simp [k5]; done) | (apply Array.ext'; simp only [Array.toList_append, k5]; simp [Value.cells])]
  rw [fill_step (off := 4) (size := 32) rfl (by simp) (by simp) (by simp [Value.cells])]
  rw [show (#[.int .i64 a0] ++ (#[.int .i64 a1] ++ (#[.string a2] ++ (#[.string a3])))) ++ (Value.agg (idC a4)).cells ++ (#[(.slice none 0 0)]) = (#[.int .i64 a0] ++ (#[.int .i64 a1] ++ (#[.string a2] ++ (#[.string a3] ++ (idC a4))))) ++ #[(.slice none 0 0)] ++ (#[] : Array Value) from by first | (simp [k5, Array.append_assoc]; done) | (apply Array.ext'; simp [k5]; done) | (apply Array.ext'; simp only [Array.toList_append, k5]; simp [Value.cells])]
  rw [fill_step (off := 36) (size := 1) rfl (by simp) (by simp) (by simp [k5])]
  first | (simp [Instr.fill, opPC, Array.append_assoc, Value.cells]; done) | (simp only [Instr.fill, opPC, k5]; congr 1; apply Array.ext'; simp [Value.cells, k5]; done) | (simp only [Instr.fill, opPC, k5]; congr 1; done) | (simp only [Instr.fill, opPC, k5]; done)

@[go_sem] theorem buildOpP_e (w : World) : (bdS 52 #[]).run Tryz.prog w = .ok (.agg (opPC opP0)) w := by kernel_rfl
@[go_sem] theorem buildOpP_k (a0 : Int) (w : World) : (bdS 52 #[(0, .int .i64 a0)]).run Tryz.prog w = .ok (.agg (opPC ⟨a0, 0, ⟨#[]⟩, ⟨#[]⟩, id0, .slice none 0 0⟩)) w := by kernel_rfl
@[go_sem] theorem buildOpP_kn (a0 a1 : Int) (w : World) : (bdS 52 #[(0, .int .i64 a0), (1, .int .i64 a1)]).run Tryz.prog w = .ok (.agg (opPC ⟨a0, a1, ⟨#[]⟩, ⟨#[]⟩, id0, .slice none 0 0⟩)) w := by kernel_rfl
def opC (o : OpV) (A : Option Addr) (c : Nat) : Array Value := opPC ⟨o.k, o.n, o.key, o.val, o.ref, .slice A o.refs.length c⟩
set_option maxRecDepth 100000 in
theorem opPC_set1 (k n n' : Int) (key val : ByteArray) (d : Id32) (R : Value) : (opPC ⟨k, n, key, val, d, R⟩).setIfInBounds 1 (.int .i64 n') = opPC ⟨k, n', key, val, d, R⟩ := by apply Array.ext'; simp [opPC]
set_option maxRecDepth 100000 in
theorem opPC_set2 (k n : Int) (key key' val : ByteArray) (d : Id32) (R : Value) : (opPC ⟨k, n, key, val, d, R⟩).setIfInBounds 2 (.string key') = opPC ⟨k, n, key', val, d, R⟩ := by apply Array.ext'; simp [opPC]
set_option maxRecDepth 100000 in
theorem opPC_set3 (k n : Int) (key val val' : ByteArray) (d : Id32) (R : Value) : (opPC ⟨k, n, key, val, d, R⟩).setIfInBounds 3 (.string val') = opPC ⟨k, n, key, val', d, R⟩ := by apply Array.ext'; simp [opPC]
set_option maxRecDepth 100000 in
theorem opPC_set36 (k n : Int) (key val : ByteArray) (d : Id32) (R R' : Value) : (opPC ⟨k, n, key, val, d, R⟩).setIfInBounds 36 R' = opPC ⟨k, n, key, val, d, R'⟩ := by apply Array.ext'; simp [opPC]
theorem opPC_set4 (k n : Int) (key val : ByteArray) (d d' : Id32) (R : Value) : ((opPC ⟨k, n, key, val, d, R⟩).toList.take (4 + 0) ++ (idC d').toList ++ (opPC ⟨k, n, key, val, d, R⟩).toList.drop (4 + 0 + (idC d').toList.length)).toArray = opPC ⟨k, n, key, val, d', R⟩ := by
  apply Array.ext'
  have h1 : (idC d').toList.length = 32 := by simp
  have h2 : (idC d).toList.length = 32 := by simp
  rw [h1]
  have e : (opPC ⟨k, n, key, val, d, R⟩).toList = [.int .i64 k, .int .i64 n, .string key, .string val] ++ ((idC d).toList ++ [R]) := by simp [opPC]
  have e' : (opPC ⟨k, n, key, val, d', R⟩).toList = [.int .i64 k, .int .i64 n, .string key, .string val] ++ ((idC d').toList ++ [R]) := by simp [opPC]
  rw [e, e']
  simp [List.drop_append, h2]
/-- An id stored into an operation's box. -/
theorem store_ref {w : World} {g : Nat} {k n : Int} {key val : ByteArray} {d : Id32} {R : Value} (d' : Id32) (h : w.heap[g]? = some (.cells (opPC ⟨k, n, key, val, d, R⟩) 52 (0, 0))) :
    (stS 39 ⟨g, 4, none⟩ (.agg (idC d'))).run Tryz.prog w = .ok () (w.setRow g (opPC ⟨k, n, key, val, d', R⟩)) := by
  have hst := run_storeCells_at Tryz.prog g 4 52 (idC d').toList 0 (opPC ⟨k, n, key, val, d, R⟩) w h (by simp) (idC_one d')
  rw [opPC_set4] at hst
  unfold stS storeVar
  have hi := infoId
  cases hinfo : Tryz.prog.info? 39 with
  | none => rw [hinfo] at hi; cases hi
  | some i =>
    rw [hinfo] at hi
    have hk : i.size = 32 := by simpa using hi
    simp [Value.cells, sizeOf, typeInfo, hinfo, hk]
    simpa using hst

@[go_sem] theorem storeOpA_run (w : World) (g : Nat) (hg : g = w.heap.size) (z : Array Value) (hz : z.size = 37) (k n : Int) (key val : ByteArray) (d : Id32) (A : Option Addr) (m c : Nat) (e : TypeId) : (stS 52 ⟨g, 0, none⟩ (.agg (opPC ⟨k, n, key, val, d, .slice A m c⟩))).run Tryz.prog (w.alloc (.cells z e)) = .ok () (w.alloc (.cells (opPC ⟨k, n, key, val, d, .slice A m c⟩) e)) := storeOpP_run w g hg z hz _ rfl e

theorem op_shift (k : Int) (w : World) : Calls Tryz.prog 206 #[.int .i64 k] w fun e w' => e = .returned (.int .i64 (if k = 1 then 2147483648 else 0)) ∧ w = w' := by
  by_cases h : k = 1
  · subst h
    go_enter Tryz.func206, Tryz.ntmps206
    go_wp2_with fail
    go_ret
    exact ⟨rfl, rfl⟩
  · have hb : (k == 1) = false := by simpa using h
    have Hk := Lib.hid h
    clear h
    go_enter Tryz.func206, Tryz.ntmps206
    go_wp2_with fail
    go_ret
    exact ⟨ret_int (by simp [Hk.out]), rfl⟩

set_option maxRecDepth 100000 in
set_option maxHeartbeats 2000000 in
theorem take_1 (w : World) (g : Nat) (l : List UInt8) (e : Int) (h : RdAt w g l e) (hp : PartsVar w) :
    Calls Tryz.prog 134 #[.pointer (some ⟨g, 0, none⟩), .int .i64 1] w fun en w' => en = .returned (.agg (opC (takeO 1 l e).o none 0)) ∧ RdAt w' g (takeO 1 l e).l (takeO 1 l e).e ∧ Keep [g] w w' := by
  have hg2 : ((w.alloc (.cells (opPC opP0) 52)).alloc (.cells (opPC ⟨1, 0, ⟨#[]⟩, ⟨#[]⟩, id0, .slice none 0 0⟩) 52)).heap[w.heap.size]? = some (.cells (opPC opP0) 52 (0, 0)) := by
    rw [Below.heap_alloc _ _ _ (by simp)]; exact heap_alloc_new w _
  have hg3 : ((w.alloc (.cells (opPC opP0) 52)).alloc (.cells (opPC ⟨1, 0, ⟨#[]⟩, ⟨#[]⟩, id0, .slice none 0 0⟩) 52)).heap[w.heap.size + 1]? = some (.cells (opPC ⟨1, 0, ⟨#[]⟩, ⟨#[]⟩, id0, .slice none 0 0⟩) 52 (0, 0)) := by
    have := heap_alloc_new (w.alloc (.cells (opPC opP0) 52)) (.cells (opPC ⟨1, 0, ⟨#[]⟩, ⟨#[]⟩, id0, .slice none 0 0⟩) 52)
    simpa using this
  have hb0 : Below w.heap.size w ((w.alloc (.cells (opPC opP0) 52)).alloc (.cells (opPC ⟨1, 0, ⟨#[]⟩, ⟨#[]⟩, id0, .slice none 0 0⟩) 52)) := ((Below.refl _ _).alloc (Nat.le_refl _) _).alloc (by simp) _
  have hof := op_of 1 _ (hp.below hb0) (by omega)
  rw [show partN 1 = 1 from rfl] at hof
  have hE := h.below hb0
  have hgl := h.lt
  go_enter Tryz.func134, Tryz.ntmps134
  go_upto_region 2 with fail
  obtain ⟨ga, hga⟩ : ∃ ga, w.heap.size = ga := ⟨_, rfl⟩
  have Hga := Lib.hid hga
  obtain ⟨W, hW⟩ : ∃ W, W = ((w.alloc (.cells (opPC opP0) 52)).alloc (.cells (opPC ⟨1, 0, ⟨#[]⟩, ⟨#[]⟩, id0, .slice none 0 0⟩) 52)) := ⟨_, rfl⟩
  rw [← hW] at hb0 hg2 hg3 hE hof ⊢
  rw [hga] at hg2 hg3 hgl ⊢
  clear hW h hp hga
  have hK0 : Keep [g, ga + 1] w W := (Keep.of_below hb0).mono (by simp)
  have hngb : g ∉ [ga + 1] := by simp; omega
  have hnga : ga ∉ [g, ga + 1] := by simp; omega
  have hngc : ga + 1 ∉ [g] := by simp; omega
  have hgal : ga + 1 < W.heap.size := (Array.getElem?_eq_some_iff.1 hg3).1
  go_wp2_with fail
  refine hof.mono ?_; rintro en w1 ⟨rfl, rfl⟩
  clear hof
  go_wp2_with fail
  refine (rd_num4 _ g _ _ hE).mono ?_; rintro en w3 ⟨rfl, hE3, hk23⟩
  have hn4 := numV_lt 4 (l) (e)
  obtain ⟨nv, hnv⟩ : ∃ nv, numV 4 (l) (e) = nv := ⟨_, rfl⟩
  rw [hnv] at hn4 ⊢
  have Hnv := Lib.hid hnv
  clear hnv
  have hn5 : nv < 4294967296 := by simpa using hn4
  have h83 := (hk23.block (ga + 1) hgal hngc).trans hg3
  have hc83 : ∀ j, w3.frozen? ⟨ga + 1, j, none⟩ = false := fun j => by simp [World.frozen?, h83]
  have x0 : w3.cell? ⟨ga + 1, 1, none⟩ = some (.int .i64 0) := by rw [cell_of_row w3 (ga + 1) _ _ _ _ h83]; simp [go_sem]
  have f0 := hc83 1
  have hg3n := heap_setCell_same h83 1 (.int .i64 ((nv : Int) - 2147483648))
  rw [opPC_set1] at hg3n
  have hks := Keep.setCell w3 ⟨ga + 1, 1, none⟩ (.int .i64 ((nv : Int) - 2147483648))
  have hEn := RdAt.kept hE3 hks hngb
  have hg2n := ((Keep.trans (hk23.mono (S' := [g, ga + 1]) (by simp)) (hks.mono (S' := [g, ga + 1]) (by simp)) (fun x hx => .inl hx)).block ga (by omega) hnga).trans hg2
  have hK0n : Keep [g, ga + 1] w (w3.setCell ⟨ga + 1, 1, none⟩ (.int .i64 ((nv : Int) - 2147483648))) := Keep.trans (Keep.trans hK0 (hk23.mono (S' := [g, ga + 1]) (by simp)) (fun x hx => .inl hx)) (hks.mono (S' := [g, ga + 1]) (by simp)) (fun x hx => .inl hx)
  have hszn : W.heap.size ≤ (w3.setCell ⟨ga + 1, 1, none⟩ (.int .i64 ((nv : Int) - 2147483648))).heap.size := Nat.le_trans hk23.size hks.size
  clear hE hE3 hn4 hk23 hg3 hg2 h83 hc83 hks hK0
  go_wp2_with fail
  refine (op_shift _ _).mono ?_; rintro en w4 ⟨rfl, rfl⟩
  go_upto_region 11 with fail
  obtain ⟨W', hW'⟩ : ∃ W', W' = w3.setCell ⟨ga + 1, 1, none⟩ (.int .i64 ((nv : Int) - 2147483648)) := ⟨_, rfl⟩
  rw [← hW'] at hg3n hEn hg2n hK0n hszn ⊢
  clear hW' x0 f0 hn5
  have hgal' : ga + 1 < W'.heap.size := by omega
  clear hgal hszn
  obtain ⟨W, rfl⟩ : ∃ W : World, W = W' := ⟨_, rfl⟩
  have hgal := hgal'; have hE := hEn; have hg2 := hg2n; have hg3 := hg3n; have hK0 := hK0n
  clear hgal' hEn hg2n hg3n hK0n
  go_upto_region 16 with fail
  have hrow : rowAt W (ga + 1) 0 37 = some (opPC ⟨1, (nv : Int) - 2147483648, ⟨#[]⟩, ⟨#[]⟩, id0, .slice none 0 0⟩) := by unfold rowAt; rw [hg3]; simp [go_sem]
  have hsto := run_stS_at (P := Tryz.prog) infoOpP W ga (opPC opP0) (opPC ⟨1, (nv : Int) - 2147483648, ⟨#[]⟩, ⟨#[]⟩, id0, .slice none 0 0⟩) _ hg2 (by simp) (by simp) (opPC_one _ rfl)
  have hkf : Keep [ga] W (W.setRow ga (opPC ⟨1, (nv : Int) - 2147483648, ⟨#[]⟩, ⟨#[]⟩, id0, .slice none 0 0⟩)) := ⟨rfl, rfl, rfl, by simp [World.setRow], fun x _ hx => setRow_other W ga x _ (by simpa using hx)⟩
  have Hfin := Lib.hid (setRow_heap W ga _ (opPC ⟨1, (nv : Int) - 2147483648, ⟨#[]⟩, ⟨#[]⟩, id0, .slice none 0 0⟩) _ _ hg2)
  have hE4 := hE.kept hkf (by simp; omega)
  have hkw : Keep [g, ga, ga + 1] w (W.setRow ga (opPC ⟨1, (nv : Int) - 2147483648, ⟨#[]⟩, ⟨#[]⟩, id0, .slice none 0 0⟩)) := Keep.trans (hK0.mono (S' := [g, ga, ga + 1]) (by intro x hx; simp at hx ⊢; omega)) (hkf.mono (S' := [g, ga, ga + 1]) (by simp)) (fun x hx => .inl hx)
  have hkz : Keep [g] w (W.setRow ga (opPC ⟨1, (nv : Int) - 2147483648, ⟨#[]⟩, ⟨#[]⟩, id0, .slice none 0 0⟩)) := hkw.narrow (fun x hx => by have := Hga.out; simp at hx ⊢; omega)
  have HE4 := Lib.hid hE4; have Hkz := Lib.hid hkz
  clear hE4 hE hkw hkz hkf hg2 hg3 hb0 hK0
  go_wp2_with fail
  refine bodyPost_ret (results_cell_row Tryz.results134 _ _ ga 52 (opPC ⟨1, (nv : Int) - 2147483648, ⟨#[]⟩, ⟨#[]⟩, id0, .slice none 0 0⟩) (0, 0) _ rfl Hfin.out Tryz.underlying52 rfl (by rw [opPC_size]; exact infoOpP)) rfl ?_
  exact ⟨by rw [← Hnv.out]; rfl, HE4.out, Hkz.out⟩
set_option maxRecDepth 100000 in
set_option maxHeartbeats 2000000 in
theorem take_2 (w : World) (g : Nat) (l : List UInt8) (e : Int) (h : RdAt w g l e) (hp : PartsVar w) :
    Calls Tryz.prog 134 #[.pointer (some ⟨g, 0, none⟩), .int .i64 2] w fun en w' => en = .returned (.agg (opC (takeO 2 l e).o none 0)) ∧ RdAt w' g (takeO 2 l e).l (takeO 2 l e).e ∧ Keep [g] w w' := by
  have hg2 : ((w.alloc (.cells (opPC opP0) 52)).alloc (.cells (opPC ⟨2, 0, ⟨#[]⟩, ⟨#[]⟩, id0, .slice none 0 0⟩) 52)).heap[w.heap.size]? = some (.cells (opPC opP0) 52 (0, 0)) := by
    rw [Below.heap_alloc _ _ _ (by simp)]; exact heap_alloc_new w _
  have hg3 : ((w.alloc (.cells (opPC opP0) 52)).alloc (.cells (opPC ⟨2, 0, ⟨#[]⟩, ⟨#[]⟩, id0, .slice none 0 0⟩) 52)).heap[w.heap.size + 1]? = some (.cells (opPC ⟨2, 0, ⟨#[]⟩, ⟨#[]⟩, id0, .slice none 0 0⟩) 52 (0, 0)) := by
    have := heap_alloc_new (w.alloc (.cells (opPC opP0) 52)) (.cells (opPC ⟨2, 0, ⟨#[]⟩, ⟨#[]⟩, id0, .slice none 0 0⟩) 52)
    simpa using this
  have hb0 : Below w.heap.size w ((w.alloc (.cells (opPC opP0) 52)).alloc (.cells (opPC ⟨2, 0, ⟨#[]⟩, ⟨#[]⟩, id0, .slice none 0 0⟩) 52)) := ((Below.refl _ _).alloc (Nat.le_refl _) _).alloc (by simp) _
  have hof := op_of 2 _ (hp.below hb0) (by omega)
  rw [show partN 2 = 4 from rfl] at hof
  have hE := h.below hb0
  have hgl := h.lt
  go_enter Tryz.func134, Tryz.ntmps134
  go_upto_region 2 with fail
  obtain ⟨ga, hga⟩ : ∃ ga, w.heap.size = ga := ⟨_, rfl⟩
  have Hga := Lib.hid hga
  obtain ⟨W, hW⟩ : ∃ W, W = ((w.alloc (.cells (opPC opP0) 52)).alloc (.cells (opPC ⟨2, 0, ⟨#[]⟩, ⟨#[]⟩, id0, .slice none 0 0⟩) 52)) := ⟨_, rfl⟩
  rw [← hW] at hb0 hg2 hg3 hE hof ⊢
  rw [hga] at hg2 hg3 hgl ⊢
  clear hW h hp hga
  have hK0 : Keep [g, ga + 1] w W := (Keep.of_below hb0).mono (by simp)
  have hngb : g ∉ [ga + 1] := by simp; omega
  have hnga : ga ∉ [g, ga + 1] := by simp; omega
  have hngc : ga + 1 ∉ [g] := by simp; omega
  have hgal : ga + 1 < W.heap.size := (Array.getElem?_eq_some_iff.1 hg3).1
  go_wp2_with fail
  refine hof.mono ?_; rintro en w1 ⟨rfl, rfl⟩
  clear hof
  go_wp2_with fail
  refine (rd_num1 _ g _ _ hE).mono ?_; rintro en w2 ⟨rfl, hr2, hk2⟩
  have hn2 := numV_lt 1 (l) (e)
  go_wp2_with fail
  refine (rd_raw _ g _ _ _ hr2 (by omega)).mono ?_; rintro en w3 ⟨rfl, hE3, hk3⟩
  replace hE3 : RdAt w3 g (txL (l) (e)) (txE (l) (e)) := hE3
  obtain ⟨val, hkv⟩ : ∃ val, mkB (rawV (numV 1 (l) (e)) (rawL 1 (l) (e)) (rawE 1 (l) (e))) = val := ⟨_, rfl⟩
  have Hval := Lib.hid (show txV (l) (e) = val from hkv)
  rw [hkv]
  have hk23 : Keep [g] W w3 := Keep.trans hk2 hk3 (fun x hx => .inl hx)
  have h83 := (hk23.block (ga + 1) hgal hngc).trans hg3
  have hc83 : ∀ j, w3.frozen? ⟨ga + 1, j, none⟩ = false := fun j => by simp [World.frozen?, h83]
  have x0 : w3.cell? ⟨ga + 1, 3, none⟩ = some (.string ⟨#[]⟩) := by rw [cell_of_row w3 (ga + 1) _ _ _ _ h83]; simp [go_sem]
  have f0 := hc83 3
  have hg3n := heap_setCell_same h83 3 (.string val)
  rw [opPC_set3] at hg3n
  have hks := Keep.setCell w3 ⟨ga + 1, 3, none⟩ (.string val)
  have hEn := hE3.kept hks hngb
  have hg2n := ((Keep.trans (hk23.mono (S' := [g, ga + 1]) (by simp)) (hks.mono (S' := [g, ga + 1]) (by simp)) (fun x hx => .inl hx)).block ga (by omega) hnga).trans hg2
  have hK0n : Keep [g, ga + 1] w (w3.setCell ⟨ga + 1, 3, none⟩ (.string val)) := Keep.trans (Keep.trans hK0 (hk23.mono (S' := [g, ga + 1]) (by simp)) (fun x hx => .inl hx)) (hks.mono (S' := [g, ga + 1]) (by simp)) (fun x hx => .inl hx)
  have hszn : W.heap.size ≤ (w3.setCell ⟨ga + 1, 3, none⟩ (.string val)).heap.size := Nat.le_trans hk23.size hks.size
  clear hE hr2 hk2 hn2 hkv hE3 hk3 hk23 hg3 hg2 h83 hc83 hks hK0
  go_upto_region 9 with fail
  obtain ⟨W', hW'⟩ : ∃ W', W' = w3.setCell ⟨ga + 1, 3, none⟩ (.string val) := ⟨_, rfl⟩
  rw [← hW'] at hg3n hEn hg2n hK0n hszn ⊢
  clear hW' x0 f0
  have hgal' : ga + 1 < W'.heap.size := by omega
  clear hgal hszn
  obtain ⟨W, rfl⟩ : ∃ W : World, W = W' := ⟨_, rfl⟩
  have hgal := hgal'; have hE := hEn; have hg2 := hg2n; have hg3 := hg3n; have hK0 := hK0n
  clear hgal' hEn hg2n hg3n hK0n
  go_upto_region 16 with fail
  have hrow : rowAt W (ga + 1) 0 37 = some (opPC ⟨2, 0, ⟨#[]⟩, val, id0, .slice none 0 0⟩) := by unfold rowAt; rw [hg3]; simp [go_sem]
  have hsto := run_stS_at (P := Tryz.prog) infoOpP W ga (opPC opP0) (opPC ⟨2, 0, ⟨#[]⟩, val, id0, .slice none 0 0⟩) _ hg2 (by simp) (by simp) (opPC_one _ rfl)
  have hkf : Keep [ga] W (W.setRow ga (opPC ⟨2, 0, ⟨#[]⟩, val, id0, .slice none 0 0⟩)) := ⟨rfl, rfl, rfl, by simp [World.setRow], fun x _ hx => setRow_other W ga x _ (by simpa using hx)⟩
  have Hfin := Lib.hid (setRow_heap W ga _ (opPC ⟨2, 0, ⟨#[]⟩, val, id0, .slice none 0 0⟩) _ _ hg2)
  have hE4 := hE.kept hkf (by simp; omega)
  have hkw : Keep [g, ga, ga + 1] w (W.setRow ga (opPC ⟨2, 0, ⟨#[]⟩, val, id0, .slice none 0 0⟩)) := Keep.trans (hK0.mono (S' := [g, ga, ga + 1]) (by intro x hx; simp at hx ⊢; omega)) (hkf.mono (S' := [g, ga, ga + 1]) (by simp)) (fun x hx => .inl hx)
  have hkz : Keep [g] w (W.setRow ga (opPC ⟨2, 0, ⟨#[]⟩, val, id0, .slice none 0 0⟩)) := hkw.narrow (fun x hx => by have := Hga.out; simp at hx ⊢; omega)
  have HE4 := Lib.hid hE4; have Hkz := Lib.hid hkz
  clear hE4 hE hkw hkz hkf hg2 hg3 hb0 hK0
  go_wp2_with fail
  refine bodyPost_ret (results_cell_row Tryz.results134 _ _ ga 52 (opPC ⟨2, 0, ⟨#[]⟩, val, id0, .slice none 0 0⟩) (0, 0) _ rfl Hfin.out Tryz.underlying52 rfl (by rw [opPC_size]; exact infoOpP)) rfl ?_
  exact ⟨by rw [← Hval.out]; rfl, HE4.out, Hkz.out⟩
set_option maxRecDepth 100000 in
set_option maxHeartbeats 2000000 in
theorem take_4 (w : World) (g : Nat) (l : List UInt8) (e : Int) (h : RdAt w g l e) (hp : PartsVar w) :
    Calls Tryz.prog 134 #[.pointer (some ⟨g, 0, none⟩), .int .i64 4] w fun en w' => en = .returned (.agg (opC (takeO 4 l e).o none 0)) ∧ RdAt w' g (takeO 4 l e).l (takeO 4 l e).e ∧ Keep [g] w w' := by
  have hg2 : ((w.alloc (.cells (opPC opP0) 52)).alloc (.cells (opPC ⟨4, 0, ⟨#[]⟩, ⟨#[]⟩, id0, .slice none 0 0⟩) 52)).heap[w.heap.size]? = some (.cells (opPC opP0) 52 (0, 0)) := by
    rw [Below.heap_alloc _ _ _ (by simp)]; exact heap_alloc_new w _
  have hg3 : ((w.alloc (.cells (opPC opP0) 52)).alloc (.cells (opPC ⟨4, 0, ⟨#[]⟩, ⟨#[]⟩, id0, .slice none 0 0⟩) 52)).heap[w.heap.size + 1]? = some (.cells (opPC ⟨4, 0, ⟨#[]⟩, ⟨#[]⟩, id0, .slice none 0 0⟩) 52 (0, 0)) := by
    have := heap_alloc_new (w.alloc (.cells (opPC opP0) 52)) (.cells (opPC ⟨4, 0, ⟨#[]⟩, ⟨#[]⟩, id0, .slice none 0 0⟩) 52)
    simpa using this
  have hb0 : Below w.heap.size w ((w.alloc (.cells (opPC opP0) 52)).alloc (.cells (opPC ⟨4, 0, ⟨#[]⟩, ⟨#[]⟩, id0, .slice none 0 0⟩) 52)) := ((Below.refl _ _).alloc (Nat.le_refl _) _).alloc (by simp) _
  have hof := op_of 4 _ (hp.below hb0) (by omega)
  rw [show partN 4 = 7 from rfl] at hof
  have hE := h.below hb0
  have hgl := h.lt
  go_enter Tryz.func134, Tryz.ntmps134
  go_upto_region 2 with fail
  obtain ⟨ga, hga⟩ : ∃ ga, w.heap.size = ga := ⟨_, rfl⟩
  have Hga := Lib.hid hga
  obtain ⟨W, hW⟩ : ∃ W, W = ((w.alloc (.cells (opPC opP0) 52)).alloc (.cells (opPC ⟨4, 0, ⟨#[]⟩, ⟨#[]⟩, id0, .slice none 0 0⟩) 52)) := ⟨_, rfl⟩
  rw [← hW] at hb0 hg2 hg3 hE hof ⊢
  rw [hga] at hg2 hg3 hgl ⊢
  clear hW h hp hga
  have hK0 : Keep [g, ga + 1] w W := (Keep.of_below hb0).mono (by simp)
  have hngb : g ∉ [ga + 1] := by simp; omega
  have hnga : ga ∉ [g, ga + 1] := by simp; omega
  have hngc : ga + 1 ∉ [g] := by simp; omega
  have hgal : ga + 1 < W.heap.size := (Array.getElem?_eq_some_iff.1 hg3).1
  go_wp2_with fail
  refine hof.mono ?_; rintro en w1 ⟨rfl, rfl⟩
  clear hof
  go_wp2_with fail
  refine (rd_num1 _ g _ _ hE).mono ?_; rintro en w2 ⟨rfl, hr2, hk2⟩
  have hn2 := numV_lt 1 (l) (e)
  go_wp2_with fail
  refine (rd_raw _ g _ _ _ hr2 (by omega)).mono ?_; rintro en w3 ⟨rfl, hE3, hk3⟩
  replace hE3 : RdAt w3 g (txL (l) (e)) (txE (l) (e)) := hE3
  obtain ⟨key, hkv⟩ : ∃ key, mkB (rawV (numV 1 (l) (e)) (rawL 1 (l) (e)) (rawE 1 (l) (e))) = key := ⟨_, rfl⟩
  have Hkey := Lib.hid (show txV (l) (e) = key from hkv)
  rw [hkv]
  have hk23 : Keep [g] W w3 := Keep.trans hk2 hk3 (fun x hx => .inl hx)
  have h83 := (hk23.block (ga + 1) hgal hngc).trans hg3
  have hc83 : ∀ j, w3.frozen? ⟨ga + 1, j, none⟩ = false := fun j => by simp [World.frozen?, h83]
  have x0 : w3.cell? ⟨ga + 1, 2, none⟩ = some (.string ⟨#[]⟩) := by rw [cell_of_row w3 (ga + 1) _ _ _ _ h83]; simp [go_sem]
  have f0 := hc83 2
  have hg3n := heap_setCell_same h83 2 (.string key)
  rw [opPC_set2] at hg3n
  have hks := Keep.setCell w3 ⟨ga + 1, 2, none⟩ (.string key)
  have hEn := hE3.kept hks hngb
  have hg2n := ((Keep.trans (hk23.mono (S' := [g, ga + 1]) (by simp)) (hks.mono (S' := [g, ga + 1]) (by simp)) (fun x hx => .inl hx)).block ga (by omega) hnga).trans hg2
  have hK0n : Keep [g, ga + 1] w (w3.setCell ⟨ga + 1, 2, none⟩ (.string key)) := Keep.trans (Keep.trans hK0 (hk23.mono (S' := [g, ga + 1]) (by simp)) (fun x hx => .inl hx)) (hks.mono (S' := [g, ga + 1]) (by simp)) (fun x hx => .inl hx)
  have hszn : W.heap.size ≤ (w3.setCell ⟨ga + 1, 2, none⟩ (.string key)).heap.size := Nat.le_trans hk23.size hks.size
  clear hE hr2 hk2 hn2 hkv hE3 hk3 hk23 hg3 hg2 h83 hc83 hks hK0
  go_upto_region 7 with fail
  obtain ⟨W', hW'⟩ : ∃ W', W' = w3.setCell ⟨ga + 1, 2, none⟩ (.string key) := ⟨_, rfl⟩
  rw [← hW'] at hg3n hEn hg2n hK0n hszn ⊢
  clear hW' x0 f0
  have hgal' : ga + 1 < W'.heap.size := by omega
  clear hgal hszn
  obtain ⟨W, rfl⟩ : ∃ W : World, W = W' := ⟨_, rfl⟩
  have hgal := hgal'; have hE := hEn; have hg2 := hg2n; have hg3 := hg3n; have hK0 := hK0n
  clear hgal' hEn hg2n hg3n hK0n
  go_wp2_with fail
  refine (rd_num1 _ g _ _ hE).mono ?_; rintro en w2 ⟨rfl, hr2, hk2⟩
  have hn2 := numV_lt 1 (txL l e) (txE l e)
  go_wp2_with fail
  refine (rd_raw _ g _ _ _ hr2 (by omega)).mono ?_; rintro en w3 ⟨rfl, hE3, hk3⟩
  replace hE3 : RdAt w3 g (txL (txL l e) (txE l e)) (txE (txL l e) (txE l e)) := hE3
  obtain ⟨val, hkv⟩ : ∃ val, mkB (rawV (numV 1 (txL l e) (txE l e)) (rawL 1 (txL l e) (txE l e)) (rawE 1 (txL l e) (txE l e))) = val := ⟨_, rfl⟩
  have Hval := Lib.hid (show txV (txL l e) (txE l e) = val from hkv)
  rw [hkv]
  have hk23 : Keep [g] W w3 := Keep.trans hk2 hk3 (fun x hx => .inl hx)
  have h83 := (hk23.block (ga + 1) hgal hngc).trans hg3
  have hc83 : ∀ j, w3.frozen? ⟨ga + 1, j, none⟩ = false := fun j => by simp [World.frozen?, h83]
  have x0 : w3.cell? ⟨ga + 1, 3, none⟩ = some (.string ⟨#[]⟩) := by rw [cell_of_row w3 (ga + 1) _ _ _ _ h83]; simp [go_sem]
  have f0 := hc83 3
  have hg3n := heap_setCell_same h83 3 (.string val)
  rw [opPC_set3] at hg3n
  have hks := Keep.setCell w3 ⟨ga + 1, 3, none⟩ (.string val)
  have hEn := hE3.kept hks hngb
  have hg2n := ((Keep.trans (hk23.mono (S' := [g, ga + 1]) (by simp)) (hks.mono (S' := [g, ga + 1]) (by simp)) (fun x hx => .inl hx)).block ga (by omega) hnga).trans hg2
  have hK0n : Keep [g, ga + 1] w (w3.setCell ⟨ga + 1, 3, none⟩ (.string val)) := Keep.trans (Keep.trans hK0 (hk23.mono (S' := [g, ga + 1]) (by simp)) (fun x hx => .inl hx)) (hks.mono (S' := [g, ga + 1]) (by simp)) (fun x hx => .inl hx)
  have hszn : W.heap.size ≤ (w3.setCell ⟨ga + 1, 3, none⟩ (.string val)).heap.size := Nat.le_trans hk23.size hks.size
  clear hE hr2 hk2 hn2 hkv hE3 hk3 hk23 hg3 hg2 h83 hc83 hks hK0
  go_upto_region 9 with fail
  obtain ⟨W', hW'⟩ : ∃ W', W' = w3.setCell ⟨ga + 1, 3, none⟩ (.string val) := ⟨_, rfl⟩
  rw [← hW'] at hg3n hEn hg2n hK0n hszn ⊢
  clear hW' x0 f0
  have hgal' : ga + 1 < W'.heap.size := by omega
  clear hgal hszn
  obtain ⟨W, rfl⟩ : ∃ W : World, W = W' := ⟨_, rfl⟩
  have hgal := hgal'; have hE := hEn; have hg2 := hg2n; have hg3 := hg3n; have hK0 := hK0n
  clear hgal' hEn hg2n hg3n hK0n
  go_wp2_with fail
  refine (rd_num4 _ g _ _ hE).mono ?_; rintro en w3 ⟨rfl, hE3, hk23⟩
  have hn4 := numV_lt 4 (txL (txL l e) (txE l e)) (txE (txL l e) (txE l e))
  obtain ⟨nv, hnv⟩ : ∃ nv, numV 4 (txL (txL l e) (txE l e)) (txE (txL l e) (txE l e)) = nv := ⟨_, rfl⟩
  rw [hnv] at hn4 ⊢
  have Hnv := Lib.hid hnv
  clear hnv
  have hn5 : nv < 4294967296 := by simpa using hn4
  have h83 := (hk23.block (ga + 1) hgal hngc).trans hg3
  have hc83 : ∀ j, w3.frozen? ⟨ga + 1, j, none⟩ = false := fun j => by simp [World.frozen?, h83]
  have x0 : w3.cell? ⟨ga + 1, 1, none⟩ = some (.int .i64 0) := by rw [cell_of_row w3 (ga + 1) _ _ _ _ h83]; simp [go_sem]
  have f0 := hc83 1
  have hg3n := heap_setCell_same h83 1 (.int .i64 ((nv : Int)))
  rw [opPC_set1] at hg3n
  have hks := Keep.setCell w3 ⟨ga + 1, 1, none⟩ (.int .i64 ((nv : Int)))
  have hEn := RdAt.kept hE3 hks hngb
  have hg2n := ((Keep.trans (hk23.mono (S' := [g, ga + 1]) (by simp)) (hks.mono (S' := [g, ga + 1]) (by simp)) (fun x hx => .inl hx)).block ga (by omega) hnga).trans hg2
  have hK0n : Keep [g, ga + 1] w (w3.setCell ⟨ga + 1, 1, none⟩ (.int .i64 ((nv : Int)))) := Keep.trans (Keep.trans hK0 (hk23.mono (S' := [g, ga + 1]) (by simp)) (fun x hx => .inl hx)) (hks.mono (S' := [g, ga + 1]) (by simp)) (fun x hx => .inl hx)
  have hszn : W.heap.size ≤ (w3.setCell ⟨ga + 1, 1, none⟩ (.int .i64 ((nv : Int)))).heap.size := Nat.le_trans hk23.size hks.size
  clear hE hE3 hn4 hk23 hg3 hg2 h83 hc83 hks hK0
  go_wp2_with fail
  refine (op_shift _ _).mono ?_; rintro en w4 ⟨rfl, rfl⟩
  go_upto_region 11 with fail
  obtain ⟨W', hW'⟩ : ∃ W', W' = w3.setCell ⟨ga + 1, 1, none⟩ (.int .i64 ((nv : Int))) := ⟨_, rfl⟩
  rw [← hW'] at hg3n hEn hg2n hK0n hszn ⊢
  clear hW' x0 f0 hn5
  have hgal' : ga + 1 < W'.heap.size := by omega
  clear hgal hszn
  obtain ⟨W, rfl⟩ : ∃ W : World, W = W' := ⟨_, rfl⟩
  have hgal := hgal'; have hE := hEn; have hg2 := hg2n; have hg3 := hg3n; have hK0 := hK0n
  clear hgal' hEn hg2n hg3n hK0n
  go_upto_region 16 with fail
  have hrow : rowAt W (ga + 1) 0 37 = some (opPC ⟨4, (nv : Int), key, val, id0, .slice none 0 0⟩) := by unfold rowAt; rw [hg3]; simp [go_sem]
  have hsto := run_stS_at (P := Tryz.prog) infoOpP W ga (opPC opP0) (opPC ⟨4, (nv : Int), key, val, id0, .slice none 0 0⟩) _ hg2 (by simp) (by simp) (opPC_one _ rfl)
  have hkf : Keep [ga] W (W.setRow ga (opPC ⟨4, (nv : Int), key, val, id0, .slice none 0 0⟩)) := ⟨rfl, rfl, rfl, by simp [World.setRow], fun x _ hx => setRow_other W ga x _ (by simpa using hx)⟩
  have Hfin := Lib.hid (setRow_heap W ga _ (opPC ⟨4, (nv : Int), key, val, id0, .slice none 0 0⟩) _ _ hg2)
  have hE4 := hE.kept hkf (by simp; omega)
  have hkw : Keep [g, ga, ga + 1] w (W.setRow ga (opPC ⟨4, (nv : Int), key, val, id0, .slice none 0 0⟩)) := Keep.trans (hK0.mono (S' := [g, ga, ga + 1]) (by intro x hx; simp at hx ⊢; omega)) (hkf.mono (S' := [g, ga, ga + 1]) (by simp)) (fun x hx => .inl hx)
  have hkz : Keep [g] w (W.setRow ga (opPC ⟨4, (nv : Int), key, val, id0, .slice none 0 0⟩)) := hkw.narrow (fun x hx => by have := Hga.out; simp at hx ⊢; omega)
  have HE4 := Lib.hid hE4; have Hkz := Lib.hid hkz
  clear hE4 hE hkw hkz hkf hg2 hg3 hb0 hK0
  go_wp2_with fail
  refine bodyPost_ret (results_cell_row Tryz.results134 _ _ ga 52 (opPC ⟨4, (nv : Int), key, val, id0, .slice none 0 0⟩) (0, 0) _ rfl Hfin.out Tryz.underlying52 rfl (by rw [opPC_size]; exact infoOpP)) rfl ?_
  exact ⟨by rw [← Hnv.out, ← Hval.out, ← Hkey.out]; rfl, HE4.out, Hkz.out⟩
set_option maxRecDepth 100000 in
set_option maxHeartbeats 2000000 in
theorem take_6 (w : World) (g : Nat) (l : List UInt8) (e : Int) (h : RdAt w g l e) (hp : PartsVar w) :
    Calls Tryz.prog 134 #[.pointer (some ⟨g, 0, none⟩), .int .i64 6] w fun en w' => en = .returned (.agg (opC (takeO 6 l e).o none 0)) ∧ RdAt w' g (takeO 6 l e).l (takeO 6 l e).e ∧ Keep [g] w w' := by
  have hg2 : ((w.alloc (.cells (opPC opP0) 52)).alloc (.cells (opPC ⟨6, 0, ⟨#[]⟩, ⟨#[]⟩, id0, .slice none 0 0⟩) 52)).heap[w.heap.size]? = some (.cells (opPC opP0) 52 (0, 0)) := by
    rw [Below.heap_alloc _ _ _ (by simp)]; exact heap_alloc_new w _
  have hg3 : ((w.alloc (.cells (opPC opP0) 52)).alloc (.cells (opPC ⟨6, 0, ⟨#[]⟩, ⟨#[]⟩, id0, .slice none 0 0⟩) 52)).heap[w.heap.size + 1]? = some (.cells (opPC ⟨6, 0, ⟨#[]⟩, ⟨#[]⟩, id0, .slice none 0 0⟩) 52 (0, 0)) := by
    have := heap_alloc_new (w.alloc (.cells (opPC opP0) 52)) (.cells (opPC ⟨6, 0, ⟨#[]⟩, ⟨#[]⟩, id0, .slice none 0 0⟩) 52)
    simpa using this
  have hb0 : Below w.heap.size w ((w.alloc (.cells (opPC opP0) 52)).alloc (.cells (opPC ⟨6, 0, ⟨#[]⟩, ⟨#[]⟩, id0, .slice none 0 0⟩) 52)) := ((Below.refl _ _).alloc (Nat.le_refl _) _).alloc (by simp) _
  have hof := op_of 6 _ (hp.below hb0) (by omega)
  rw [show partN 6 = 12 from rfl] at hof
  have hE := h.below hb0
  have hgl := h.lt
  go_enter Tryz.func134, Tryz.ntmps134
  go_upto_region 2 with fail
  obtain ⟨ga, hga⟩ : ∃ ga, w.heap.size = ga := ⟨_, rfl⟩
  have Hga := Lib.hid hga
  obtain ⟨W, hW⟩ : ∃ W, W = ((w.alloc (.cells (opPC opP0) 52)).alloc (.cells (opPC ⟨6, 0, ⟨#[]⟩, ⟨#[]⟩, id0, .slice none 0 0⟩) 52)) := ⟨_, rfl⟩
  rw [← hW] at hb0 hg2 hg3 hE hof ⊢
  rw [hga] at hg2 hg3 hgl ⊢
  clear hW h hp hga
  have hK0 : Keep [g, ga + 1] w W := (Keep.of_below hb0).mono (by simp)
  have hngb : g ∉ [ga + 1] := by simp; omega
  have hnga : ga ∉ [g, ga + 1] := by simp; omega
  have hngc : ga + 1 ∉ [g] := by simp; omega
  have hgal : ga + 1 < W.heap.size := (Array.getElem?_eq_some_iff.1 hg3).1
  go_wp2_with fail
  refine hof.mono ?_; rintro en w1 ⟨rfl, rfl⟩
  clear hof
  go_wp2_with fail
  refine (op_id _ g _ _ hE).mono ?_; rintro en w3 ⟨rfl, hE3, hk23⟩
  obtain ⟨d, hd⟩ : ∃ d, idOf (rawV 32 l e) = d := ⟨_, rfl⟩
  rw [hd]
  have Hd := Lib.hid hd
  clear hd
  have h83 := (hk23.block (ga + 1) hgal hngc).trans hg3
  have hst := store_ref d h83
  have hg3n := setRow_heap w3 (ga + 1) _ (opPC ⟨6, 0, ⟨#[]⟩, ⟨#[]⟩, d, .slice none 0 0⟩) _ _ h83
  have hks : Keep [ga + 1] w3 (w3.setRow (ga + 1) (opPC ⟨6, 0, ⟨#[]⟩, ⟨#[]⟩, d, .slice none 0 0⟩)) := ⟨rfl, rfl, rfl, by simp [World.setRow], fun x _ hx => setRow_other w3 (ga + 1) x _ (by simpa using hx)⟩
  have hEn := RdAt.kept hE3 hks hngb
  have hg2n := ((Keep.trans (hk23.mono (S' := [g, ga + 1]) (by simp)) (hks.mono (S' := [g, ga + 1]) (by simp)) (fun x hx => .inl hx)).block ga (by omega) hnga).trans hg2
  have hK0n : Keep [g, ga + 1] w (w3.setRow (ga + 1) (opPC ⟨6, 0, ⟨#[]⟩, ⟨#[]⟩, d, .slice none 0 0⟩)) := Keep.trans (Keep.trans hK0 (hk23.mono (S' := [g, ga + 1]) (by simp)) (fun x hx => .inl hx)) (hks.mono (S' := [g, ga + 1]) (by simp)) (fun x hx => .inl hx)
  have hszn : W.heap.size ≤ (w3.setRow (ga + 1) (opPC ⟨6, 0, ⟨#[]⟩, ⟨#[]⟩, d, .slice none 0 0⟩)).heap.size := Nat.le_trans hk23.size hks.size
  clear hE hE3 hk23 hg3 hg2 h83 hks hK0
  go_upto_region 5 with fail
  obtain ⟨W', hW'⟩ : ∃ W', W' = w3.setRow (ga + 1) (opPC ⟨6, 0, ⟨#[]⟩, ⟨#[]⟩, d, .slice none 0 0⟩) := ⟨_, rfl⟩
  rw [← hW'] at hg3n hEn hg2n hK0n hszn ⊢
  clear hW' hst
  have hgal' : ga + 1 < W'.heap.size := by omega
  clear hgal hszn
  obtain ⟨W, rfl⟩ : ∃ W : World, W = W' := ⟨_, rfl⟩
  have hgal := hgal'; have hE := hEn; have hg2 := hg2n; have hg3 := hg3n; have hK0 := hK0n
  clear hgal' hEn hg2n hg3n hK0n
  go_wp2_with fail
  refine (rd_num1 _ g _ _ hE).mono ?_; rintro en w2 ⟨rfl, hr2, hk2⟩
  have hn2 := numV_lt 1 (rawL 32 l e) (rawE 32 l e)
  go_wp2_with fail
  refine (rd_raw _ g _ _ _ hr2 (by omega)).mono ?_; rintro en w3 ⟨rfl, hE3, hk3⟩
  replace hE3 : RdAt w3 g (txL (rawL 32 l e) (rawE 32 l e)) (txE (rawL 32 l e) (rawE 32 l e)) := hE3
  obtain ⟨val, hkv⟩ : ∃ val, mkB (rawV (numV 1 (rawL 32 l e) (rawE 32 l e)) (rawL 1 (rawL 32 l e) (rawE 32 l e)) (rawE 1 (rawL 32 l e) (rawE 32 l e))) = val := ⟨_, rfl⟩
  have Hval := Lib.hid (show txV (rawL 32 l e) (rawE 32 l e) = val from hkv)
  rw [hkv]
  have hk23 : Keep [g] W w3 := Keep.trans hk2 hk3 (fun x hx => .inl hx)
  have h83 := (hk23.block (ga + 1) hgal hngc).trans hg3
  have hc83 : ∀ j, w3.frozen? ⟨ga + 1, j, none⟩ = false := fun j => by simp [World.frozen?, h83]
  have x0 : w3.cell? ⟨ga + 1, 3, none⟩ = some (.string ⟨#[]⟩) := by rw [cell_of_row w3 (ga + 1) _ _ _ _ h83]; simp [go_sem]
  have f0 := hc83 3
  have hg3n := heap_setCell_same h83 3 (.string val)
  rw [opPC_set3] at hg3n
  have hks := Keep.setCell w3 ⟨ga + 1, 3, none⟩ (.string val)
  have hEn := hE3.kept hks hngb
  have hg2n := ((Keep.trans (hk23.mono (S' := [g, ga + 1]) (by simp)) (hks.mono (S' := [g, ga + 1]) (by simp)) (fun x hx => .inl hx)).block ga (by omega) hnga).trans hg2
  have hK0n : Keep [g, ga + 1] w (w3.setCell ⟨ga + 1, 3, none⟩ (.string val)) := Keep.trans (Keep.trans hK0 (hk23.mono (S' := [g, ga + 1]) (by simp)) (fun x hx => .inl hx)) (hks.mono (S' := [g, ga + 1]) (by simp)) (fun x hx => .inl hx)
  have hszn : W.heap.size ≤ (w3.setCell ⟨ga + 1, 3, none⟩ (.string val)).heap.size := Nat.le_trans hk23.size hks.size
  clear hE hr2 hk2 hn2 hkv hE3 hk3 hk23 hg3 hg2 h83 hc83 hks hK0
  go_upto_region 9 with fail
  obtain ⟨W', hW'⟩ : ∃ W', W' = w3.setCell ⟨ga + 1, 3, none⟩ (.string val) := ⟨_, rfl⟩
  rw [← hW'] at hg3n hEn hg2n hK0n hszn ⊢
  clear hW' x0 f0
  have hgal' : ga + 1 < W'.heap.size := by omega
  clear hgal hszn
  obtain ⟨W, rfl⟩ : ∃ W : World, W = W' := ⟨_, rfl⟩
  have hgal := hgal'; have hE := hEn; have hg2 := hg2n; have hg3 := hg3n; have hK0 := hK0n
  clear hgal' hEn hg2n hg3n hK0n
  go_upto_region 16 with fail
  have hrow : rowAt W (ga + 1) 0 37 = some (opPC ⟨6, 0, ⟨#[]⟩, val, d, .slice none 0 0⟩) := by unfold rowAt; rw [hg3]; simp [go_sem]
  have hsto := run_stS_at (P := Tryz.prog) infoOpP W ga (opPC opP0) (opPC ⟨6, 0, ⟨#[]⟩, val, d, .slice none 0 0⟩) _ hg2 (by simp) (by simp) (opPC_one _ rfl)
  have hkf : Keep [ga] W (W.setRow ga (opPC ⟨6, 0, ⟨#[]⟩, val, d, .slice none 0 0⟩)) := ⟨rfl, rfl, rfl, by simp [World.setRow], fun x _ hx => setRow_other W ga x _ (by simpa using hx)⟩
  have Hfin := Lib.hid (setRow_heap W ga _ (opPC ⟨6, 0, ⟨#[]⟩, val, d, .slice none 0 0⟩) _ _ hg2)
  have hE4 := hE.kept hkf (by simp; omega)
  have hkw : Keep [g, ga, ga + 1] w (W.setRow ga (opPC ⟨6, 0, ⟨#[]⟩, val, d, .slice none 0 0⟩)) := Keep.trans (hK0.mono (S' := [g, ga, ga + 1]) (by intro x hx; simp at hx ⊢; omega)) (hkf.mono (S' := [g, ga, ga + 1]) (by simp)) (fun x hx => .inl hx)
  have hkz : Keep [g] w (W.setRow ga (opPC ⟨6, 0, ⟨#[]⟩, val, d, .slice none 0 0⟩)) := hkw.narrow (fun x hx => by have := Hga.out; simp at hx ⊢; omega)
  have HE4 := Lib.hid hE4; have Hkz := Lib.hid hkz
  clear hE4 hE hkw hkz hkf hg2 hg3 hb0 hK0
  go_wp2_with fail
  refine bodyPost_ret (results_cell_row Tryz.results134 _ _ ga 52 (opPC ⟨6, 0, ⟨#[]⟩, val, d, .slice none 0 0⟩) (0, 0) _ rfl Hfin.out Tryz.underlying52 rfl (by rw [opPC_size]; exact infoOpP)) rfl ?_
  exact ⟨by rw [← Hval.out, ← Hd.out]; rfl, HE4.out, Hkz.out⟩
set_option maxRecDepth 100000 in
set_option maxHeartbeats 2000000 in
theorem take_7 (w : World) (g : Nat) (l : List UInt8) (e : Int) (h : RdAt w g l e) (hp : PartsVar w) :
    Calls Tryz.prog 134 #[.pointer (some ⟨g, 0, none⟩), .int .i64 7] w fun en w' => en = .returned (.agg (opC (takeO 7 l e).o none 0)) ∧ RdAt w' g (takeO 7 l e).l (takeO 7 l e).e ∧ Keep [g] w w' := by
  have hg2 : ((w.alloc (.cells (opPC opP0) 52)).alloc (.cells (opPC ⟨7, 0, ⟨#[]⟩, ⟨#[]⟩, id0, .slice none 0 0⟩) 52)).heap[w.heap.size]? = some (.cells (opPC opP0) 52 (0, 0)) := by
    rw [Below.heap_alloc _ _ _ (by simp)]; exact heap_alloc_new w _
  have hg3 : ((w.alloc (.cells (opPC opP0) 52)).alloc (.cells (opPC ⟨7, 0, ⟨#[]⟩, ⟨#[]⟩, id0, .slice none 0 0⟩) 52)).heap[w.heap.size + 1]? = some (.cells (opPC ⟨7, 0, ⟨#[]⟩, ⟨#[]⟩, id0, .slice none 0 0⟩) 52 (0, 0)) := by
    have := heap_alloc_new (w.alloc (.cells (opPC opP0) 52)) (.cells (opPC ⟨7, 0, ⟨#[]⟩, ⟨#[]⟩, id0, .slice none 0 0⟩) 52)
    simpa using this
  have hb0 : Below w.heap.size w ((w.alloc (.cells (opPC opP0) 52)).alloc (.cells (opPC ⟨7, 0, ⟨#[]⟩, ⟨#[]⟩, id0, .slice none 0 0⟩) 52)) := ((Below.refl _ _).alloc (Nat.le_refl _) _).alloc (by simp) _
  have hof := op_of 7 _ (hp.below hb0) (by omega)
  rw [show partN 7 = 8 from rfl] at hof
  have hE := h.below hb0
  have hgl := h.lt
  go_enter Tryz.func134, Tryz.ntmps134
  go_upto_region 2 with fail
  obtain ⟨ga, hga⟩ : ∃ ga, w.heap.size = ga := ⟨_, rfl⟩
  have Hga := Lib.hid hga
  obtain ⟨W, hW⟩ : ∃ W, W = ((w.alloc (.cells (opPC opP0) 52)).alloc (.cells (opPC ⟨7, 0, ⟨#[]⟩, ⟨#[]⟩, id0, .slice none 0 0⟩) 52)) := ⟨_, rfl⟩
  rw [← hW] at hb0 hg2 hg3 hE hof ⊢
  rw [hga] at hg2 hg3 hgl ⊢
  clear hW h hp hga
  have hK0 : Keep [g, ga + 1] w W := (Keep.of_below hb0).mono (by simp)
  have hngb : g ∉ [ga + 1] := by simp; omega
  have hnga : ga ∉ [g, ga + 1] := by simp; omega
  have hngc : ga + 1 ∉ [g] := by simp; omega
  have hgal : ga + 1 < W.heap.size := (Array.getElem?_eq_some_iff.1 hg3).1
  go_wp2_with fail
  refine hof.mono ?_; rintro en w1 ⟨rfl, rfl⟩
  clear hof
  go_wp2_with fail
  refine (op_id _ g _ _ hE).mono ?_; rintro en w3 ⟨rfl, hE3, hk23⟩
  obtain ⟨d, hd⟩ : ∃ d, idOf (rawV 32 l e) = d := ⟨_, rfl⟩
  rw [hd]
  have Hd := Lib.hid hd
  clear hd
  have h83 := (hk23.block (ga + 1) hgal hngc).trans hg3
  have hst := store_ref d h83
  have hg3n := setRow_heap w3 (ga + 1) _ (opPC ⟨7, 0, ⟨#[]⟩, ⟨#[]⟩, d, .slice none 0 0⟩) _ _ h83
  have hks : Keep [ga + 1] w3 (w3.setRow (ga + 1) (opPC ⟨7, 0, ⟨#[]⟩, ⟨#[]⟩, d, .slice none 0 0⟩)) := ⟨rfl, rfl, rfl, by simp [World.setRow], fun x _ hx => setRow_other w3 (ga + 1) x _ (by simpa using hx)⟩
  have hEn := RdAt.kept hE3 hks hngb
  have hg2n := ((Keep.trans (hk23.mono (S' := [g, ga + 1]) (by simp)) (hks.mono (S' := [g, ga + 1]) (by simp)) (fun x hx => .inl hx)).block ga (by omega) hnga).trans hg2
  have hK0n : Keep [g, ga + 1] w (w3.setRow (ga + 1) (opPC ⟨7, 0, ⟨#[]⟩, ⟨#[]⟩, d, .slice none 0 0⟩)) := Keep.trans (Keep.trans hK0 (hk23.mono (S' := [g, ga + 1]) (by simp)) (fun x hx => .inl hx)) (hks.mono (S' := [g, ga + 1]) (by simp)) (fun x hx => .inl hx)
  have hszn : W.heap.size ≤ (w3.setRow (ga + 1) (opPC ⟨7, 0, ⟨#[]⟩, ⟨#[]⟩, d, .slice none 0 0⟩)).heap.size := Nat.le_trans hk23.size hks.size
  clear hE hE3 hk23 hg3 hg2 h83 hks hK0
  go_upto_region 5 with fail
  obtain ⟨W', hW'⟩ : ∃ W', W' = w3.setRow (ga + 1) (opPC ⟨7, 0, ⟨#[]⟩, ⟨#[]⟩, d, .slice none 0 0⟩) := ⟨_, rfl⟩
  rw [← hW'] at hg3n hEn hg2n hK0n hszn ⊢
  clear hW' hst
  have hgal' : ga + 1 < W'.heap.size := by omega
  clear hgal hszn
  obtain ⟨W, rfl⟩ : ∃ W : World, W = W' := ⟨_, rfl⟩
  have hgal := hgal'; have hE := hEn; have hg2 := hg2n; have hg3 := hg3n; have hK0 := hK0n
  clear hgal' hEn hg2n hg3n hK0n
  go_upto_region 16 with fail
  have hrow : rowAt W (ga + 1) 0 37 = some (opPC ⟨7, 0, ⟨#[]⟩, ⟨#[]⟩, d, .slice none 0 0⟩) := by unfold rowAt; rw [hg3]; simp [go_sem]
  have hsto := run_stS_at (P := Tryz.prog) infoOpP W ga (opPC opP0) (opPC ⟨7, 0, ⟨#[]⟩, ⟨#[]⟩, d, .slice none 0 0⟩) _ hg2 (by simp) (by simp) (opPC_one _ rfl)
  have hkf : Keep [ga] W (W.setRow ga (opPC ⟨7, 0, ⟨#[]⟩, ⟨#[]⟩, d, .slice none 0 0⟩)) := ⟨rfl, rfl, rfl, by simp [World.setRow], fun x _ hx => setRow_other W ga x _ (by simpa using hx)⟩
  have Hfin := Lib.hid (setRow_heap W ga _ (opPC ⟨7, 0, ⟨#[]⟩, ⟨#[]⟩, d, .slice none 0 0⟩) _ _ hg2)
  have hE4 := hE.kept hkf (by simp; omega)
  have hkw : Keep [g, ga, ga + 1] w (W.setRow ga (opPC ⟨7, 0, ⟨#[]⟩, ⟨#[]⟩, d, .slice none 0 0⟩)) := Keep.trans (hK0.mono (S' := [g, ga, ga + 1]) (by intro x hx; simp at hx ⊢; omega)) (hkf.mono (S' := [g, ga, ga + 1]) (by simp)) (fun x hx => .inl hx)
  have hkz : Keep [g] w (W.setRow ga (opPC ⟨7, 0, ⟨#[]⟩, ⟨#[]⟩, d, .slice none 0 0⟩)) := hkw.narrow (fun x hx => by have := Hga.out; simp at hx ⊢; omega)
  have HE4 := Lib.hid hE4; have Hkz := Lib.hid hkz
  clear hE4 hE hkw hkz hkf hg2 hg3 hb0 hK0
  go_wp2_with fail
  refine bodyPost_ret (results_cell_row Tryz.results134 _ _ ga 52 (opPC ⟨7, 0, ⟨#[]⟩, ⟨#[]⟩, d, .slice none 0 0⟩) (0, 0) _ rfl Hfin.out Tryz.underlying52 rfl (by rw [opPC_size]; exact infoOpP)) rfl ?_
  exact ⟨by rw [← Hd.out]; rfl, HE4.out, Hkz.out⟩

end Go.Proofs.YtgfpjjppeldhbaaGreatDoor

/- Slices of ids. No condition. -/
namespace Go.Proofs.YtgfpjjppeldhbaaGreatDoor
open Go.RowKit

theorem einfoId : ElemInfo Tryz.prog 50 39 32 32 :=
  .of (z := .agg (idC id0)) Tryz.underlying50 (by kernel_rfl) (by kernel_rfl) (by kernel_rfl) (idC_size _) (by omega)
@[go_sem ↓] theorem bsId_rw (n : Nat) (parts : Array (Nat × Value)) : Instr.buildSlice 50 n parts = bsS 50 n parts := rfl
@[go_sem] theorem bsId_run (w : World) (x : Id32) : (bsS 50 1 #[(0, .agg (idC x))]).run Tryz.prog w = .ok (.slice (some ⟨w.heap.size, 0, none⟩) 1 1) (w.alloc (.cells (idC x) 39)) :=
  run_bsS1 einfoId (by omega) w (idC x) (idC_size x)

abbrev TagsIn (w : World) (A : Option Addr) (n : Nat) (R : List Id32) : Prop := SlR w A n 32 (R.map idC)
theorem TagsIn.len {w : World} {A : Option Addr} {n : Nat} {R : List Id32} (h : TagsIn w A n R) : R.length = n := by simpa using h.1
theorem TagsIn.get {w : World} {A : Option Addr} {n : Nat} {R : List Id32} (h : TagsIn w A n R) {i : Nat} (hi : i < n) (hR : i < R.length) : ∃ g o, A = some ⟨g, o, none⟩ ∧ rowAt w g (o + i * 32) 32 = some (idC R[i]) := by
  obtain ⟨g, o, e, hr⟩ := h.at_ hi
  rw [List.getElem_map] at hr
  exact ⟨g, o, e, hr⟩

end Go.Proofs.YtgfpjjppeldhbaaGreatDoor

/- Operations read: op.take, of kinds that have ids. -/
namespace Go.Proofs.YtgfpjjppeldhbaaGreatDoor
open Go.RowKit

theorem takeO_3 (l : List UInt8) (e : Int) : takeO 3 l e = ⟨⟨3, 0, ⟨#[]⟩, txV l e, id0, (refsR (txL l e) (txE l e)).ids⟩, (refsR (txL l e) (txE l e)).l, (refsR (txL l e) (txE l e)).e⟩ := rfl
theorem takeO_5 (l : List UInt8) (e : Int) : takeO 5 l e = ⟨⟨5, 0, txV l e, txV (txL l e) (txE l e), id0, (refsR (txL (txL l e) (txE l e)) (txE (txL l e) (txE l e))).ids⟩, (refsR (txL (txL l e) (txE l e)) (txE (txL l e) (txE l e))).l, (refsR (txL (txL l e) (txE l e)) (txE (txL l e) (txE l e))).e⟩ := rfl

set_option maxRecDepth 100000 in
set_option maxHeartbeats 4000000 in
theorem take_3 (w : World) (g : Nat) (l : List UInt8) (e : Int) (h : RdAt w g l e) (hp : PartsVar w) :
    Calls Tryz.prog 134 #[.pointer (some ⟨g, 0, none⟩), .int .i64 3] w fun en w' => ∃ A cap, en = .returned (.agg (opC (takeO 3 l e).o A cap)) ∧ Own w' w.heap.size 39 32 A (takeO 3 l e).o.refs.length cap ((takeO 3 l e).o.refs.map idC) ∧ RdAt w' g (takeO 3 l e).l (takeO 3 l e).e ∧ Keep [g] w w' := by
  have hg2 : ((w.alloc (.cells (opPC opP0) 52)).alloc (.cells (opPC ⟨3, 0, ⟨#[]⟩, ⟨#[]⟩, id0, .slice none 0 0⟩) 52)).heap[w.heap.size]? = some (.cells (opPC opP0) 52 (0, 0)) := by
    rw [Below.heap_alloc _ _ _ (by simp)]; exact heap_alloc_new w _
  have hg3 : ((w.alloc (.cells (opPC opP0) 52)).alloc (.cells (opPC ⟨3, 0, ⟨#[]⟩, ⟨#[]⟩, id0, .slice none 0 0⟩) 52)).heap[w.heap.size + 1]? = some (.cells (opPC ⟨3, 0, ⟨#[]⟩, ⟨#[]⟩, id0, .slice none 0 0⟩) 52 (0, 0)) := by
    have := heap_alloc_new (w.alloc (.cells (opPC opP0) 52)) (.cells (opPC ⟨3, 0, ⟨#[]⟩, ⟨#[]⟩, id0, .slice none 0 0⟩) 52)
    simpa using this
  have hb0 : Below w.heap.size w ((w.alloc (.cells (opPC opP0) 52)).alloc (.cells (opPC ⟨3, 0, ⟨#[]⟩, ⟨#[]⟩, id0, .slice none 0 0⟩) 52)) := ((Below.refl _ _).alloc (Nat.le_refl _) _).alloc (by simp) _
  have hof := op_of 3 _ (hp.below hb0) (by omega)
  rw [show partN 3 = 20 from rfl] at hof
  have hE := h.below hb0
  have hgl := h.lt
  go_enter Tryz.func134, Tryz.ntmps134
  go_upto_region 2 with fail
  obtain ⟨ga, hga⟩ : ∃ ga, w.heap.size = ga := ⟨_, rfl⟩
  have Hga := Lib.hid hga
  obtain ⟨W, hW⟩ : ∃ W, W = ((w.alloc (.cells (opPC opP0) 52)).alloc (.cells (opPC ⟨3, 0, ⟨#[]⟩, ⟨#[]⟩, id0, .slice none 0 0⟩) 52)) := ⟨_, rfl⟩
  rw [← hW] at hb0 hg2 hg3 hE hof ⊢
  rw [hga] at hg2 hg3 hgl ⊢
  clear hW h hp hga
  have hK0 : Keep [g, ga + 1] w W := (Keep.of_below hb0).mono (by simp)
  have hngb : g ∉ [ga + 1] := by simp; omega
  have hnga : ga ∉ [g, ga + 1] := by simp; omega
  have hngc : ga + 1 ∉ [g] := by simp; omega
  have hgal : ga + 1 < W.heap.size := (Array.getElem?_eq_some_iff.1 hg3).1
  go_wp2_with fail
  refine hof.mono ?_; rintro en w1 ⟨rfl, rfl⟩
  clear hof
  go_wp2_with fail
  refine (rd_num1 _ g _ _ hE).mono ?_; rintro en w2 ⟨rfl, hr2, hk2⟩
  have hn2 := numV_lt 1 (l) (e)
  go_wp2_with fail
  refine (rd_raw _ g _ _ _ hr2 (by omega)).mono ?_; rintro en w3 ⟨rfl, hE3, hk3⟩
  replace hE3 : RdAt w3 g (txL (l) (e)) (txE (l) (e)) := hE3
  obtain ⟨val, hkv⟩ : ∃ val, mkB (rawV (numV 1 (l) (e)) (rawL 1 (l) (e)) (rawE 1 (l) (e))) = val := ⟨_, rfl⟩
  have Hval := Lib.hid (show txV (l) (e) = val from hkv)
  rw [hkv]
  have hk23 : Keep [g] W w3 := Keep.trans hk2 hk3 (fun x hx => .inl hx)
  have h83 := (hk23.block (ga + 1) hgal hngc).trans hg3
  have hc83 : ∀ j, w3.frozen? ⟨ga + 1, j, none⟩ = false := fun j => by simp [World.frozen?, h83]
  have x0 : w3.cell? ⟨ga + 1, 3, none⟩ = some (.string ⟨#[]⟩) := by rw [cell_of_row w3 (ga + 1) _ _ _ _ h83]; simp [go_sem]
  have f0 := hc83 3
  have hg3n := heap_setCell_same h83 3 (.string val)
  rw [opPC_set3] at hg3n
  have hks := Keep.setCell w3 ⟨ga + 1, 3, none⟩ (.string val)
  have hEn := hE3.kept hks hngb
  have hg2n := ((Keep.trans (hk23.mono (S' := [g, ga + 1]) (by simp)) (hks.mono (S' := [g, ga + 1]) (by simp)) (fun x hx => .inl hx)).block ga (by omega) hnga).trans hg2
  have hK0n : Keep [g, ga + 1] w (w3.setCell ⟨ga + 1, 3, none⟩ (.string val)) := Keep.trans (Keep.trans hK0 (hk23.mono (S' := [g, ga + 1]) (by simp)) (fun x hx => .inl hx)) (hks.mono (S' := [g, ga + 1]) (by simp)) (fun x hx => .inl hx)
  have hszn : W.heap.size ≤ (w3.setCell ⟨ga + 1, 3, none⟩ (.string val)).heap.size := Nat.le_trans hk23.size hks.size
  clear hE hr2 hk2 hn2 hkv hE3 hk3 hk23 hg3 hg2 h83 hc83 hks hK0
  go_upto_region 12 with fail
  obtain ⟨W', hW'⟩ : ∃ W', W' = w3.setCell ⟨ga + 1, 3, none⟩ (.string val) := ⟨_, rfl⟩
  rw [← hW'] at hg3n hEn hg2n hK0n hszn ⊢
  clear hW' x0 f0
  have hgal' : ga + 1 < W'.heap.size := by omega
  clear hgal hszn
  obtain ⟨W, rfl⟩ : ∃ W : World, W = W' := ⟨_, rfl⟩
  have hgal := hgal'; have hE := hEn; have hg2 := hg2n; have hg3 := hg3n; have hK0 := hK0n
  clear hgal' hEn hg2n hg3n hK0n
  go_wp2_with fail
  refine (rd_num1 _ g _ _ hE).mono ?_; rintro en w3 ⟨rfl, hE3, hk23⟩
  have hn4 := numV_lt 1 (txL l e) (txE l e)
  have hRf : Hid (refsR (txL l e) (txE l e) = idLoop (numV 1 (txL l e) (txE l e)) ⟨[], rawL 1 (txL l e) (txE l e), rawE 1 (txL l e) (txE l e)⟩) := by show _ = _; rfl
  obtain ⟨N, hN⟩ : ∃ N, numV 1 (txL l e) (txE l e) = N := ⟨_, rfl⟩
  rw [hN] at hn4 hRf ⊢
  clear hN
  have hg3n := (hk23.block (ga + 1) hgal hngc).trans hg3
  have hg2n := (hk23.block ga (by omega) (by simp; omega)).trans hg2
  have hK0n : Keep [g, ga + 1] w w3 := Keep.trans hK0 (hk23.mono (S' := [g, ga + 1]) (by simp)) (fun x hx => .inl hx)
  have hEn : RdAt w3 g (rawL 1 (txL l e) (txE l e)) (rawE 1 (txL l e) (txE l e)) := hE3
  have hb3 : ga + 1 < w3.heap.size := by have := hk23.size; omega
  have Hw3 : Hid (w.heap.size ≤ w3.heap.size) := by have h1 := hK0n.size; exact h1
  clear hE hE3 hk23 hg3 hg2 hK0 hgal
  obtain ⟨W3, rfl⟩ : ∃ W : World, W = w3 := ⟨_, rfl⟩
  go_wp2_with fail
  go_loopw [47] (fun i wr => ∃ (k : Nat) (s : IdsR) (A : Option Addr) (cap : Nat), k ≤ N ∧ i = .int .i64 k ∧ s.ids.length = k ∧ Hid (idLoop N ⟨[], rawL 1 (txL l e) (txE l e), rawE 1 (txL l e) (txE l e)⟩ = idLoop (N - k) s) ∧ wr.heap[ga + 1]? = some (.cells (opPC ⟨3, 0, ⟨#[]⟩, val, id0, .slice A s.ids.length cap⟩) 52 (0, 0)) ∧ wr.heap[ga]? = some (.cells (opPC opP0) 52 (0, 0)) ∧ RdAt wr g s.l s.e ∧ Own wr W3.heap.size 39 32 A s.ids.length cap (s.ids.map idC) ∧ Keep [g, ga + 1] w wr ∧ W3.heap.size ≤ wr.heap.size) (fun i _ => N - (intOf i).toNat)
  case atStart => exact ⟨0, ⟨[], rawL 1 (txL l e) (txE l e), rawE 1 (txL l e) (txE l e)⟩, none, 0, Nat.zero_le _, rfl, rfl, (show _ = _ from rfl), hg3n, hg2n, hEn, Own.nil _ _ _ _, hK0n, Nat.le_refl _⟩
  case round =>
    clear hg3n hg2n hEn hK0n
    obtain ⟨k, s, A, cap, hk, rfl, hsl, hlp, hg3, hg2, hE, hown, hK0, hsz⟩ := hrel
    obtain ⟨ids, l3, e3⟩ := s
    dsimp only at *
    by_cases hlt : k < N
    · have hlp2 := hlp.out
      rw [show N - k = (N - (k + 1)) + 1 by omega] at hlp2
      have hlp3 : idLoop N ⟨[], rawL 1 (txL l e) (txE l e), rawE 1 (txL l e) (txE l e)⟩ = idLoop (N - (k + 1)) ⟨ids ++ [idOf (rawV 32 l3 e3)], rawL 32 l3 e3, rawE 32 l3 e3⟩ := hlp2
      have Hlp := Lib.hid hlp3
      clear hlp hlp2 hlp3
      have hAb : ∀ x ∈ blk A, W3.heap.size ≤ x ∧ x < wr.heap.size := fun x hx => hown.at_base hx
      have hnS : ga + 1 ∉ g :: blk A := by
        intro hm
        rcases List.mem_cons.1 hm with h1 | h1
        · omega
        · have := (hAb _ h1).1; omega
      have hgA : g ∉ blk A := fun h1 => by have := (hAb _ h1).1; omega
      have hgaS : ga ∉ g :: blk A := by
        intro hm
        rcases List.mem_cons.1 hm with h1 | h1
        · omega
        · have := (hAb _ h1).1; omega
      have x0 : wr.cell? ⟨ga + 1, 36, none⟩ = some (.slice A ids.length cap) := by rw [cell_of_row wr (ga + 1) _ _ _ _ hg3]; simp [go_sem]
      have cid := op_id wr.drew g l3 e3 (hE.kept (Keep.drew wr) (by simp))
      have hids : ids.length ≤ 255 := by omega
      have HSL := Lib.hid hsl
      clear hsl
      go_upto_region 14 with fail
      refine wp_region_lexf (Kp (g :: blk A) wr) false (by kernel_rfl) (by kernel_rfl) (by kernel_rfl) (by kernel_rfl) (kp_drew (g :: blk A) wr) ?_
      have hne := kp_some (g :: blk A) wr
      have hS := kp_drew (g :: blk A) wr
      have b1 := ksub_cell x0 hnS
      repeat (refine wpLx_loose ?_ ?_; (focus (simp only [chainOp]; done)); intro K hK; go_simp; refine hK _ ?_; clear hK K)
      refine wpLx_chain ?_ ?_ ?_
      focus (exact hS)
      focus (simp only [chainOp]; done)
      intro K hK
      go_simp
      refine cid.mono ?_
      rintro en w4 ⟨rfl, hE4, hk4⟩
      replace hS := kp_next hS hk4 (by simp)
      refine ⟨_, rfl, hS, hK _ _ ?_⟩
      clear hK K cid
      repeat (refine wpLx_loose ?_ ?_; (focus (simp only [chainOp]; done)); intro K hK; go_simp; refine hK _ ?_; clear hK K)
      refine wpLx_chain ?_ ?_ ?_
      focus (exact hS)
      focus (simp only [chainOp]; done)
      intro K hK
      go_simp
      refine step_keep (kp_alloc hS _) (fun hS => ?_)
      refine hK _ _ ?_
      clear hK K
      obtain ⟨d, hd⟩ : ∃ d, idOf (rawV 32 l3 e3) = d := ⟨_, rfl⟩
      rw [hd] at hS ⊢
      have Hd := Lib.hid hd
      clear hd
      have hk04 : Keep [g] wr w4 := Keep.trans ((Keep.drew wr).mono (S' := [g]) (by simp)) hk4 (fun x hx => .inl hx)
      have hb4 := Keep.alloc w4 (.cells (idC d) 39)
      have hownr := (hown.kept hk04 (fun x hx => by have := (hAb x hx).1; simp; omega)).kept hb4 (by simp)
      have hrow2 : rowAt (w4.alloc (.cells (idC d) 39)) w4.heap.size 0 32 = some (idC d) := by simp [go_sem]
      have hsz4 := hk04.size
      have hBs : W3.heap.size ≤ (w4.alloc (.cells (idC d) 39)).heap.size := by simp; omega
      refine Lx_append einfoId rfl hownr rfl hrow2 (idC_one _) (by omega) (by omega) hBs ?_
      intro A2 cap2 w5 hown5 hk5 hsub5
      have hk45 : Keep (blk A) w4 w5 := Keep.trans (hb4.mono (S' := blk A) (by simp)) hk5 (fun x hx => .inl hx)
      have hS5 : Keep (g :: blk A) wr w5 := Keep.trans (hk04.mono (S' := g :: blk A) (by simp)) (hk45.mono (S' := g :: blk A) (fun x hx => .inl (List.mem_cons_of_mem _ hx))) (fun x hx => .inl hx)
      refine step_keep hS5 (fun hS6 => ?_)
      repeat (refine wpLx_loose ?_ ?_; (focus (simp only [chainOp]; done)); intro K hK; go_simp; refine hK _ ?_; clear hK K)
      have hgl1 : ga + 1 < wr.heap.size := (Array.getElem?_eq_some_iff.1 hg3).1
      have hg35 := (hS5.block (ga + 1) hgl1 hnS).trans hg3
      have hg25 := (hS5.block ga (by omega) hgaS).trans hg2
      have f0 : w5.frozen? ⟨ga + 1, 36, none⟩ = false := by simp [World.frozen?, hg35]
      have d0 : w5.cell? ⟨ga + 1, 36, none⟩ = some (.slice A ids.length cap) := by rw [cell_of_row w5 (ga + 1) _ _ _ _ hg35]; simp [go_sem]
      refine wpLx_end ?_ ?_
      focus (simp only [chainOp]; done)
      intro K hK
      go_simp
      refine hK _ _ ?_
      clear hK K
      have hk4' := hk4
      have hg3n := heap_setCell_same hg35 36 (.slice A2 (ids.length + 1) cap2)
      rw [opPC_set36] at hg3n
      have hks := Keep.setCell w5 ⟨ga + 1, 36, none⟩ (.slice A2 (ids.length + 1) cap2)
      have hE6 := (RdAt.kept hE4 hk45 hgA).kept hks hngb
      have hg2n := (hks.block ga (by have := hS5.size; omega) (by simp)).trans hg25
      have hA2 : ∀ x ∈ blk A2, x ∉ [ga + 1] := fun x hx => by have := (hown5.at_base hx).1; simp; omega
      have hown6 := hown5.kept hks hA2
      have hKn : Keep [g, ga + 1] w (w5.setCell ⟨ga + 1, 36, none⟩ (.slice A2 (ids.length + 1) cap2)) := by
        have h1 : Keep [g, ga + 1] w w5 := (Keep.trans (hK0.mono (S' := g :: (ga + 1) :: blk A) (by intro x hx; simp at hx ⊢; omega)) (hS5.mono (S' := g :: (ga + 1) :: blk A) (fun x hx => .inl (by rcases List.mem_cons.1 hx with h | h; exact List.mem_cons.2 (.inl h); exact List.mem_cons.2 (.inr (List.mem_cons.2 (.inr h)))))) (fun x hx => .inl hx)).narrow (fun x hx => by
          rcases List.mem_cons.1 hx with h | h
          · exact .inl (by simp [h])
          · rcases List.mem_cons.1 h with h | h
            · exact .inl (by simp [h])
            · right; have := (hAb x h).1; have := Hw3.out; omega)
        exact Keep.trans h1 (hks.mono (S' := [g, ga + 1]) (by simp)) (fun x hx => .inl hx)
      have hszn : W3.heap.size ≤ (w5.setCell ⟨ga + 1, 36, none⟩ (.slice A2 (ids.length + 1) cap2)).heap.size := by have := hS5.size; have := hks.size; omega
      have hl2 : (ids ++ [d]).length = ids.length + 1 := by simp
      rw [show ids.map idC ++ [idC d] = (ids ++ [d]).map idC by simp] at hown6
      have Hl2 := Lib.hid hl2
      rw [Hd.out] at Hlp
      clear hl2 f0 d0 b1 hne hS hS5 hS6 hk04 hk45 hk4 hk4' hk5 hsub5 hown5 hownr hrow2 hb4 hg35 hg25 hks hE4 hBs hown hE hg3 hg2 x0 hA2 hK0
      go_wp2_with fail
      go_roundw
      case rel => exact ⟨k + 1, ⟨ids ++ [d], rawL 32 l3 e3, rawE 32 l3 e3⟩, A2, cap2, by omega, by go_num, by rw [Hl2.out, HSL.out], Hlp, (by rw [Hl2.out]; exact hg3n), hg2n, hE6, (by rw [Hl2.out]; exact hown6), hKn, hszn⟩
      case measure => simp [intOf]; omega
    · have hfin : refsR (txL l e) (txE l e) = ⟨ids, l3, e3⟩ := by rw [hRf.out, hlp.out, show N - k = 0 by omega]; rfl
      have Hrd := Lib.hid hfin
      have HSL := Lib.hid hsl
      clear hsl hfin hlp hRf
      have hwr : Hid (w.heap.size ≤ W3.heap.size) := Hw3.out
      obtain ⟨W, rfl⟩ : ∃ W : World, W = wr := ⟨_, rfl⟩
      have HOW := Lib.hid (hown.mono Hw3.out)
      have Hgl3 : Hid (∀ x ∈ blk A, ga + 1 < x) := fun x hx => by have := (hown.at_base hx).1; omega
      clear hown
      go_upto_region 16 with fail
      have hrow : rowAt W (ga + 1) 0 37 = some (opPC ⟨3, 0, ⟨#[]⟩, val, id0, .slice A ids.length cap⟩) := by unfold rowAt; rw [hg3]; simp [go_sem]
      have hsto := run_stS_at (P := Tryz.prog) infoOpP W ga (opPC opP0) (opPC ⟨3, 0, ⟨#[]⟩, val, id0, .slice A ids.length cap⟩) _ hg2 (by simp) (by simp) (opPC_one _ rfl)
      have hkf : Keep [ga] W (W.setRow ga (opPC ⟨3, 0, ⟨#[]⟩, val, id0, .slice A ids.length cap⟩)) := ⟨rfl, rfl, rfl, by simp [World.setRow], fun x _ hx => setRow_other W ga x _ (by simpa using hx)⟩
      have Hfin := Lib.hid (setRow_heap W ga _ (opPC ⟨3, 0, ⟨#[]⟩, val, id0, .slice A ids.length cap⟩) _ _ hg2)
      have hE4 := hE.kept hkf (by simp; omega)
      have hkw : Keep [g, ga, ga + 1] w (W.setRow ga (opPC ⟨3, 0, ⟨#[]⟩, val, id0, .slice A ids.length cap⟩)) := Keep.trans (hK0.mono (S' := [g, ga, ga + 1]) (by intro x hx; simp at hx ⊢; omega)) (hkf.mono (S' := [g, ga, ga + 1]) (by simp)) (fun x hx => .inl hx)
      have hkz : Keep [g] w (W.setRow ga (opPC ⟨3, 0, ⟨#[]⟩, val, id0, .slice A ids.length cap⟩)) := hkw.narrow (fun x hx => by have := Hga.out; simp at hx ⊢; omega)
      have HE4 := Lib.hid hE4; have Hkz := Lib.hid hkz
      have HO4 := Lib.hid (HOW.out.kept hkf (fun x hx => by have := (HOW.out.at_base hx).1; have := Hga.out; have := Hgl3.out x hx; simp; omega))
      clear hE4 hE hkw hkz hkf hg2 hg3 hb0 hK0
      go_wp2_with fail
      refine bodyPost_ret (results_cell_row Tryz.results134 _ _ ga 52 (opPC ⟨3, 0, ⟨#[]⟩, val, id0, .slice A ids.length cap⟩) (0, 0) _ rfl Hfin.out Tryz.underlying52 rfl (by rw [opPC_size]; exact infoOpP)) rfl ?_
      have e1 : takeO 3 l e = ⟨⟨3, 0, ⟨#[]⟩, val, id0, ids⟩, l3, e3⟩ := by
        rw [takeO_3]
        rw [Hrd.out, Hval.out]
      rw [e1]
      exact ⟨A, cap, rfl, HO4.out, HE4.out, Hkz.out⟩

set_option maxRecDepth 100000 in
set_option maxHeartbeats 4000000 in
theorem take_5 (w : World) (g : Nat) (l : List UInt8) (e : Int) (h : RdAt w g l e) (hp : PartsVar w) :
    Calls Tryz.prog 134 #[.pointer (some ⟨g, 0, none⟩), .int .i64 5] w fun en w' => ∃ A cap, en = .returned (.agg (opC (takeO 5 l e).o A cap)) ∧ Own w' w.heap.size 39 32 A (takeO 5 l e).o.refs.length cap ((takeO 5 l e).o.refs.map idC) ∧ RdAt w' g (takeO 5 l e).l (takeO 5 l e).e ∧ Keep [g] w w' := by
  have hg2 : ((w.alloc (.cells (opPC opP0) 52)).alloc (.cells (opPC ⟨5, 0, ⟨#[]⟩, ⟨#[]⟩, id0, .slice none 0 0⟩) 52)).heap[w.heap.size]? = some (.cells (opPC opP0) 52 (0, 0)) := by
    rw [Below.heap_alloc _ _ _ (by simp)]; exact heap_alloc_new w _
  have hg3 : ((w.alloc (.cells (opPC opP0) 52)).alloc (.cells (opPC ⟨5, 0, ⟨#[]⟩, ⟨#[]⟩, id0, .slice none 0 0⟩) 52)).heap[w.heap.size + 1]? = some (.cells (opPC ⟨5, 0, ⟨#[]⟩, ⟨#[]⟩, id0, .slice none 0 0⟩) 52 (0, 0)) := by
    have := heap_alloc_new (w.alloc (.cells (opPC opP0) 52)) (.cells (opPC ⟨5, 0, ⟨#[]⟩, ⟨#[]⟩, id0, .slice none 0 0⟩) 52)
    simpa using this
  have hb0 : Below w.heap.size w ((w.alloc (.cells (opPC opP0) 52)).alloc (.cells (opPC ⟨5, 0, ⟨#[]⟩, ⟨#[]⟩, id0, .slice none 0 0⟩) 52)) := ((Below.refl _ _).alloc (Nat.le_refl _) _).alloc (by simp) _
  have hof := op_of 5 _ (hp.below hb0) (by omega)
  rw [show partN 5 = 22 from rfl] at hof
  have hE := h.below hb0
  have hgl := h.lt
  go_enter Tryz.func134, Tryz.ntmps134
  go_upto_region 2 with fail
  obtain ⟨ga, hga⟩ : ∃ ga, w.heap.size = ga := ⟨_, rfl⟩
  have Hga := Lib.hid hga
  obtain ⟨W, hW⟩ : ∃ W, W = ((w.alloc (.cells (opPC opP0) 52)).alloc (.cells (opPC ⟨5, 0, ⟨#[]⟩, ⟨#[]⟩, id0, .slice none 0 0⟩) 52)) := ⟨_, rfl⟩
  rw [← hW] at hb0 hg2 hg3 hE hof ⊢
  rw [hga] at hg2 hg3 hgl ⊢
  clear hW h hp hga
  have hK0 : Keep [g, ga + 1] w W := (Keep.of_below hb0).mono (by simp)
  have hngb : g ∉ [ga + 1] := by simp; omega
  have hnga : ga ∉ [g, ga + 1] := by simp; omega
  have hngc : ga + 1 ∉ [g] := by simp; omega
  have hgal : ga + 1 < W.heap.size := (Array.getElem?_eq_some_iff.1 hg3).1
  go_wp2_with fail
  refine hof.mono ?_; rintro en w1 ⟨rfl, rfl⟩
  clear hof
  go_wp2_with fail
  refine (rd_num1 _ g _ _ hE).mono ?_; rintro en w2 ⟨rfl, hr2, hk2⟩
  have hn2 := numV_lt 1 (l) (e)
  go_wp2_with fail
  refine (rd_raw _ g _ _ _ hr2 (by omega)).mono ?_; rintro en w3 ⟨rfl, hE3, hk3⟩
  replace hE3 : RdAt w3 g (txL (l) (e)) (txE (l) (e)) := hE3
  obtain ⟨key, hkv⟩ : ∃ key, mkB (rawV (numV 1 (l) (e)) (rawL 1 (l) (e)) (rawE 1 (l) (e))) = key := ⟨_, rfl⟩
  have Hkey := Lib.hid (show txV (l) (e) = key from hkv)
  rw [hkv]
  have hk23 : Keep [g] W w3 := Keep.trans hk2 hk3 (fun x hx => .inl hx)
  have h83 := (hk23.block (ga + 1) hgal hngc).trans hg3
  have hc83 : ∀ j, w3.frozen? ⟨ga + 1, j, none⟩ = false := fun j => by simp [World.frozen?, h83]
  have x0 : w3.cell? ⟨ga + 1, 2, none⟩ = some (.string ⟨#[]⟩) := by rw [cell_of_row w3 (ga + 1) _ _ _ _ h83]; simp [go_sem]
  have f0 := hc83 2
  have hg3n := heap_setCell_same h83 2 (.string key)
  rw [opPC_set2] at hg3n
  have hks := Keep.setCell w3 ⟨ga + 1, 2, none⟩ (.string key)
  have hEn := hE3.kept hks hngb
  have hg2n := ((Keep.trans (hk23.mono (S' := [g, ga + 1]) (by simp)) (hks.mono (S' := [g, ga + 1]) (by simp)) (fun x hx => .inl hx)).block ga (by omega) hnga).trans hg2
  have hK0n : Keep [g, ga + 1] w (w3.setCell ⟨ga + 1, 2, none⟩ (.string key)) := Keep.trans (Keep.trans hK0 (hk23.mono (S' := [g, ga + 1]) (by simp)) (fun x hx => .inl hx)) (hks.mono (S' := [g, ga + 1]) (by simp)) (fun x hx => .inl hx)
  have hszn : W.heap.size ≤ (w3.setCell ⟨ga + 1, 2, none⟩ (.string key)).heap.size := Nat.le_trans hk23.size hks.size
  clear hE hr2 hk2 hn2 hkv hE3 hk3 hk23 hg3 hg2 h83 hc83 hks hK0
  go_upto_region 7 with fail
  obtain ⟨W', hW'⟩ : ∃ W', W' = w3.setCell ⟨ga + 1, 2, none⟩ (.string key) := ⟨_, rfl⟩
  rw [← hW'] at hg3n hEn hg2n hK0n hszn ⊢
  clear hW' x0 f0
  have hgal' : ga + 1 < W'.heap.size := by omega
  clear hgal hszn
  obtain ⟨W, rfl⟩ : ∃ W : World, W = W' := ⟨_, rfl⟩
  have hgal := hgal'; have hE := hEn; have hg2 := hg2n; have hg3 := hg3n; have hK0 := hK0n
  clear hgal' hEn hg2n hg3n hK0n
  go_wp2_with fail
  refine (rd_num1 _ g _ _ hE).mono ?_; rintro en w2 ⟨rfl, hr2, hk2⟩
  have hn2 := numV_lt 1 (txL l e) (txE l e)
  go_wp2_with fail
  refine (rd_raw _ g _ _ _ hr2 (by omega)).mono ?_; rintro en w3 ⟨rfl, hE3, hk3⟩
  replace hE3 : RdAt w3 g (txL (txL l e) (txE l e)) (txE (txL l e) (txE l e)) := hE3
  obtain ⟨val, hkv⟩ : ∃ val, mkB (rawV (numV 1 (txL l e) (txE l e)) (rawL 1 (txL l e) (txE l e)) (rawE 1 (txL l e) (txE l e))) = val := ⟨_, rfl⟩
  have Hval := Lib.hid (show txV (txL l e) (txE l e) = val from hkv)
  rw [hkv]
  have hk23 : Keep [g] W w3 := Keep.trans hk2 hk3 (fun x hx => .inl hx)
  have h83 := (hk23.block (ga + 1) hgal hngc).trans hg3
  have hc83 : ∀ j, w3.frozen? ⟨ga + 1, j, none⟩ = false := fun j => by simp [World.frozen?, h83]
  have x0 : w3.cell? ⟨ga + 1, 3, none⟩ = some (.string ⟨#[]⟩) := by rw [cell_of_row w3 (ga + 1) _ _ _ _ h83]; simp [go_sem]
  have f0 := hc83 3
  have hg3n := heap_setCell_same h83 3 (.string val)
  rw [opPC_set3] at hg3n
  have hks := Keep.setCell w3 ⟨ga + 1, 3, none⟩ (.string val)
  have hEn := hE3.kept hks hngb
  have hg2n := ((Keep.trans (hk23.mono (S' := [g, ga + 1]) (by simp)) (hks.mono (S' := [g, ga + 1]) (by simp)) (fun x hx => .inl hx)).block ga (by omega) hnga).trans hg2
  have hK0n : Keep [g, ga + 1] w (w3.setCell ⟨ga + 1, 3, none⟩ (.string val)) := Keep.trans (Keep.trans hK0 (hk23.mono (S' := [g, ga + 1]) (by simp)) (fun x hx => .inl hx)) (hks.mono (S' := [g, ga + 1]) (by simp)) (fun x hx => .inl hx)
  have hszn : W.heap.size ≤ (w3.setCell ⟨ga + 1, 3, none⟩ (.string val)).heap.size := Nat.le_trans hk23.size hks.size
  clear hE hr2 hk2 hn2 hkv hE3 hk3 hk23 hg3 hg2 h83 hc83 hks hK0
  go_upto_region 12 with fail
  obtain ⟨W', hW'⟩ : ∃ W', W' = w3.setCell ⟨ga + 1, 3, none⟩ (.string val) := ⟨_, rfl⟩
  rw [← hW'] at hg3n hEn hg2n hK0n hszn ⊢
  clear hW' x0 f0
  have hgal' : ga + 1 < W'.heap.size := by omega
  clear hgal hszn
  obtain ⟨W, rfl⟩ : ∃ W : World, W = W' := ⟨_, rfl⟩
  have hgal := hgal'; have hE := hEn; have hg2 := hg2n; have hg3 := hg3n; have hK0 := hK0n
  clear hgal' hEn hg2n hg3n hK0n
  go_wp2_with fail
  refine (rd_num1 _ g _ _ hE).mono ?_; rintro en w3 ⟨rfl, hE3, hk23⟩
  have hn4 := numV_lt 1 (txL (txL l e) (txE l e)) (txE (txL l e) (txE l e))
  have hRf : Hid (refsR (txL (txL l e) (txE l e)) (txE (txL l e) (txE l e)) = idLoop (numV 1 (txL (txL l e) (txE l e)) (txE (txL l e) (txE l e))) ⟨[], rawL 1 (txL (txL l e) (txE l e)) (txE (txL l e) (txE l e)), rawE 1 (txL (txL l e) (txE l e)) (txE (txL l e) (txE l e))⟩) := by show _ = _; rfl
  obtain ⟨N, hN⟩ : ∃ N, numV 1 (txL (txL l e) (txE l e)) (txE (txL l e) (txE l e)) = N := ⟨_, rfl⟩
  rw [hN] at hn4 hRf ⊢
  clear hN
  have hg3n := (hk23.block (ga + 1) hgal hngc).trans hg3
  have hg2n := (hk23.block ga (by omega) (by simp; omega)).trans hg2
  have hK0n : Keep [g, ga + 1] w w3 := Keep.trans hK0 (hk23.mono (S' := [g, ga + 1]) (by simp)) (fun x hx => .inl hx)
  have hEn : RdAt w3 g (rawL 1 (txL (txL l e) (txE l e)) (txE (txL l e) (txE l e))) (rawE 1 (txL (txL l e) (txE l e)) (txE (txL l e) (txE l e))) := hE3
  have hb3 : ga + 1 < w3.heap.size := by have := hk23.size; omega
  have Hw3 : Hid (w.heap.size ≤ w3.heap.size) := by have h1 := hK0n.size; exact h1
  clear hE hE3 hk23 hg3 hg2 hK0 hgal
  obtain ⟨W3, rfl⟩ : ∃ W : World, W = w3 := ⟨_, rfl⟩
  go_wp2_with fail
  go_loopw [47] (fun i wr => ∃ (k : Nat) (s : IdsR) (A : Option Addr) (cap : Nat), k ≤ N ∧ i = .int .i64 k ∧ s.ids.length = k ∧ Hid (idLoop N ⟨[], rawL 1 (txL (txL l e) (txE l e)) (txE (txL l e) (txE l e)), rawE 1 (txL (txL l e) (txE l e)) (txE (txL l e) (txE l e))⟩ = idLoop (N - k) s) ∧ wr.heap[ga + 1]? = some (.cells (opPC ⟨5, 0, key, val, id0, .slice A s.ids.length cap⟩) 52 (0, 0)) ∧ wr.heap[ga]? = some (.cells (opPC opP0) 52 (0, 0)) ∧ RdAt wr g s.l s.e ∧ Own wr W3.heap.size 39 32 A s.ids.length cap (s.ids.map idC) ∧ Keep [g, ga + 1] w wr ∧ W3.heap.size ≤ wr.heap.size) (fun i _ => N - (intOf i).toNat)
  case atStart => exact ⟨0, ⟨[], rawL 1 (txL (txL l e) (txE l e)) (txE (txL l e) (txE l e)), rawE 1 (txL (txL l e) (txE l e)) (txE (txL l e) (txE l e))⟩, none, 0, Nat.zero_le _, rfl, rfl, (show _ = _ from rfl), hg3n, hg2n, hEn, Own.nil _ _ _ _, hK0n, Nat.le_refl _⟩
  case round =>
    clear hg3n hg2n hEn hK0n
    obtain ⟨k, s, A, cap, hk, rfl, hsl, hlp, hg3, hg2, hE, hown, hK0, hsz⟩ := hrel
    obtain ⟨ids, l3, e3⟩ := s
    dsimp only at *
    by_cases hlt : k < N
    · have hlp2 := hlp.out
      rw [show N - k = (N - (k + 1)) + 1 by omega] at hlp2
      have hlp3 : idLoop N ⟨[], rawL 1 (txL (txL l e) (txE l e)) (txE (txL l e) (txE l e)), rawE 1 (txL (txL l e) (txE l e)) (txE (txL l e) (txE l e))⟩ = idLoop (N - (k + 1)) ⟨ids ++ [idOf (rawV 32 l3 e3)], rawL 32 l3 e3, rawE 32 l3 e3⟩ := hlp2
      have Hlp := Lib.hid hlp3
      clear hlp hlp2 hlp3
      have hAb : ∀ x ∈ blk A, W3.heap.size ≤ x ∧ x < wr.heap.size := fun x hx => hown.at_base hx
      have hnS : ga + 1 ∉ g :: blk A := by
        intro hm
        rcases List.mem_cons.1 hm with h1 | h1
        · omega
        · have := (hAb _ h1).1; omega
      have hgA : g ∉ blk A := fun h1 => by have := (hAb _ h1).1; omega
      have hgaS : ga ∉ g :: blk A := by
        intro hm
        rcases List.mem_cons.1 hm with h1 | h1
        · omega
        · have := (hAb _ h1).1; omega
      have x0 : wr.cell? ⟨ga + 1, 36, none⟩ = some (.slice A ids.length cap) := by rw [cell_of_row wr (ga + 1) _ _ _ _ hg3]; simp [go_sem]
      have cid := op_id wr.drew g l3 e3 (hE.kept (Keep.drew wr) (by simp))
      have hids : ids.length ≤ 255 := by omega
      have HSL := Lib.hid hsl
      clear hsl
      go_upto_region 14 with fail
      refine wp_region_lexf (Kp (g :: blk A) wr) false (by kernel_rfl) (by kernel_rfl) (by kernel_rfl) (by kernel_rfl) (kp_drew (g :: blk A) wr) ?_
      have hne := kp_some (g :: blk A) wr
      have hS := kp_drew (g :: blk A) wr
      have b1 := ksub_cell x0 hnS
      repeat (refine wpLx_loose ?_ ?_; (focus (simp only [chainOp]; done)); intro K hK; go_simp; refine hK _ ?_; clear hK K)
      refine wpLx_chain ?_ ?_ ?_
      focus (exact hS)
      focus (simp only [chainOp]; done)
      intro K hK
      go_simp
      refine cid.mono ?_
      rintro en w4 ⟨rfl, hE4, hk4⟩
      replace hS := kp_next hS hk4 (by simp)
      refine ⟨_, rfl, hS, hK _ _ ?_⟩
      clear hK K cid
      repeat (refine wpLx_loose ?_ ?_; (focus (simp only [chainOp]; done)); intro K hK; go_simp; refine hK _ ?_; clear hK K)
      refine wpLx_chain ?_ ?_ ?_
      focus (exact hS)
      focus (simp only [chainOp]; done)
      intro K hK
      go_simp
      refine step_keep (kp_alloc hS _) (fun hS => ?_)
      refine hK _ _ ?_
      clear hK K
      obtain ⟨d, hd⟩ : ∃ d, idOf (rawV 32 l3 e3) = d := ⟨_, rfl⟩
      rw [hd] at hS ⊢
      have Hd := Lib.hid hd
      clear hd
      have hk04 : Keep [g] wr w4 := Keep.trans ((Keep.drew wr).mono (S' := [g]) (by simp)) hk4 (fun x hx => .inl hx)
      have hb4 := Keep.alloc w4 (.cells (idC d) 39)
      have hownr := (hown.kept hk04 (fun x hx => by have := (hAb x hx).1; simp; omega)).kept hb4 (by simp)
      have hrow2 : rowAt (w4.alloc (.cells (idC d) 39)) w4.heap.size 0 32 = some (idC d) := by simp [go_sem]
      have hsz4 := hk04.size
      have hBs : W3.heap.size ≤ (w4.alloc (.cells (idC d) 39)).heap.size := by simp; omega
      refine Lx_append einfoId rfl hownr rfl hrow2 (idC_one _) (by omega) (by omega) hBs ?_
      intro A2 cap2 w5 hown5 hk5 hsub5
      have hk45 : Keep (blk A) w4 w5 := Keep.trans (hb4.mono (S' := blk A) (by simp)) hk5 (fun x hx => .inl hx)
      have hS5 : Keep (g :: blk A) wr w5 := Keep.trans (hk04.mono (S' := g :: blk A) (by simp)) (hk45.mono (S' := g :: blk A) (fun x hx => .inl (List.mem_cons_of_mem _ hx))) (fun x hx => .inl hx)
      refine step_keep hS5 (fun hS6 => ?_)
      repeat (refine wpLx_loose ?_ ?_; (focus (simp only [chainOp]; done)); intro K hK; go_simp; refine hK _ ?_; clear hK K)
      have hgl1 : ga + 1 < wr.heap.size := (Array.getElem?_eq_some_iff.1 hg3).1
      have hg35 := (hS5.block (ga + 1) hgl1 hnS).trans hg3
      have hg25 := (hS5.block ga (by omega) hgaS).trans hg2
      have f0 : w5.frozen? ⟨ga + 1, 36, none⟩ = false := by simp [World.frozen?, hg35]
      have d0 : w5.cell? ⟨ga + 1, 36, none⟩ = some (.slice A ids.length cap) := by rw [cell_of_row w5 (ga + 1) _ _ _ _ hg35]; simp [go_sem]
      refine wpLx_end ?_ ?_
      focus (simp only [chainOp]; done)
      intro K hK
      go_simp
      refine hK _ _ ?_
      clear hK K
      have hk4' := hk4
      have hg3n := heap_setCell_same hg35 36 (.slice A2 (ids.length + 1) cap2)
      rw [opPC_set36] at hg3n
      have hks := Keep.setCell w5 ⟨ga + 1, 36, none⟩ (.slice A2 (ids.length + 1) cap2)
      have hE6 := (RdAt.kept hE4 hk45 hgA).kept hks hngb
      have hg2n := (hks.block ga (by have := hS5.size; omega) (by simp)).trans hg25
      have hA2 : ∀ x ∈ blk A2, x ∉ [ga + 1] := fun x hx => by have := (hown5.at_base hx).1; simp; omega
      have hown6 := hown5.kept hks hA2
      have hKn : Keep [g, ga + 1] w (w5.setCell ⟨ga + 1, 36, none⟩ (.slice A2 (ids.length + 1) cap2)) := by
        have h1 : Keep [g, ga + 1] w w5 := (Keep.trans (hK0.mono (S' := g :: (ga + 1) :: blk A) (by intro x hx; simp at hx ⊢; omega)) (hS5.mono (S' := g :: (ga + 1) :: blk A) (fun x hx => .inl (by rcases List.mem_cons.1 hx with h | h; exact List.mem_cons.2 (.inl h); exact List.mem_cons.2 (.inr (List.mem_cons.2 (.inr h)))))) (fun x hx => .inl hx)).narrow (fun x hx => by
          rcases List.mem_cons.1 hx with h | h
          · exact .inl (by simp [h])
          · rcases List.mem_cons.1 h with h | h
            · exact .inl (by simp [h])
            · right; have := (hAb x h).1; have := Hw3.out; omega)
        exact Keep.trans h1 (hks.mono (S' := [g, ga + 1]) (by simp)) (fun x hx => .inl hx)
      have hszn : W3.heap.size ≤ (w5.setCell ⟨ga + 1, 36, none⟩ (.slice A2 (ids.length + 1) cap2)).heap.size := by have := hS5.size; have := hks.size; omega
      have hl2 : (ids ++ [d]).length = ids.length + 1 := by simp
      rw [show ids.map idC ++ [idC d] = (ids ++ [d]).map idC by simp] at hown6
      have Hl2 := Lib.hid hl2
      rw [Hd.out] at Hlp
      clear hl2 f0 d0 b1 hne hS hS5 hS6 hk04 hk45 hk4 hk4' hk5 hsub5 hown5 hownr hrow2 hb4 hg35 hg25 hks hE4 hBs hown hE hg3 hg2 x0 hA2 hK0
      go_wp2_with fail
      go_roundw
      case rel => exact ⟨k + 1, ⟨ids ++ [d], rawL 32 l3 e3, rawE 32 l3 e3⟩, A2, cap2, by omega, by go_num, by rw [Hl2.out, HSL.out], Hlp, (by rw [Hl2.out]; exact hg3n), hg2n, hE6, (by rw [Hl2.out]; exact hown6), hKn, hszn⟩
      case measure => simp [intOf]; omega
    · have hfin : refsR (txL (txL l e) (txE l e)) (txE (txL l e) (txE l e)) = ⟨ids, l3, e3⟩ := by rw [hRf.out, hlp.out, show N - k = 0 by omega]; rfl
      have Hrd := Lib.hid hfin
      have HSL := Lib.hid hsl
      clear hsl hfin hlp hRf
      have hwr : Hid (w.heap.size ≤ W3.heap.size) := Hw3.out
      obtain ⟨W, rfl⟩ : ∃ W : World, W = wr := ⟨_, rfl⟩
      have HOW := Lib.hid (hown.mono Hw3.out)
      have Hgl3 : Hid (∀ x ∈ blk A, ga + 1 < x) := fun x hx => by have := (hown.at_base hx).1; omega
      clear hown
      go_upto_region 16 with fail
      have hrow : rowAt W (ga + 1) 0 37 = some (opPC ⟨5, 0, key, val, id0, .slice A ids.length cap⟩) := by unfold rowAt; rw [hg3]; simp [go_sem]
      have hsto := run_stS_at (P := Tryz.prog) infoOpP W ga (opPC opP0) (opPC ⟨5, 0, key, val, id0, .slice A ids.length cap⟩) _ hg2 (by simp) (by simp) (opPC_one _ rfl)
      have hkf : Keep [ga] W (W.setRow ga (opPC ⟨5, 0, key, val, id0, .slice A ids.length cap⟩)) := ⟨rfl, rfl, rfl, by simp [World.setRow], fun x _ hx => setRow_other W ga x _ (by simpa using hx)⟩
      have Hfin := Lib.hid (setRow_heap W ga _ (opPC ⟨5, 0, key, val, id0, .slice A ids.length cap⟩) _ _ hg2)
      have hE4 := hE.kept hkf (by simp; omega)
      have hkw : Keep [g, ga, ga + 1] w (W.setRow ga (opPC ⟨5, 0, key, val, id0, .slice A ids.length cap⟩)) := Keep.trans (hK0.mono (S' := [g, ga, ga + 1]) (by intro x hx; simp at hx ⊢; omega)) (hkf.mono (S' := [g, ga, ga + 1]) (by simp)) (fun x hx => .inl hx)
      have hkz : Keep [g] w (W.setRow ga (opPC ⟨5, 0, key, val, id0, .slice A ids.length cap⟩)) := hkw.narrow (fun x hx => by have := Hga.out; simp at hx ⊢; omega)
      have HE4 := Lib.hid hE4; have Hkz := Lib.hid hkz
      have HO4 := Lib.hid (HOW.out.kept hkf (fun x hx => by have := (HOW.out.at_base hx).1; have := Hga.out; have := Hgl3.out x hx; simp; omega))
      clear hE4 hE hkw hkz hkf hg2 hg3 hb0 hK0
      go_wp2_with fail
      refine bodyPost_ret (results_cell_row Tryz.results134 _ _ ga 52 (opPC ⟨5, 0, key, val, id0, .slice A ids.length cap⟩) (0, 0) _ rfl Hfin.out Tryz.underlying52 rfl (by rw [opPC_size]; exact infoOpP)) rfl ?_
      have e1 : takeO 5 l e = ⟨⟨5, 0, key, val, id0, ids⟩, l3, e3⟩ := by
        rw [takeO_5]
        rw [Hrd.out, Hval.out, Hkey.out]
      rw [e1]
      exact ⟨A, cap, rfl, HO4.out, HE4.out, Hkz.out⟩


/-- The operation that follows its kind. -/
theorem op_take (k : Nat) (w : World) (g : Nat) (l : List UInt8) (e : Int) (h : RdAt w g l e) (hp : PartsVar w) (h1 : 1 ≤ k) (h7 : k ≤ 7) :
    Calls Tryz.prog 134 #[.pointer (some ⟨g, 0, none⟩), .int .i64 k] w fun en w' => ∃ A cap, en = .returned (.agg (opC (takeO k l e).o A cap)) ∧ Own w' w.heap.size 39 32 A (takeO k l e).o.refs.length cap ((takeO k l e).o.refs.map idC) ∧ RdAt w' g (takeO k l e).l (takeO k l e).e ∧ Keep [g] w w' := by
  have hk : k = 1 ∨ k = 2 ∨ k = 3 ∨ k = 4 ∨ k = 5 ∨ k = 6 ∨ k = 7 := by omega
  rcases hk with rfl | rfl | rfl | rfl | rfl | rfl | rfl
  · exact (take_1 w g l e h hp).mono fun en w' hh => ⟨none, 0, hh.1, Own.nil _ _ _ _, hh.2⟩
  · exact (take_2 w g l e h hp).mono fun en w' hh => ⟨none, 0, hh.1, Own.nil _ _ _ _, hh.2⟩
  · exact take_3 w g l e h hp
  · exact (take_4 w g l e h hp).mono fun en w' hh => ⟨none, 0, hh.1, Own.nil _ _ _ _, hh.2⟩
  · exact take_5 w g l e h hp
  · exact (take_6 w g l e h hp).mono fun en w' hh => ⟨none, 0, hh.1, Own.nil _ _ _ _, hh.2⟩
  · exact (take_7 w g l e h hp).mono fun en w' hh => ⟨none, 0, hh.1, Own.nil _ _ _ _, hh.2⟩

end Go.Proofs.YtgfpjjppeldhbaaGreatDoor

/- Ids rising: ident.Is. -/
namespace Go.Proofs.YtgfpjjppeldhbaaGreatDoor
open Go.RowKit

set_option maxRecDepth 100000 in
set_option maxHeartbeats 1000000 in
theorem is_ids (w : World) (A : Option Addr) (n cap : Nat) (R : List Id32) (h : TagsIn w A n R) (hn : n ≤ 4294967296) :
    Calls Tryz.prog 94 #[.slice A n cap] w fun e w' => e = .returned (.bool (risI R)) ∧ Below w.heap.size w w' := by
  have Hlen := Lib.hid h.len
  go_enter Tryz.func94, Tryz.ntmps94
  go_wp2_with fail
  go_loopw [3] (fun i wr => ∃ j : Nat, (j < n ∨ j = 0) ∧ i = .int .i64 ((j : Int) + 1) ∧ Hid (risI R = risI (R.drop j)) ∧ Below w.heap.size w wr) (fun i _ => n + 1 - (intOf i).toNat)
  case atStart => exact ⟨0, .inr rfl, rfl, (show _ = _ from rfl), Below.refl _ _⟩
  case round =>
    obtain ⟨j, hj, rfl, hri, hb⟩ := hrel
    by_cases hlt : j + 1 < n
    · have hR1 : j + 1 < R.length := by rw [Hlen.out]; exact hlt
      obtain ⟨q, o, rfl, hrow2⟩ := TagsIn.get (SlR.below h hb) hlt hR1
      obtain ⟨q', o', hqe, hrow1⟩ := TagsIn.get (SlR.below h hb) (show j < n by omega) (show j < R.length by omega)
      injection hqe with hqe
      injection hqe with hq1 hq2
      subst hq1; subst hq2
      have hri3 : risI R = (decide (cmpId (R[j]'(by omega)) (R[j + 1]'hR1) < 0) && risI (R.drop (j + 1))) := by
        rw [hri.out, List.drop_eq_getElem_cons (show j < R.length by omega), List.drop_eq_getElem_cons hR1]; rfl
      obtain ⟨x, hx⟩ : ∃ x, R[j]'(by omega) = x := ⟨_, rfl⟩
      obtain ⟨y, hy⟩ : ∃ y, R[j + 1]'hR1 = y := ⟨_, rfl⟩
      rw [hx] at hrow1 hri3
      rw [hy] at hrow2 hri3
      clear hri hx hy hR1
      have hlt2 : ((j : Int) + 1 < n) := by omega
      have w1' : IntKind.i64.wrap (j : Int) = j := IntWalk.i64_in _ (by omega)
      have t1 : ((j : Int) + 1).toNat = j + 1 := by omega
      have t2 : (0 : Int) ≤ (j : Int) + 1 := by omega
      have t3 : (j : Int) < n := by omega
      have t4 : j < n := by omega
      have c2 := cmp_id x y wr.drew
      by_cases hc : cmpId x y < 0
      · rw [decide_eq_true hc, Bool.true_and] at hri3
        have Hri := Lib.hid hri3
        have hcb : ¬ (0 ≤ cmpId x y) := (by omega); obtain ⟨c, hcc⟩ : ∃ c, cmpId x y = c := ⟨_, rfl⟩; rw [hcc] at c2 hcb; clear hcc
        clear hri3 hc
        go_upto_region 4 with fail
        refine wp_region_lex (Bel wr) false (by kernel_rfl) (by kernel_rfl) (by kernel_rfl) (bel_drew wr) ?_
        have hne := bel_some wr
        have hS := bel_drew wr
        have b1 := sub_row hrow1; have b2 := sub_row hrow2
        repeat (refine wpLx_loose ?_ ?_; (focus (simp only [chainOp]; done)); intro K hK; go_simp; refine hK _ ?_; clear hK K)
        refine wpLx_chain ?_ ?_ ?_
        focus (exact hS)
        focus (simp only [chainOp]; done)
        intro K hK
        go_simp
        refine (c2).mono ?_
        rintro e w' ⟨rfl, hb⟩
        replace hS := bel_next hS hb
        refine ⟨_, rfl, hS, hK _ _ ?_⟩
        clear hK K hb
        repeat (refine wpLx_loose ?_ ?_; (focus (simp only [chainOp]; done)); intro K hK; go_simp; refine hK _ ?_; clear hK K)
        refine wpLx_nil ?_
        intro hS
        have hS' : Below wr.heap.size wr w' := hS
        have hbz := bel2 hb hS'
        clear b1 b2 hne hS hS' c2 w1'
        go_wp2_with fail
        go_roundw
        case rel => exact ⟨j + 1, .inl hlt, by go_num, Hri, hbz⟩
        case measure => simp [intOf]; omega
      · rw [decide_eq_false hc, Bool.false_and] at hri3
        have Hri := Lib.hid hri3
        have hcb : 0 ≤ cmpId x y := (by omega); obtain ⟨c, hcc⟩ : ∃ c, cmpId x y = c := ⟨_, rfl⟩; rw [hcc] at c2 hcb; clear hcc
        clear hri3 hc
        go_upto_region 4 with fail
        refine wp_region_lex (Bel wr) false (by kernel_rfl) (by kernel_rfl) (by kernel_rfl) (bel_drew wr) ?_
        have hne := bel_some wr
        have hS := bel_drew wr
        have b1 := sub_row hrow1; have b2 := sub_row hrow2
        repeat (refine wpLx_loose ?_ ?_; (focus (simp only [chainOp]; done)); intro K hK; go_simp; refine hK _ ?_; clear hK K)
        refine wpLx_chain ?_ ?_ ?_
        focus (exact hS)
        focus (simp only [chainOp]; done)
        intro K hK
        go_simp
        refine (c2).mono ?_
        rintro e w' ⟨rfl, hb⟩
        replace hS := bel_next hS hb
        refine ⟨_, rfl, hS, hK _ _ ?_⟩
        clear hK K hb
        repeat (refine wpLx_loose ?_ ?_; (focus (simp only [chainOp]; done)); intro K hK; go_simp; refine hK _ ?_; clear hK K)
        refine wpLx_nil ?_
        intro hS
        have hS' : Below wr.heap.size wr w' := hS
        have hbz := bel2 hb hS'
        clear b1 b2 hne hS hS' c2 w1'
        go_wp2_with fail
        go_ret
        exact ⟨ret_bool (by rw [Hri.out]), hbz⟩
    · have hrt : risI R = true := by
        rw [hri.out]
        have hl1 : (R.drop j).length ≤ 1 := by rw [List.length_drop, Hlen.out]; omega
        generalize R.drop j = Z at hl1
        match Z, hl1 with
        | [], _ => rfl
        | [_], _ => rfl
      have Hrt := Lib.hid hrt
      have hlt2 : decide ((j : Int) + 1 < n) = false := by simp; omega
      have hlt3 : decide (j + 1 < n) = false := by simp; omega
      clear hrt hri hlt hj
      go_wp2_with fail
      go_ret
      exact ⟨ret_bool (by rw [Hrt.out]), hb⟩

end Go.Proofs.YtgfpjjppeldhbaaGreatDoor
