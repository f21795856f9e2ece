/- Rows that came in: petrelref23.Row, and how many are too many. -/
import Derived.Test.YtlonihfhgfmplaaLastW
import Derived.Test.YtlonihfhgfmplaaOpen
namespace Go.Proofs.Ytlonihfhgfmplaa
open Go.RowKit

structure Row where
  key : ByteArray
  val : ByteArray
  n : Int
  id : Id32
/-- Its cells. -/
def rowC (x : Row) : Array Value := #[.string x.key] ++ #[.string x.val] ++ #[.int .i64 x.n] ++ idC x.id
@[simp] theorem rowC_size (x : Row) : (rowC x).size = 35 := by simp [rowC]
@[go_sem] theorem rowC_g0 (x : Row) : (rowC x)[0]? = some (.string x.key) := by simp [rowC, Array.getElem?_append]
@[go_sem] theorem rowC_gg0 (x : Row) (h : 0 < (rowC x).size) : (rowC x)[0]'h = .string x.key := Option.some.inj ((Array.getElem?_eq_getElem h).symm.trans (rowC_g0 x))
@[go_sem] theorem rowC_g1 (x : Row) : (rowC x)[1]? = some (.string x.val) := by simp [rowC, Array.getElem?_append]
@[go_sem] theorem rowC_gg1 (x : Row) (h : 1 < (rowC x).size) : (rowC x)[1]'h = .string x.val := Option.some.inj ((Array.getElem?_eq_getElem h).symm.trans (rowC_g1 x))
@[go_sem] theorem rowC_g2 (x : Row) : (rowC x)[2]? = some (.int .i64 x.n) := by simp [rowC, Array.getElem?_append]
@[go_sem] theorem rowC_gg2 (x : Row) (h : 2 < (rowC x).size) : (rowC x)[2]'h = .int .i64 x.n := Option.some.inj ((Array.getElem?_eq_getElem h).symm.trans (rowC_g2 x))
@[go_sem] theorem rowC_e3 (x : Row) : (rowC x).extract 3 35 = idC x.id := by
  have h : rowC x = (#[.string x.key] ++ #[.string x.val] ++ #[.int .i64 x.n]) ++ idC x.id ++ ((#[] : Array Value)) := by simp [rowC, Array.append_assoc]
  rw [h]; exact arr_mid _ _ _ _ _ (by simp) (by simp)
@[go_sem] theorem rowC_all (x : Row) : (rowC x).extract 0 35 = rowC x := by have := Array.extract_size (xs := rowC x); rwa [rowC_size] at this
theorem rowC_inj {x y : Row} (h : rowC x = rowC y) : x = y := by
  have h0 := congrArg (fun a => a[0]?) h
  simp only [rowC_g0, Option.some.injEq, Value.string.injEq] at h0
  have h1 := congrArg (fun a => a[1]?) h
  simp only [rowC_g1, Option.some.injEq, Value.string.injEq] at h1
  have h2 := congrArg (fun a => a[2]?) h
  simp only [rowC_g2, Option.some.injEq, Value.int.injEq, true_and] at h2
  have h3 := congrArg (fun a => a.extract 3 35) h
  simp only [rowC_e3] at h3
  have h3 := idC_inj h3
  cases x; cases y; simp_all
theorem rowC_one (x : Row) : ∀ u ∈ (rowC x).toList, u.oneCell' = true := by
  intro u hu
  simp only [rowC, Array.toList_append, List.mem_append] at hu
  rcases hu with ((hu | hu) | hu) | hu
  · simp at hu; subst hu; rfl
  · simp at hu; subst hu; rfl
  · simp at hu; subst hu; rfl
  · exact idC_one _ u hu
def row0 : Row := ⟨⟨#[]⟩, ⟨#[]⟩, 0, id0⟩
theorem Row_ext {x y : Row} (h : x.key = y.key ∧ x.val = y.val ∧ x.n = y.n ∧ x.id = y.id) : x = y := by cases x; cases y; simp_all
instance : DecidableEq Row := fun x y => if h : x.key = y.key ∧ x.val = y.val ∧ x.n = y.n ∧ x.id = y.id then isTrue (Row_ext h) else isFalse (fun e => h (by subst e; simp))
theorem infoRow : (Try.prog.info? 32).map (·.size) = some 35 := by kernel_rfl
@[go_sem ↓] theorem zeroRow_run (w : World) : (zeroValue 32).run Try.prog w = .ok (.agg (rowC row0)) w := by
  have h : (Try.prog.info? 32).bind (·.zero) = some (.agg (rowC row0)) := by kernel_rfl
  cases hi : Try.prog.info? 32 with
  | none => rw [hi] at h; cases h
  | some i =>
    rw [hi] at h
    have hz : i.zero = some (.agg (rowC row0)) := h
    simp [zeroValue, typeInfo, hi, hz]
@[go_sem ↓] theorem loadRow_rw (a : Addr) : loadVar 32 a = ldS 32 a := rfl
@[go_sem ↓] theorem storeRow_rw (a : Addr) (v : Value) : storeVar 32 a v = stS 32 a v := rfl
@[go_sem] theorem loadRow_run (w : World) (g o : Nat) : (ldS 32 ⟨g, o, none⟩).run Try.prog w = match rowAt w g o 35 with | some cs => .ok (.agg cs) w | none => (loadVar 32 ⟨g, o, none⟩).run Try.prog w :=
  run_ldS Try.underlying32 rfl infoRow w g o
@[go_sem] theorem storeRow_run (w : World) (g : Nat) (hg : g = w.heap.size) (z : Array Value) (hz : z.size = 35) (x : Row) (e : TypeId) : (stS 32 ⟨g, 0, none⟩ (.agg (rowC x))).run Try.prog (w.alloc (.cells z e)) = .ok () (w.alloc (.cells (rowC x) e)) :=
  hg ▸ run_stS_new infoRow w z (rowC x) hz (rowC_size x) (rowC_one x)
theorem fieldsRow : Try.prog.underlying 32 = some (.struct (Try.prog.fieldsOf 32)) := by kernel_rfl
theorem placesRow (w : World) : ((Try.prog.fieldsOf 32).mapM fun (f : Field) => do pure (f.offset, ← sizeOf f.type)).run Try.prog w = .ok #[(0, 1), (1, 1), (2, 1), (3, 32)] w := by kernel_rfl
@[go_sem ↓] theorem buildRow_rw (parts : Array (Nat × Value)) : Instr.build 32 parts = bdS 32 parts := rfl
def rowOk (x : Row) : Prop := x.key.size ≤ maxLen ∧ x.val.size ≤ maxLen ∧ (Lit.int .i64 x.n).wf = true ∧ True
theorem opensRow {w : World} : Opens Try.prog w 32 rowC rowOk := by
  intro H enc base spare held fuel cs x h
  obtain ⟨xs, n, rfl, _, hlen, hxl, hel⟩ := DataW.trod_struct Try.underlying32 h
  have hc : Try.prog.cellsOf 32 = 35 := by kernel_rfl
  rw [hc] at hlen
  obtain ⟨a0, h0, k0⟩ := opens_field hxl hel (opens_string Try.underlying9) 0 0 1 _ rfl rfl rfl (by kernel_rfl)
  have e0 : cs.drop 0 = (cs.drop 0).take 1 ++ cs.drop 1 := take_seg
  obtain ⟨a1, h1, k1⟩ := opens_field hxl hel (opens_string Try.underlying9) 1 1 1 _ rfl rfl rfl (by kernel_rfl)
  have e1 : cs.drop 1 = (cs.drop 1).take 1 ++ cs.drop 2 := take_seg
  obtain ⟨a2, h2, k2⟩ := opens_field hxl hel (opens_int Try.underlying3) 2 2 1 _ rfl rfl rfl (by kernel_rfl)
  have e2 : cs.drop 2 = (cs.drop 2).take 1 ++ cs.drop 3 := take_seg
  obtain ⟨a3, h3, k3⟩ := opens_field hxl hel (opensId) 3 3 32 _ rfl rfl rfl (by kernel_rfl)
  have e3 : cs.drop 3 = (cs.drop 3).take 32 ++ cs.drop 35 := take_seg
  have en : cs.drop 35 = [] := List.drop_eq_nil_of_le (by omega)
  refine ⟨⟨a0, a1, a2, a3⟩, e0.trans ?_, k0, k1, k2, k3⟩
  rw [h0, e1, h1, e2, h2, e3, h3, en]
  simp [rowC]
@[go_sem ↓] theorem fieldRow_0 (x : Row) (w : World) : (Instr.field 32 (.agg (rowC x)) 0).run Try.prog w = .ok (.string x.key) w := by
  unfold Instr.field
  simp only [Sem.run_bind, run_underlying Try.underlying32, Result.andThen_ok, part, asAgg, isAgg]
  simp [go_sem]
@[go_sem ↓] theorem fieldRow_1 (x : Row) (w : World) : (Instr.field 32 (.agg (rowC x)) 1).run Try.prog w = .ok (.string x.val) w := by
  unfold Instr.field
  simp only [Sem.run_bind, run_underlying Try.underlying32, Result.andThen_ok, part, asAgg, isAgg]
  simp [go_sem]
@[go_sem ↓] theorem fieldRow_2 (x : Row) (w : World) : (Instr.field 32 (.agg (rowC x)) 2).run Try.prog w = .ok (.int .i64 x.n) w := by
  unfold Instr.field
  simp only [Sem.run_bind, run_underlying Try.underlying32, Result.andThen_ok, part, asAgg, isAgg]
  simp [go_sem]
@[go_sem ↓] theorem fieldRow_3 (x : Row) (w : World) : (Instr.field 32 (.agg (rowC x)) 3).run Try.prog w = .ok (.agg (idC x.id)) w := by
  unfold Instr.field
  simp only [Sem.run_bind, run_underlying Try.underlying32, Result.andThen_ok, part, asAgg, isAgg]
  simp [go_sem]
@[go_sem] theorem buildRow (a0 : ByteArray) (a1 : ByteArray) (a2 : Int) (a3 : Id32) (w : World) : (bdS 32 #[(0, .string a0), (1, .string a1), (2, .int .i64 a2), (3, .agg (idC a3))]).run Try.prog w = .ok (.agg (rowC ⟨a0, a1, a2, a3⟩)) w := by
  refine run_build w fieldsRow _ (zeroRow_run w) _ (placesRow w) [(0, .string a0), (1, .string a1), (2, .int .i64 a2), (3, .agg (idC a3))] _ ?_
  rw [show rowC row0 = (#[] : Array Value) ++ #[.string ⟨#[]⟩] ++ (#[.string ⟨#[]⟩] ++ (#[.int .i64 0] ++ (idC id0))) from by first | (simp [rowC, row0, Array.append_assoc]; done) | (apply Array.ext'; simp [rowC, row0])]
  rw [fill_step (off := 0) (size := 1) rfl (by simp) (by simp) (by simp [Value.cells])]
  rw [show (#[] : Array Value) ++ (Value.string a0).cells ++ (#[.string ⟨#[]⟩] ++ (#[.int .i64 0] ++ (idC id0))) = (#[.string a0]) ++ #[.string ⟨#[]⟩] ++ (#[.int .i64 0] ++ (idC id0)) from by first | (simp [Value.cells, Array.append_assoc]; done) | (apply Array.ext'; simp [Value.cells]; done) | (apply Array.ext'; simp only [Array.toList_append]; simp [Value.cells])]
  rw [fill_step (off := 1) (size := 1) rfl (by simp) (by simp) (by simp [Value.cells])]
  rw [show (#[.string a0]) ++ (Value.string a1).cells ++ (#[.int .i64 0] ++ (idC id0)) = (#[.string a0] ++ (#[.string a1])) ++ #[.int .i64 0] ++ (idC id0) from by first | (simp [Value.cells, Array.append_assoc]; done) | (apply Array.ext'; simp [Value.cells]; done) | (apply Array.ext'; simp only [Array.toList_append]; simp [Value.cells])]
  rw [fill_step (off := 2) (size := 1) rfl (by simp) (by simp) (by simp [Value.cells])]
  rw [show (#[.string a0] ++ (#[.string a1])) ++ (Value.int .i64 a2).cells ++ (idC id0) = (#[.string a0] ++ (#[.string a1] ++ (#[.int .i64 a2]))) ++ idC id0 ++ (#[] : Array Value) from by first | (simp [Value.cells, Array.append_assoc]; done) | (apply Array.ext'; simp [Value.cells]; done) | (apply Array.ext'; simp only [Array.toList_append]; simp [Value.cells])]
  rw [fill_step (off := 3) (size := 32) rfl (by simp) (by simp) (by simp [Value.cells])]
  first | (simp [Instr.fill, rowC, Array.append_assoc, Value.cells]; done) | (simp only [Instr.fill, rowC]; congr 1; apply Array.ext'; simp [Value.cells])

abbrev RowsIn (w : World) (A : Option Addr) (n : Nat) (R : List Row) : Prop := SlR w A n 35 (R.map rowC)
theorem RowsIn.get {w : World} {A : Option Addr} {n : Nat} {R : List Row} (h : RowsIn w A n R) {i : Nat} (hi : i < n) (hR : i < R.length) :
    ∃ g o, A = some ⟨g, o, none⟩ ∧ rowAt w g (o + i * 35) 35 = some (rowC R[i]) ∧ w.cell? ⟨g, o + i * 35, none⟩ = some (.string (R[i]).key) ∧ w.cell? ⟨g, o + i * 35 + 1, none⟩ = some (.string (R[i]).val) ∧
      w.cell? ⟨g, o + i * 35 + 2, none⟩ = some (.int .i64 (R[i]).n) ∧ rowAt w g (o + i * 35 + 3) 32 = some (idC (R[i]).id) := by
  obtain ⟨g, o, e, hr⟩ := h.at_ hi
  rw [List.getElem_map] at hr
  refine ⟨g, o, e, hr, ?_, ?_, ?_, ?_⟩
  · have := rowAt_cell hr (j := 0) (by omega)
    rwa [rowC_g0] at this
  · have := rowAt_cell hr (j := 1) (by omega)
    rwa [rowC_g1] at this
  · have := rowAt_cell hr (j := 2) (by omega)
    rwa [rowC_g2] at this
  · have := rowAt_sub hr (j := 3) (m := 32) (by omega)
    rwa [rowC_e3] at this
theorem RowsIn.len {w : World} {A : Option Addr} {n : Nat} {R : List Row} (h : RowsIn w A n R) : R.length = n := by simpa using h.1

def smallRow (x : Row) : Prop := x.key.size ≤ 100 ∧ x.val.size ≤ 100

def muchRes (w : World) (R : List Row) (e : Ending) (w' : World) : Prop := ∃ b, e = .returned (.bool b) ∧ (b = false → R.length ≤ 40 ∧ ∀ x ∈ R, smallRow x) ∧ Below w.heap.size w w'
set_option maxHeartbeats 1000000 in
theorem much_any (w : World) (A : Option Addr) (n cap : Nat) (R : List Row) (h : RowsIn w A n R) (hn : n ≤ 9223372036854775807) (hs : ∀ x ∈ R, x.key.size ≤ 9223372036854775807 ∧ x.val.size ≤ 9223372036854775807) :
    Calls Try.prog 13 #[.slice A n cap] w (muchRes w R) := by
  have hlen := RowsIn.len h
  go_enter Try.func13, Try.ntmps13
  go_wp2_with fail
  go_loopw [3] (fun i wr => ∃ k : Nat, k ≤ n ∧ k ≤ 40 ∧ i = .int .i64 k ∧ Hid (∀ j (hj : j < R.length), j < k → smallRow R[j]) ∧ Below w.heap.size w wr) (fun i _ => n - (intOf i).toNat)
  case atStart => exact ⟨0, Nat.zero_le _, by omega, rfl, (show ∀ j (hj : j < R.length), j < 0 → _ from fun j _ h => absurd h (by omega)), Below.refl _ _⟩
  case round =>
    obtain ⟨k, hk, hk40, rfl, hd, hb⟩ := hrel
    by_cases hlt : k < n ∧ k < 40
    · obtain ⟨hlt, hlt40⟩ := hlt
      obtain ⟨g, o, rfl, hr, hkey, hval, _, _⟩ := RowsIn.get (h.below hb) hlt (by omega)
      have hsk := hs R[k] (List.getElem_mem (by omega))
      obtain ⟨x, hx⟩ : ∃ x, R[k]'(by omega) = x := ⟨_, rfl⟩
      have Hx := Lib.hid hx
      rw [hx] at hkey hval hsk
      clear hx hr
      by_cases h1 : 100 < x.key.size
      · go_wp2_with fail
        go_ret
        exact ⟨true, rfl, nofun, hb⟩
      · by_cases h2 : 100 < x.val.size
        · go_wp2_with fail
          go_ret
          exact ⟨true, rfl, nofun, hb⟩
        · go_wp2_with fail
          go_roundw
          case rel =>
            refine ⟨k + 1, by omega, by omega, by go_num, (show ∀ j (hj : j < R.length), j < k + 1 → smallRow R[j] from fun j hj hjk => ?_), hb⟩
            by_cases e : j = k
            · subst e; rw [Hx.out]; exact ⟨by omega, by omega⟩
            · exact hd.out j hj (by omega)
          case measure => simp [intOf]; omega
    · have hko : ¬ k < n ∨ ¬ k < 40 := by omega
      have H : Hid (n ≤ 40 → ∀ x ∈ R, smallRow x) := by
        intro hn40 x hx
        obtain ⟨j, hj, rfl⟩ := List.mem_iff_getElem.1 hx
        exact hd.out j hj (by omega)
      have fin : ∀ b : Bool, (b = false → n ≤ 40) → muchRes w R (.returned (.bool b)) wr := fun b hb' => ⟨b, rfl, fun e => ⟨by have := hb' e; omega, H.out (hb' e)⟩, hb⟩
      have Fin := Lib.hid fin
      clear fin H hd
      by_cases h1 : k < n
      · have h2 : k = 40 := by omega
        subst h2
        go_wp2_with fail
        go_ret
        exact Fin.out _ (by simp <;> omega)
      · go_wp2_with fail
        go_ret
        exact Fin.out _ (by simp <;> omega)

end Go.Proofs.Ytlonihfhgfmplaa
