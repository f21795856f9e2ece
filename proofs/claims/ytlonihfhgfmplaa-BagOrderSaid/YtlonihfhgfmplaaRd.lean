/- Package octet: the Reader. -/
import Derived.Test.YtlonihfhgfmplaaOct
import Derived.IntWalk
namespace Go.Proofs.Ytlonihfhgfmplaa
open Go.RowKit

structure Rd where
  s : ByteArray
  p : Int
  bad : Int
  made : Bool
/-- Its cells. -/
def rdC (x : Rd) : Array Value := #[.string x.s] ++ #[.int .i64 x.p] ++ #[.int .i64 x.bad] ++ #[.bool x.made]
@[simp] theorem rdC_size (x : Rd) : (rdC x).size = 4 := by simp [rdC]
@[go_sem] theorem rdC_g0 (x : Rd) : (rdC x)[0]? = some (.string x.s) := by first | (simp [rdC, Array.getElem?_append]; done) | (rw [show rdC x = ((#[] : Array Value)) ++ #[.string x.s] ++ (#[.int .i64 x.p] ++ #[.int .i64 x.bad] ++ #[.bool x.made]) from by apply Array.ext'; simp [rdC]]; exact arr_at _ _ _ _ (by simp))
@[go_sem] theorem rdC_gg0 (x : Rd) (h : 0 < (rdC x).size) : (rdC x)[0]'h = .string x.s := Option.some.inj ((Array.getElem?_eq_getElem h).symm.trans (rdC_g0 x))
@[go_sem] theorem rdC_g1 (x : Rd) : (rdC x)[1]? = some (.int .i64 x.p) := by first | (simp [rdC, Array.getElem?_append]; done) | (rw [show rdC x = (#[.string x.s]) ++ #[.int .i64 x.p] ++ (#[.int .i64 x.bad] ++ #[.bool x.made]) from by apply Array.ext'; simp [rdC]]; exact arr_at _ _ _ _ (by simp))
@[go_sem] theorem rdC_gg1 (x : Rd) (h : 1 < (rdC x).size) : (rdC x)[1]'h = .int .i64 x.p := Option.some.inj ((Array.getElem?_eq_getElem h).symm.trans (rdC_g1 x))
@[go_sem] theorem rdC_g2 (x : Rd) : (rdC x)[2]? = some (.int .i64 x.bad) := by first | (simp [rdC, Array.getElem?_append]; done) | (rw [show rdC x = (#[.string x.s] ++ #[.int .i64 x.p]) ++ #[.int .i64 x.bad] ++ (#[.bool x.made]) from by apply Array.ext'; simp [rdC]]; exact arr_at _ _ _ _ (by simp))
@[go_sem] theorem rdC_gg2 (x : Rd) (h : 2 < (rdC x).size) : (rdC x)[2]'h = .int .i64 x.bad := Option.some.inj ((Array.getElem?_eq_getElem h).symm.trans (rdC_g2 x))
@[go_sem] theorem rdC_g3 (x : Rd) : (rdC x)[3]? = some (.bool x.made) := by first | (simp [rdC, Array.getElem?_append]; done) | (rw [show rdC x = (#[.string x.s] ++ #[.int .i64 x.p] ++ #[.int .i64 x.bad]) ++ #[.bool x.made] ++ ((#[] : Array Value)) from by apply Array.ext'; simp [rdC]]; exact arr_at _ _ _ _ (by simp))
@[go_sem] theorem rdC_gg3 (x : Rd) (h : 3 < (rdC x).size) : (rdC x)[3]'h = .bool x.made := Option.some.inj ((Array.getElem?_eq_getElem h).symm.trans (rdC_g3 x))
@[go_sem] theorem rdC_all (x : Rd) : (rdC x).extract 0 4 = rdC x := by have := Array.extract_size (xs := rdC x); rwa [rdC_size] at this
theorem rdC_inj {x y : Rd} (h : rdC x = rdC y) : x = y := by
  have h0 := congrArg (fun a => a[0]?) h
  simp only [rdC_g0, Option.some.injEq, Value.string.injEq] at h0
  have h1 := congrArg (fun a => a[1]?) h
  simp only [rdC_g1, Option.some.injEq, Value.int.injEq, true_and] at h1
  have h2 := congrArg (fun a => a[2]?) h
  simp only [rdC_g2, Option.some.injEq, Value.int.injEq, true_and] at h2
  have h3 := congrArg (fun a => a[3]?) h
  simp only [rdC_g3, Option.some.injEq, Value.bool.injEq] at h3
  cases x; cases y; simp_all
theorem rdC_one (x : Rd) : ∀ u ∈ (rdC x).toList, u.oneCell' = true := by
  intro u hu
  simp only [rdC, Array.toList_append, List.mem_append] at hu
  rcases hu with ((hu | hu) | hu) | hu
  · simp at hu; subst hu; rfl
  · simp at hu; subst hu; rfl
  · simp at hu; subst hu; rfl
  · simp at hu; subst hu; rfl
def rd0 : Rd := ⟨⟨#[]⟩, 0, 0, false⟩
theorem Rd_ext {x y : Rd} (h : x.s = y.s ∧ x.p = y.p ∧ x.bad = y.bad ∧ x.made = y.made) : x = y := by cases x; cases y; simp_all
instance : DecidableEq Rd := fun x y => if h : x.s = y.s ∧ x.p = y.p ∧ x.bad = y.bad ∧ x.made = y.made then isTrue (Rd_ext h) else isFalse (fun e => h (by subst e; simp))
theorem infoRd : (Try.prog.info? 157).map (·.size) = some 4 := by kernel_rfl
@[go_sem ↓] theorem zeroRd_run (w : World) : (zeroValue 157).run Try.prog w = .ok (.agg (rdC rd0)) w := by
  have h : (Try.prog.info? 157).bind (·.zero) = some (.agg (rdC rd0)) := by kernel_rfl
  cases hi : Try.prog.info? 157 with
  | none => rw [hi] at h; cases h
  | some i =>
    rw [hi] at h
    have hz : i.zero = some (.agg (rdC rd0)) := h
    simp [zeroValue, typeInfo, hi, hz]
@[go_sem ↓] theorem loadRd_rw (a : Addr) : loadVar 157 a = ldS 157 a := rfl
@[go_sem ↓] theorem storeRd_rw (a : Addr) (v : Value) : storeVar 157 a v = stS 157 a v := rfl
@[go_sem] theorem loadRd_run (w : World) (g o : Nat) : (ldS 157 ⟨g, o, none⟩).run Try.prog w = match rowAt w g o 4 with | some cs => .ok (.agg cs) w | none => (loadVar 157 ⟨g, o, none⟩).run Try.prog w :=
  run_ldS Try.underlying157 rfl infoRd w g o
@[go_sem] theorem storeRd_run (w : World) (g : Nat) (hg : g = w.heap.size) (z : Array Value) (hz : z.size = 4) (x : Rd) (e : TypeId) : (stS 157 ⟨g, 0, none⟩ (.agg (rdC x))).run Try.prog (w.alloc (.cells z e)) = .ok () (w.alloc (.cells (rdC x) e)) :=
  hg ▸ run_stS_new infoRd w z (rdC x) hz (rdC_size x) (rdC_one x)
theorem fieldsRd : Try.prog.underlying 157 = some (.struct (Try.prog.fieldsOf 157)) := by kernel_rfl
theorem placesRd (w : World) : ((Try.prog.fieldsOf 157).mapM fun (f : Field) => do pure (f.offset, ← sizeOf f.type)).run Try.prog w = .ok #[(0, 1), (1, 1), (2, 1), (3, 1)] w := by kernel_rfl
@[go_sem ↓] theorem buildRd_rw (parts : Array (Nat × Value)) : Instr.build 157 parts = bdS 157 parts := rfl
@[go_sem] theorem buildRd (a0 : ByteArray) (a1 : Int) (a2 : Int) (a3 : Bool) (w : World) : (bdS 157 #[(0, .string a0), (1, .int .i64 a1), (2, .int .i64 a2), (3, .bool a3)]).run Try.prog w = .ok (.agg (rdC ⟨a0, a1, a2, a3⟩)) w := by
  refine run_build w fieldsRd _ (zeroRd_run w) _ (placesRd w) [(0, .string a0), (1, .int .i64 a1), (2, .int .i64 a2), (3, .bool a3)] _ ?_
  rw [show rdC rd0 = (#[] : Array Value) ++ #[.string ⟨#[]⟩] ++ (#[.int .i64 0] ++ (#[.int .i64 0] ++ (#[.bool false]))) from by first | (simp [rdC, rd0, Array.append_assoc]; done) | (apply Array.ext'; simp [rdC, rd0])]
  rw [fill_step (off := 0) (size := 1) rfl (by simp) (by simp) (by simp [Value.cells])]
  rw [show (#[] : Array Value) ++ (Value.string a0).cells ++ (#[.int .i64 0] ++ (#[.int .i64 0] ++ (#[.bool false]))) = (#[.string a0]) ++ #[.int .i64 0] ++ (#[.int .i64 0] ++ (#[.bool false])) from by first | (simp [Value.cells, Array.append_assoc]; done) | (apply Array.ext'; simp [Value.cells]; done) | (apply Array.ext'; simp only [Array.toList_append]; simp [Value.cells])]
  rw [fill_step (off := 1) (size := 1) rfl (by simp) (by simp) (by simp [Value.cells])]
  rw [show (#[.string a0]) ++ (Value.int .i64 a1).cells ++ (#[.int .i64 0] ++ (#[.bool false])) = (#[.string a0] ++ (#[.int .i64 a1])) ++ #[.int .i64 0] ++ (#[.bool false]) from by first | (simp [Value.cells, Array.append_assoc]; done) | (apply Array.ext'; simp [Value.cells]; done) | (apply Array.ext'; simp only [Array.toList_append]; simp [Value.cells])]
  rw [fill_step (off := 2) (size := 1) rfl (by simp) (by simp) (by simp [Value.cells])]
  rw [show (#[.string a0] ++ (#[.int .i64 a1])) ++ (Value.int .i64 a2).cells ++ (#[.bool false]) = (#[.string a0] ++ (#[.int .i64 a1] ++ (#[.int .i64 a2]))) ++ #[.bool false] ++ (#[] : Array Value) from by first | (simp [Value.cells, Array.append_assoc]; done) | (apply Array.ext'; simp [Value.cells]; done) | (apply Array.ext'; simp only [Array.toList_append]; simp [Value.cells])]
  rw [fill_step (off := 3) (size := 1) rfl (by simp) (by simp) (by simp [Value.cells])]
  first | (simp [Instr.fill, rdC, Array.append_assoc, Value.cells]; done) | (simp only [Instr.fill, rdC]; congr 1; apply Array.ext'; simp [Value.cells]; done) | (simp only [Instr.fill, rdC]; congr 1; done) | (simp only [Instr.fill, rdC]; done)
@[go_sem] theorem buildRd_0_3 (a0 : ByteArray) (a3 : Bool) (w : World) : (bdS 157 #[(0, .string a0), (3, .bool a3)]).run Try.prog w = .ok (.agg (rdC ⟨a0, 0, 0, a3⟩)) w := by
  refine run_build w fieldsRd _ (zeroRd_run w) _ (placesRd w) [(0, .string a0), (3, .bool a3)] _ ?_
  rw [show rdC rd0 = (#[] : Array Value) ++ #[.string ⟨#[]⟩] ++ (#[.int .i64 0] ++ (#[.int .i64 0] ++ (#[.bool false]))) from by first | (simp [rdC, rd0, Array.append_assoc]; done) | (apply Array.ext'; simp [rdC, rd0])]
  rw [fill_step (off := 0) (size := 1) rfl (by simp) (by simp) (by simp [Value.cells])]
  rw [show (#[] : Array Value) ++ (Value.string a0).cells ++ (#[.int .i64 0] ++ (#[.int .i64 0] ++ (#[.bool false]))) = (#[.string a0] ++ (#[.int .i64 0] ++ (#[.int .i64 0]))) ++ #[.bool false] ++ (#[] : Array Value) from by first | (simp [Value.cells, Array.append_assoc]; done) | (apply Array.ext'; simp [Value.cells]; done) | (apply Array.ext'; simp only [Array.toList_append]; simp [Value.cells])]
  rw [fill_step (off := 3) (size := 1) rfl (by simp) (by simp) (by simp [Value.cells])]
  first | (simp [Instr.fill, rdC, Array.append_assoc, Value.cells]; done) | (simp only [Instr.fill, rdC]; congr 1; apply Array.ext'; simp [Value.cells]; done) | (simp only [Instr.fill, rdC]; congr 1; done) | (simp only [Instr.fill, rdC]; done)

/-! ### What is read, as lists -/
def mkB (l : List UInt8) : ByteArray := ⟨l.toArray⟩
def rawV (n : Nat) (l : List UInt8) (e : Int) : List UInt8 := if e = 0 ∧ n ≤ l.length then l.take n else []
def rawL (n : Nat) (l : List UInt8) (e : Int) : List UInt8 := if e = 0 ∧ n ≤ l.length then l.drop n else l
def rawE (n : Nat) (l : List UInt8) (e : Int) : Int := if e = 0 then (if n ≤ l.length then 0 else 2) else e
def beN (l : List UInt8) : Nat := l.foldl (fun n c => 256 * n + c.toNat) 0
def endE (l : List UInt8) (e : Int) : Int := if e = 0 then (if l = [] then 0 else 4) else e

theorem beN_snoc (l : List UInt8) (c : UInt8) : beN (l ++ [c]) = 256 * beN l + c.toNat := by simp [beN]
theorem foldl_lt : ∀ (l : List UInt8) (a : Nat), l.foldl (fun n c => 256 * n + c.toNat) a < (a + 1) * 256 ^ l.length
  | [], a => by simp
  | c :: l, a => by
    have h := foldl_lt l (256 * a + c.toNat)
    have hc := c.toNat_lt
    simp only [List.foldl_cons, List.length_cons]
    refine Nat.lt_of_lt_of_le h ?_
    rw [Nat.pow_succ, Nat.mul_comm (256 ^ l.length) 256, ← Nat.mul_assoc]
    refine Nat.mul_le_mul_right _ ?_
    omega
theorem beN_lt (l : List UInt8) : beN l < 256 ^ l.length := by have := foldl_lt l 0; simpa [beN] using this
theorem rawV_length (n : Nat) (l : List UInt8) (e : Int) : (rawV n l e).length ≤ n := by unfold rawV; split <;> simp; omega

/-- A reader that has the bytes l left, and the fault e. -/
def RdAt (w : World) (g : Nat) (l : List UInt8) (e : Int) : Prop :=
  ∃ (s : ByteArray) (a : Nat), a ≤ s.size ∧ s.size ≤ 9223372036854775807 ∧ w.heap[g]? = some (.cells (rdC ⟨s, a, e, true⟩) 157 (0, 0)) ∧ l = s.data.toList.drop a

theorem RdAt.lt {w : World} {g : Nat} {l : List UInt8} {e : Int} (h : RdAt w g l e) : g < w.heap.size := by
  obtain ⟨s, a, _, _, hg, _⟩ := h
  exact (Array.getElem?_eq_some_iff.1 hg).1
theorem RdAt.kept {w w' : World} {g : Nat} {l : List UInt8} {e : Int} {S : List Nat} (h : RdAt w g l e) (k : Keep S w w') (hg : g ∉ S) : RdAt w' g l e := by
  have hl := h.lt
  obtain ⟨s, a, h1, h2, h3, h4⟩ := h
  exact ⟨s, a, h1, h2, (k.block g hl hg).trans h3, h4⟩
theorem RdAt.below {w w' : World} {g : Nat} {l : List UInt8} {e : Int} (h : RdAt w g l e) (k : Below w.heap.size w w') : RdAt w' g l e := h.kept (Keep.of_below k) (by simp)

theorem rd_open (s : ByteArray) (w : World) (hs : s.size ≤ 9223372036854775807) : Calls Try.prog 55 #[.string s] w fun e w' => e = .returned (.pointer (some ⟨w.heap.size, 0, none⟩)) ∧ RdAt w' w.heap.size s.data.toList 0 ∧ Below w.heap.size w w' := by
  go_enter Try.func55, Try.ntmps55
  go_wp2_with fail
  go_ret
  exact ⟨rfl, ⟨s, 0, Nat.zero_le _, hs, heap_alloc_new w _, by simp⟩, (Below.refl _ _).alloc (Nat.le_refl _) _⟩

theorem rd_cells {w : World} {g : Nat} {s : ByteArray} {a : Nat} {e : Int} (h : w.heap[g]? = some (.cells (rdC ⟨s, a, e, true⟩) 157 (0, 0))) :
    w.cell? ⟨g, 0, none⟩ = some (.string s) ∧ w.cell? ⟨g, 1, none⟩ = some (.int .i64 a) ∧ w.cell? ⟨g, 2, none⟩ = some (.int .i64 e) ∧ w.cell? ⟨g, 3, none⟩ = some (.bool true) ∧ (∀ j, w.frozen? ⟨g, j, none⟩ = false) := by
  refine ⟨?_, ?_, ?_, ?_, fun j => by simp [World.frozen?, h]⟩ <;> rw [cell_of_row w g _ _ _ _ h] <;> simp [go_sem]

theorem rd_none (w : World) (g : Nat) (h : w.cell? ⟨g, 3, none⟩ = some (.bool true)) : Calls Try.prog 94 #[.pointer (some ⟨g, 0, none⟩)] w fun e w' => e = .returned (.bool false) ∧ w = w' := by
  go_enter Try.func94, Try.ntmps94
  go_wp2_with fail
  go_ret
  exact ⟨rfl, rfl⟩
theorem rd_stuck (w : World) (g : Nat) (e : Int) (h : w.cell? ⟨g, 3, none⟩ = some (.bool true)) (h2 : w.cell? ⟨g, 2, none⟩ = some (.int .i64 e)) : Calls Try.prog 107 #[.pointer (some ⟨g, 0, none⟩)] w fun en w' => en = .returned (.bool (!(e == 0))) ∧ w = w' := by
  go_enter Try.func107, Try.ntmps107
  go_wp2_with fail
  refine (rd_none _ _ h).mono ?_; rintro en w' ⟨rfl, rfl⟩
  go_wp2_with fail
  go_ret
  refine ⟨ret_bool ?_, rfl⟩
  first | rfl | simp
theorem rd_err (w : World) (g : Nat) (l : List UInt8) (e : Int) (h : RdAt w g l e) : Calls Try.prog 57 #[.pointer (some ⟨g, 0, none⟩)] w fun en w' => en = .returned (.int .i64 e) ∧ w = w' := by
  obtain ⟨s, a, _, _, hg, _⟩ := h
  obtain ⟨_, _, c2, c3, _⟩ := rd_cells hg
  go_enter Try.func57, Try.ntmps57
  go_wp2_with fail
  refine (rd_none _ _ c3).mono ?_; rintro en w' ⟨rfl, rfl⟩
  go_wp2_with fail
  go_ret
  exact ⟨rfl, rfl⟩

def RdStep (w : World) (g : Nat) (l : List UInt8) (e : Int) (w' : World) : Prop := RdAt w' g l e ∧ Keep [g] w w'
set_option maxHeartbeats 1000000 in
theorem rd_raw (w : World) (g n : Nat) (l : List UInt8) (e : Int) (h : RdAt w g l e) (hn : n ≤ 9223372036854775807) :
    Calls Try.prog 93 #[.pointer (some ⟨g, 0, none⟩), .int .i64 n] w fun en w' => en = .returned (.string (mkB (rawV n l e))) ∧ RdStep w g (rawL n l e) (rawE n l e) w' := by
  have h0 := h
  obtain ⟨s, a, ha, hs, hg, hl⟩ := h
  obtain ⟨c0, c1, c2, c3, hf⟩ := rd_cells hg
  have f1 := hf 1; have f2 := hf 2
  have hll : l.length = s.size - a := by rw [hl, List.length_drop]; rfl
  clear hf
  cases he : (e == 0) with
  | false =>
    have he' : e ≠ 0 := by simpa using he
    have e1 : rawV n l e = [] := by unfold rawV; rw [if_neg (fun hh => he' hh.1)]
    have e2 : rawL n l e = l := by unfold rawL; rw [if_neg (fun hh => he' hh.1)]
    have e3 : rawE n l e = e := by unfold rawE; rw [if_neg he']
    have E1 := Lib.hid e1; have E2 := Lib.hid e2; have E3 := Lib.hid e3
    have H0 := Lib.hid h0
    clear e1 e2 e3 hl hll h0 he'
    go_enter Try.func93, Try.ntmps93
    go_wp2_with fail
    refine (rd_stuck _ _ e c3 c2).mono ?_; rintro en w' ⟨rfl, rfl⟩
    go_wp2_with fail
    go_ret
    exact ⟨ret_str (by rw [E1.out]; rfl), by rw [E2.out, E3.out]; exact ⟨H0.out, Keep.refl _ _⟩⟩
  | true =>
    obtain rfl : e = 0 := by simpa using he
    clear he
    by_cases hns : n ≤ l.length
    · have e1 : rawV n l 0 = l.take n := by unfold rawV; rw [if_pos ⟨rfl, hns⟩]
      have e2 : rawL n l 0 = l.drop n := by unfold rawL; rw [if_pos ⟨rfl, hns⟩]
      have e3 : rawE n l 0 = 0 := by unfold rawE; rw [if_pos rfl, if_pos hns]
      have E1 := Lib.hid e1; have E2 := Lib.hid e2; have E3 := Lib.hid e3
      have hlt : ¬ (s.size : Int) - a < n := by omega
      have han : a + n ≤ s.size := by omega
      have Hl := Lib.hid hl
      have Hg := Lib.hid hg
      clear e1 e2 e3 hl hll h0 hns hg
      have hlt1 : decide ((s.size : Int) - a < n) = false := by simpa using hlt
      have w1 : IntKind.i64.wrap ((s.size : Int) - a) = (s.size : Int) - a := IntWalk.i64_in _ (by omega)
      have hn0 : decide ((n : Int) < 0) = false := by simp
      clear hlt
      go_enter Try.func93, Try.ntmps93
      go_wp2_with fail
      refine (rd_stuck _ _ 0 c3 c2).mono ?_; rintro en w' ⟨rfl, rfl⟩
      go_upto_region 6 with fail
      refine wp_region_lex (Bel w) false (by kernel_rfl) (by kernel_rfl) (by kernel_rfl) (bel_drew w) ?_
      have hne := bel_some w
      have hS := bel_drew w
      have b1 := sub_cell c0; have b2 := sub_cell c1
      repeat (refine wpLx_loose ?_ ?_; (focus (simp only [chainOp]; done)); intro K hK; go_simp; refine hK _ ?_; clear hK K)
      refine wpLx_nil ?_
      intro hS
      clear hne hS b1 b2 w1
      go_upto_region 10 with fail
      have d0 : (w.setCell ⟨g, 1, none⟩ (.int .i64 ((a : Int) + n))).drew.cell? ⟨g, 0, none⟩ = some (.string s) := by go_simp
      have d1 : (w.setCell ⟨g, 1, none⟩ (.int .i64 ((a : Int) + n))).drew.cell? ⟨g, 1, none⟩ = some (.int .i64 ((a : Int) + n)) := by go_simp
      have hge : (w.setCell ⟨g, 1, none⟩ (.int .i64 ((a : Int) + n))).drew.heap[g]? = some (.cells (rdC ⟨s, (a + n : Nat), 0, true⟩) 157 (0, 0)) := by
        show (w.setCell ⟨g, 1, none⟩ (.int .i64 ((a : Int) + n))).heap[g]? = _
        rw [heap_setCell_same Hg.out]; simp [rdC]
      have hke : Keep [g] w (w.setCell ⟨g, 1, none⟩ (.int .i64 ((a : Int) + n))).drew := Keep.trans (Keep.setCell w ⟨g, 1, none⟩ _) (Keep.drew _) (by simp)
      have w2 : IntKind.i64.wrap ((a : Int) + n - n) = a := by rw [show (a : Int) + n - n = a by omega]; exact IntWalk.i64_in _ (by omega)
      have w3 : IntKind.i64.wrap (a : Int) = a := IntWalk.i64_in _ (by omega)
      have hex : s.extract a (a + n) = mkB (l.take n) := by
        rw [Hl.out]
        apply ByteArray.ext
        apply Array.toList_inj.mp
        rw [ByteArray.data_extract, Array.toList_extract]
        simp [mkB, List.extract_eq_take_drop]
      have Hex := Lib.hid hex
      clear hex c0 c1 c2 c3 f1 f2
      have k1 : (0 : Int) ≤ (a : Int) + n := by omega
      have k2 : (a : Int) + n ≤ s.size := by omega
      have k3 : (a : Int) ≤ (a : Int) + n := by omega
      have k4 : ((a : Int) + n).toNat = a + n := by omega
      generalize (w.setCell ⟨g, 1, none⟩ (.int .i64 ((a : Int) + n))).drew = W at *
      refine wp_region_lex (Bel W) false (by kernel_rfl) (by kernel_rfl) (by kernel_rfl) (bel_drew W) ?_
      have hne := bel_some W
      have hS := bel_drew W
      have b1 := sub_cell d0; have b2 := sub_cell d1
      repeat (refine wpLx_loose ?_ ?_; (focus (simp only [chainOp]; done)); intro K hK; go_simp; refine hK _ ?_; clear hK K)
      refine wpLx_nil ?_
      intro hS
      clear k1 k2 k3 k4 w2 w3
      go_wp2_with fail
      go_ret
      refine ⟨ret_str (by rw [E1.out]; exact Hex.out), ?_⟩
      rw [E2.out, E3.out]
      exact ⟨⟨s, a + n, han, hs, hge, by rw [Hl.out, List.drop_drop]⟩, Keep.trans hke (Keep.drew _) (by simp)⟩
    · have e1 : rawV n l 0 = [] := by unfold rawV; rw [if_neg (fun hh => hns hh.2)]
      have e2 : rawL n l 0 = l := by unfold rawL; rw [if_neg (fun hh => hns hh.2)]
      have e3 : rawE n l 0 = 2 := by unfold rawE; rw [if_pos rfl, if_neg hns]
      have E1 := Lib.hid e1; have E2 := Lib.hid e2; have E3 := Lib.hid e3
      have hlt1 : decide ((s.size : Int) - a < n) = true := by simp; omega
      have Hl := Lib.hid hl
      have Hg := Lib.hid hg
      clear e1 e2 e3 hl hll h0 hns hg
      have w1 : IntKind.i64.wrap ((s.size : Int) - a) = (s.size : Int) - a := IntWalk.i64_in _ (by omega)
      have hn0 : decide ((n : Int) < 0) = false := by simp
      go_enter Try.func93, Try.ntmps93
      go_wp2_with fail
      refine (rd_stuck _ _ 0 c3 c2).mono ?_; rintro en w' ⟨rfl, rfl⟩
      go_upto_region 6 with fail
      refine wp_region_lex (Bel w) false (by kernel_rfl) (by kernel_rfl) (by kernel_rfl) (bel_drew w) ?_
      have hne := bel_some w
      have hS := bel_drew w
      have b1 := sub_cell c0; have b2 := sub_cell c1
      repeat (refine wpLx_loose ?_ ?_; (focus (simp only [chainOp]; done)); intro K hK; go_simp; refine hK _ ?_; clear hK K)
      refine wpLx_nil ?_
      intro hS
      clear hne hS b1 b2 w1
      go_wp2_with fail
      go_ret
      refine ⟨ret_str (by rw [E1.out]; rfl), ?_⟩
      rw [E2.out, E3.out]
      refine ⟨⟨s, a, ha, hs, ?_, Hl.out⟩, Keep.trans (Keep.setCell w ⟨g, 2, none⟩ _) (Keep.drew _) (by simp)⟩
      show (w.setCell ⟨g, 2, none⟩ _).heap[g]? = _
      rw [heap_setCell_same Hg.out]; simp [rdC]

theorem rd_end (w : World) (g : Nat) (l : List UInt8) (e : Int) (h : RdAt w g l e) : Calls Try.prog 58 #[.pointer (some ⟨g, 0, none⟩)] w fun en w' => en = .returned (.int .i64 (endE l e)) ∧ Below w.heap.size w w' := by
  have h0 := h
  obtain ⟨s, a, ha, hs, hg, hl⟩ := h
  obtain ⟨c0, c1, c2, c3, _⟩ := rd_cells hg
  have hll : l.length = s.size - a := by rw [hl, List.length_drop]; rfl
  cases he : (e == 0) with
  | false =>
    have he' : e ≠ 0 := by simpa using he
    have e1 : endE l e = e := by unfold endE; rw [if_neg he']
    have E1 := Lib.hid e1
    have heb : (e != 0) = true := by simpa using he'
    clear e1 hl hll he'
    go_enter Try.func58, Try.ntmps58
    go_wp2_with fail
    refine (rd_err _ _ _ _ h0).mono ?_; rintro en w' ⟨rfl, rfl⟩
    go_upto_region 2 with fail
    refine wp_region_lex (Bel w) false (by kernel_rfl) (by kernel_rfl) (by kernel_rfl) (bel_drew w) ?_
    have hne := bel_some w
    have hS := bel_drew w
    repeat (refine wpLx_loose ?_ ?_; (focus (simp only [chainOp]; done)); intro K hK; go_simp; refine hK _ ?_; clear hK K)
    refine wpLx_nil ?_
    intro hS
    go_wp2_with fail
    go_ret
    exact ⟨ret_int (by rw [E1.out]), (Below.refl _ _).drew⟩
  | true =>
    obtain rfl : e = 0 := by simpa using he
    clear he
    by_cases hz : a = s.size
    · have hl0 : l = [] := List.eq_nil_of_length_eq_zero (by omega)
      have e1 : endE l 0 = 0 := by unfold endE; rw [if_pos rfl, if_pos hl0]
      have E1 := Lib.hid e1
      have hzz : ((a : Int) == (s.size : Int)) = true := by rw [beq_iff_eq, hz]
      clear e1 hl hll hl0 hz
      go_enter Try.func58, Try.ntmps58
      go_wp2_with fail
      refine (rd_err _ _ _ _ h0).mono ?_; rintro en w' ⟨rfl, rfl⟩
      go_upto_region 2 with fail
      refine wp_region_lex (Bel w) false (by kernel_rfl) (by kernel_rfl) (by kernel_rfl) (bel_drew w) ?_
      have hne := bel_some w
      have hS := bel_drew w
      have b1 := sub_cell c0; have b2 := sub_cell c1
      repeat (refine wpLx_loose ?_ ?_; (focus (simp only [chainOp]; done)); intro K hK; go_simp; refine hK _ ?_; clear hK K)
      refine wpLx_nil ?_
      intro hS
      go_wp2_with fail
      go_ret
      exact ⟨ret_int (by rw [E1.out]), (Below.refl _ _).drew⟩
    · have hl0 : l ≠ [] := by intro hh; rw [hh] at hll; simp at hll; omega
      have e1 : endE l 0 = 4 := by unfold endE; rw [if_pos rfl, if_neg hl0]
      have E1 := Lib.hid e1
      have hzz : ((a : Int) == (s.size : Int)) = false := by rw [beq_eq_false_iff_ne]; omega
      clear e1 hl hll hl0 hz
      go_enter Try.func58, Try.ntmps58
      go_wp2_with fail
      refine (rd_err _ _ _ _ h0).mono ?_; rintro en w' ⟨rfl, rfl⟩
      go_upto_region 2 with fail
      refine wp_region_lex (Bel w) false (by kernel_rfl) (by kernel_rfl) (by kernel_rfl) (bel_drew w) ?_
      have hne := bel_some w
      have hS := bel_drew w
      have b1 := sub_cell c0; have b2 := sub_cell c1
      repeat (refine wpLx_loose ?_ ?_; (focus (simp only [chainOp]; done)); intro K hK; go_simp; refine hK _ ?_; clear hK K)
      refine wpLx_nil ?_
      intro hS
      go_wp2_with fail
      go_ret
      exact ⟨ret_int (by rw [E1.out]), (Below.refl _ _).drew⟩

end Go.Proofs.Ytlonihfhgfmplaa
