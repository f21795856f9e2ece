/- Package last: read. -/
import Derived.Test.YtlonihfhgfmplaaLdW
import Derived.Lib.BufferWrite
namespace Go.Proofs.Ytlonihfhgfmplaa
open Go.RowKit

structure Nm where
  key : ByteArray
  set : Setting
/-- Its cells. -/
def nmC (x : Nm) : Array Value := #[.string x.key] ++ settingC x.set
@[simp] theorem nmC_size (x : Nm) : (nmC x).size = 35 := by simp [nmC]
@[go_sem] theorem nmC_g0 (x : Nm) : (nmC x)[0]? = some (.string x.key) := by simp [nmC, Array.getElem?_append]
@[go_sem] theorem nmC_gg0 (x : Nm) (h : 0 < (nmC x).size) : (nmC x)[0]'h = .string x.key := Option.some.inj ((Array.getElem?_eq_getElem h).symm.trans (nmC_g0 x))
@[go_sem] theorem nmC_e1 (x : Nm) : (nmC x).extract 1 35 = settingC x.set := by
  have h : nmC x = (#[.string x.key]) ++ settingC x.set ++ ((#[] : Array Value)) := by simp [nmC, Array.append_assoc]
  rw [h]; exact arr_mid _ _ _ _ _ (by simp) (by simp)
@[go_sem] theorem nmC_all (x : Nm) : (nmC x).extract 0 35 = nmC x := by have := Array.extract_size (xs := nmC x); rwa [nmC_size] at this
theorem nmC_inj {x y : Nm} (h : nmC x = nmC y) : x = y := by
  have h0 := congrArg (fun a => a[0]?) h
  simp only [nmC_g0, Option.some.injEq, Value.string.injEq] at h0
  have h1 := congrArg (fun a => a.extract 1 35) h
  simp only [nmC_e1] at h1
  have h1 := settingC_inj h1
  cases x; cases y; simp_all
theorem nmC_one (x : Nm) : ∀ u ∈ (nmC x).toList, u.oneCell' = true := by
  intro u hu
  simp only [nmC, Array.toList_append, List.mem_append] at hu
  rcases hu with hu | hu
  · simp at hu; subst hu; rfl
  · exact settingC_one _ u hu
def nm0 : Nm := ⟨⟨#[]⟩, setting0⟩
theorem Nm_ext {x y : Nm} (h : x.key = y.key ∧ x.set = y.set) : x = y := by cases x; cases y; simp_all
instance : DecidableEq Nm := fun x y => if h : x.key = y.key ∧ x.set = y.set then isTrue (Nm_ext h) else isFalse (fun e => h (by subst e; simp))
theorem infoNm : (Try.prog.info? 111).map (·.size) = some 35 := by kernel_rfl
@[go_sem ↓] theorem zeroNm_run (w : World) : (zeroValue 111).run Try.prog w = .ok (.agg (nmC nm0)) w := by
  have h : (Try.prog.info? 111).bind (·.zero) = some (.agg (nmC nm0)) := by kernel_rfl
  cases hi : Try.prog.info? 111 with
  | none => rw [hi] at h; cases h
  | some i =>
    rw [hi] at h
    have hz : i.zero = some (.agg (nmC nm0)) := h
    simp [zeroValue, typeInfo, hi, hz]
@[go_sem ↓] theorem loadNm_rw (a : Addr) : loadVar 111 a = ldS 111 a := rfl
@[go_sem ↓] theorem storeNm_rw (a : Addr) (v : Value) : storeVar 111 a v = stS 111 a v := rfl
@[go_sem] theorem loadNm_run (w : World) (g o : Nat) : (ldS 111 ⟨g, o, none⟩).run Try.prog w = match rowAt w g o 35 with | some cs => .ok (.agg cs) w | none => (loadVar 111 ⟨g, o, none⟩).run Try.prog w :=
  run_ldS Try.underlying111 rfl infoNm w g o
@[go_sem] theorem storeNm_run (w : World) (g : Nat) (hg : g = w.heap.size) (z : Array Value) (hz : z.size = 35) (x : Nm) (e : TypeId) : (stS 111 ⟨g, 0, none⟩ (.agg (nmC x))).run Try.prog (w.alloc (.cells z e)) = .ok () (w.alloc (.cells (nmC x) e)) :=
  hg ▸ run_stS_new infoNm w z (nmC x) hz (nmC_size x) (nmC_one x)
theorem fieldsNm : Try.prog.underlying 111 = some (.struct (Try.prog.fieldsOf 111)) := by kernel_rfl
theorem placesNm (w : World) : ((Try.prog.fieldsOf 111).mapM fun (f : Field) => do pure (f.offset, ← sizeOf f.type)).run Try.prog w = .ok #[(0, 1), (1, 34)] w := by kernel_rfl
@[go_sem ↓] theorem buildNm_rw (parts : Array (Nat × Value)) : Instr.build 111 parts = bdS 111 parts := rfl
@[go_sem ↓] theorem fieldNm_0 (x : Nm) (w : World) : (Instr.field 111 (.agg (nmC x)) 0).run Try.prog w = .ok (.string x.key) w := by
  unfold Instr.field
  simp only [Sem.run_bind, run_underlying Try.underlying111, Result.andThen_ok, part, asAgg, isAgg]
  simp [go_sem]
@[go_sem ↓] theorem fieldNm_1 (x : Nm) (w : World) : (Instr.field 111 (.agg (nmC x)) 1).run Try.prog w = .ok (.agg (settingC x.set)) w := by
  unfold Instr.field
  simp only [Sem.run_bind, run_underlying Try.underlying111, Result.andThen_ok, part, asAgg, isAgg]
  simp [go_sem]
@[go_sem] theorem buildNm (a0 : ByteArray) (a1 : Setting) (w : World) : (bdS 111 #[(0, .string a0), (1, .agg (settingC a1))]).run Try.prog w = .ok (.agg (nmC ⟨a0, a1⟩)) w := by
  refine run_build w fieldsNm _ (zeroNm_run w) _ (placesNm w) [(0, .string a0), (1, .agg (settingC a1))] _ ?_
  rw [show nmC nm0 = (#[] : Array Value) ++ #[.string ⟨#[]⟩] ++ (settingC setting0) from by first | (simp [nmC, nm0, Array.append_assoc]; done) | (apply Array.ext'; simp [nmC, nm0])]
  rw [fill_step (off := 0) (size := 1) rfl (by simp) (by simp) (by simp [Value.cells])]
  rw [show (#[] : Array Value) ++ (Value.string a0).cells ++ (settingC setting0) = (#[.string a0]) ++ settingC setting0 ++ (#[] : Array Value) from by first | (simp [Value.cells, Array.append_assoc]; done) | (apply Array.ext'; simp [Value.cells]; done) | (apply Array.ext'; simp only [Array.toList_append]; simp [Value.cells])]
  rw [fill_step (off := 1) (size := 34) rfl (by simp) (by simp) (by simp [Value.cells])]
  first | (simp [Instr.fill, nmC, Array.append_assoc, Value.cells]; done) | (simp only [Instr.fill, nmC]; congr 1; apply Array.ext'; simp [Value.cells])

def nmOf (x : Row) : Nm := ⟨x.key, rowS x⟩
theorem einfoNm : ElemInfo Try.prog 107 111 35 72 :=
  .of (z := .agg (nmC nm0)) Try.underlying107 (by kernel_rfl) (by kernel_rfl) (by kernel_rfl) (nmC_size _) (by omega)
@[go_sem ↓] theorem bsNm_rw (n : Nat) (parts : Array (Nat × Value)) : Instr.buildSlice 107 n parts = bsS 107 n parts := rfl
@[go_sem] theorem bsNm_run (w : World) (x : Nm) : (bsS 107 1 #[(0, .agg (nmC x))]).run Try.prog w = .ok (.slice (some ⟨w.heap.size, 0, none⟩) 1 1) (w.alloc (.cells (nmC x) 111)) :=
  run_bsS1 einfoNm (by omega) w (nmC x) (nmC_size x)

theorem nm_row (x : Row) : nmC (nmOf x) = rowC x := by
  unfold nmC nmOf rowC rowS settingC
  apply Array.ext'; simp
set_option maxRecDepth 100000 in
theorem rowC_set0 (k k' v : ByteArray) (n : Int) (d : Id32) : (rowC ⟨k, v, n, d⟩).setIfInBounds 0 (.string k') = rowC ⟨k', v, n, d⟩ := by
  apply Array.ext'; simp [rowC]
/-- An id's bytes, or none, copied into a box. -/
theorem copy_id {w : World} {g : Nat} {k v : ByteArray} {n : Int} (b : List UInt8) (hb : b.length = 32 ∨ b = []) (ty : TypeId) (c : Nat) (h : w.heap[g]? = some (.cells (rowC ⟨k, v, n, id0⟩) 111 (0, 0))) :
    ∃ w' m, (Builtin.copy_ #[100, 9] ty #[.slice (some ⟨g, 3, none⟩) 32 c, .string (mkB b)]).run Try.prog w = .ok m w' ∧ w'.heap[g]? = some (.cells (rowC ⟨k, v, n, idOf b⟩) 111 (0, 0)) ∧ Keep [g] w w' := by
  rcases hb with hb | hb
  · have hs : (mkB b).size = 32 := by rw [mkB_size, hb]
    have h1 := Go.Lib.run_copy_row_string (P := Try.prog) w 100 9 ty 5 g 3 32 c (mkB b) _ _ Try.underlying100 (by kernel_rfl) h (by omega) (by rw [hs]; simp)
    refine ⟨_, _, h1, ?_, ⟨rfl, rfl, rfl, by simp [World.setRow], fun x _ hx => setRow_other w g x _ (by simpa using hx)⟩⟩
    rw [setRow_heap w g _ _ _ _ h]
    have e3 := rowC_set3 k v n id0 (idOf b)
    have e : (idOf b).l = b := by unfold idOf; rw [dif_pos hb]
    have e2 : (idC (idOf b)).toList = Go.Lib.byteCells (mkB b).data.toList := by unfold idC; rw [e]; rfl
    rw [e2] at e3
    have e4 : (Go.Lib.byteCells (mkB b).data.toList).length = 32 := by rw [← e2]; simp
    rw [e4] at e3
    rw [hs]
    simp only [Nat.add_zero] at e3
    rw [e3]
  · subst hb
    have h1 := Go.Lib.run_copy_empty_string (P := Try.prog) w 100 9 ty 5 (some ⟨g, 3, none⟩) 32 c (mkB []) Try.underlying100 (by kernel_rfl) rfl
    exact ⟨_, _, h1, h, Keep.refl _ _⟩
theorem rd_num4 (w : World) (g : Nat) (l : List UInt8) (e : Int) (h : RdAt w g l e) :
    Calls Try.prog 92 #[.pointer (some ⟨g, 0, none⟩), .int .i64 4] w fun en w' => en = .returned (.int .i64 (numV 4 l e)) ∧ RdStep w g (rawL 4 l e) (rawE 4 l e) w' := rd_num w g 4 l e h (.inr rfl)
theorem rd_num1 (w : World) (g : Nat) (l : List UInt8) (e : Int) (h : RdAt w g l e) :
    Calls Try.prog 92 #[.pointer (some ⟨g, 0, none⟩), .int .i64 1] w fun en w' => en = .returned (.int .i64 (numV 1 l e)) ∧ RdStep w g (rawL 1 l e) (rawE 1 l e) w' := rd_num w g 1 l e h (.inl rfl)

theorem rd_raw32 (w : World) (g : Nat) (l : List UInt8) (e : Int) (h : RdAt w g l e) :
    Calls Try.prog 93 #[.pointer (some ⟨g, 0, none⟩), .int .i64 32] w fun en w' => en = .returned (.string (mkB (rawV 32 l e))) ∧ RdStep w g (rawL 32 l e) (rawE 32 l e) w' := rd_raw w g 32 l e h (by omega)

def nmsC (R : List Row) : List (Array Value) := R.map fun x => nmC (nmOf x)

set_option maxRecDepth 100000 in
set_option maxHeartbeats 4000000 in
theorem lread (w : World) (g : Nat) (l : List UInt8) (hr0 : RdAt w g l 0) :
    Calls Try.prog 56 #[.pointer (some ⟨g, 0, none⟩)] w fun e w' => ∃ A cap, e = .returned (.slice A (readRds l).rows.length cap) ∧ Own w' w.heap.size 111 35 A (readRds l).rows.length cap (nmsC (readRds l).rows) ∧ RdAt w' g (readRds l).l (readRds l).e ∧ Keep [g] w w' ∧ Fits (readRds l).rows := by
  have c0 := rd_num4 _ _ l 0 hr0
  have hN := numV_lt 4 l 0
  obtain ⟨N, hNe⟩ : ∃ N, numV 4 l 0 = N := ⟨_, rfl⟩
  have hrd : Hid (readRds l = loopRds N ⟨[], rawL 4 l 0, rawE 4 l 0⟩) := by show _ = _; rw [← hNe]; rfl
  rw [hNe] at c0 hN
  clear hNe
  have hgl := hr0.lt
  go_enter Try.func56, Try.ntmps56
  go_wp2_with fail
  refine c0.mono ?_; rintro e w1 ⟨rfl, hr1, hk1⟩
  have Hk1 := Lib.hid hk1
  have hs01 := hk1.size
  clear c0 hr0 hk1
  go_wp2_with fail
  go_loopw [3, 5] (fun out i wr => ∃ (k : Nat) (R : List Row) (l1 : List UInt8) (e1 : Int) (A1 : Option Addr) (cap1 : Nat), k ≤ N ∧ i = .int .i64 k ∧ out = .slice A1 R.length cap1 ∧ R.length = k ∧ Own wr w1.heap.size 111 35 A1 R.length cap1 (nmsC R) ∧ RdAt wr g l1 e1 ∧ Hid (loopRds N ⟨[], rawL 4 l 0, rawE 4 l 0⟩ = loopRds (N - k) ⟨R, l1, e1⟩) ∧ Hid (Fits R) ∧ Keep [g] w1 wr) (fun _ i _ => N - (intOf i).toNat)
  case atStart => exact ⟨0, [], _, _, none, 0, Nat.zero_le _, rfl, rfl, rfl, Own.nil _ _ _ _, hr1, (show _ = _ from rfl), (show Fits [] by intro x hx; cases hx), Keep.refl _ _⟩
  case round =>
    clear hr1
    obtain ⟨k, R, l1, e1, A1, cap1, hkN, rfl, rfl, hRk, hown, hr, hlp, hft, hk⟩ := hrel
    have HRk := Lib.hid hRk
    have hRN : R.length ≤ N := by omega
    clear hRk
    have hsz := hk.size
    by_cases hgo : k < N ∧ e1 = 0
    · obtain ⟨hlt, rfl⟩ := hgo
      have hlp2 := hlp.out
      rw [show N - k = (N - (k + 1)) + 1 by omega, loopRds_step _ _ rfl] at hlp2
      have Hlp := Lib.hid hlp2
      have hft2 := fits_step hft.out l1 0
      have Hft := Lib.hid hft2
      clear hlp hlp2 hft hft2
      have hgw := hr.lt
      have hgS : g ∉ blk A1 := fun hx => by have := (hown.at_base hx).1; omega
      have h8 := heap_alloc_new wr (.cells (rowC row0) 111)
      have hr3 := hr.kept (Keep.alloc wr (.cells (rowC row0) 111)) (by simp)
      have hk3 : Keep [] wr (wr.alloc (.cells (rowC row0) 111)) := Keep.alloc _ _
      have hnm0 : nmC nm0 = rowC row0 := nm_row row0
      go_wp2_with fail
      refine (rd_err _ g l1 0 hr).mono ?_; rintro e w5 ⟨rfl, rfl⟩
      go_upto_region 7 with fail
      obtain ⟨g8, hg8⟩ : ∃ g8, wr.heap.size = g8 := ⟨_, rfl⟩
      rw [hg8] at h8 ⊢
      have hgg : g < g8 := by omega
      have Hg8 := Lib.hid hg8
      clear hg8 hr hnm0
      generalize wr.alloc (.cells (rowC row0) 111) = W at *
      have hg8l : g8 < W.heap.size := (Array.getElem?_eq_some_iff.1 h8).1
      have hne8 : g8 ∉ [g] := by simp; omega
      have hng : g ∉ [g8] := by simp; omega
      go_wp2_with fail
      refine (rd_num1 _ g l1 0 hr3).mono ?_; rintro e w2 ⟨rfl, hr2, hk2⟩
      have hn2 := numV_lt 1 l1 0
      go_wp2_with fail
      refine (rd_raw _ g _ _ _ hr2 (by omega)).mono ?_; rintro e w3 ⟨rfl, hr3', hk3'⟩
      have hE2 : RdAt w3 g (txL l1 0) (txE l1 0) := hr3'
      have hk23 : Keep [g] W w3 := Keep.trans hk2 hk3' (fun x hx => .inl hx)
      have h83 := (hk23.block g8 hg8l hne8).trans h8
      obtain ⟨kv, hkv⟩ : ∃ kv, mkB (rawV (numV 1 l1 0) (rawL 1 l1 0) (rawE 1 l1 0)) = kv := ⟨_, rfl⟩
      have Hkv := Lib.hid (show txV l1 0 = kv from hkv)
      rw [hkv]
      obtain ⟨l2, hl2⟩ : ∃ l2, txL l1 0 = l2 := ⟨_, rfl⟩
      obtain ⟨e2, he2⟩ : ∃ e2, txE l1 0 = e2 := ⟨_, rfl⟩
      rw [hl2, he2] at hE2
      have Hl2 := Lib.hid hl2; have He2 := Lib.hid he2
      have x0 : w3.cell? ⟨g8, 0, none⟩ = some (.string ⟨#[]⟩) := by rw [cell_of_row w3 g8 _ _ _ _ h83]; simp [rowC, row0]
      have f0 : w3.frozen? ⟨g8, 0, none⟩ = false := by simp [World.frozen?, h83]
      have h84 := heap_setCell_same h83 0 (.string kv)
      rw [show row0 = ⟨⟨#[]⟩, ⟨#[]⟩, 0, id0⟩ from rfl, rowC_set0] at h84
      have hks := Keep.setCell w3 ⟨g8, 0, none⟩ (.string kv)
      have hE4 := hE2.kept hks hng
      have hk14 : Keep [g, g8] W (w3.setCell ⟨g8, 0, none⟩ (.string kv)) := Keep.trans (hk23.mono (S' := [g, g8]) (by simp)) (hks.mono (S' := [g, g8]) (by simp)) (fun x hx => .inl hx)
      clear hr2 hr3 hr3' hk2 hk3' hkv hl2 he2 hE2 hn2 h83 hks hk23 h8
      go_upto_region 8 with fail
      generalize w3.setCell ⟨g8, 0, none⟩ (.string kv) = W4 at *
      clear x0 f0
      have hg84 : g8 < W4.heap.size := (Array.getElem?_eq_some_iff.1 h84).1
      go_wp2_with fail
      refine (rd_num1 _ g l2 e2 hE4).mono ?_; rintro e w5 ⟨rfl, hr5, hk5⟩
      have hn5 := numV_lt 1 l2 e2
      go_wp2_with fail
      refine (rd_raw _ g _ _ _ hr5 (by omega)).mono ?_; rintro e w6 ⟨rfl, hr6, hk6⟩
      have hE6 : RdAt w6 g (txL l2 e2) (txE l2 e2) := hr6
      have hk56 : Keep [g] W4 w6 := Keep.trans hk5 hk6 (fun x hx => .inl hx)
      have h86 := (hk56.block g8 hg84 hne8).trans h84
      obtain ⟨vv, hvv⟩ : ∃ vv, mkB (rawV (numV 1 l2 e2) (rawL 1 l2 e2) (rawE 1 l2 e2)) = vv := ⟨_, rfl⟩
      have Hvv := Lib.hid (show txV l2 e2 = vv from hvv)
      rw [hvv]
      obtain ⟨l3, hl3⟩ : ∃ l3, txL l2 e2 = l3 := ⟨_, rfl⟩
      obtain ⟨e3, he3⟩ : ∃ e3, txE l2 e2 = e3 := ⟨_, rfl⟩
      rw [hl3, he3] at hE6
      have Hl3 := Lib.hid hl3; have He3 := Lib.hid he3
      have x1 : w6.cell? ⟨g8, 1, none⟩ = some (.string ⟨#[]⟩) := by rw [cell_of_row w6 g8 _ _ _ _ h86]; simp [go_sem]
      have f1 : w6.frozen? ⟨g8, 1, none⟩ = false := by simp [World.frozen?, h86]
      have h87 := heap_setCell_same h86 1 (.string vv)
      rw [rowC_set1] at h87
      have hks := Keep.setCell w6 ⟨g8, 1, none⟩ (.string vv)
      have hE7 := hE6.kept hks hng
      have hk17 : Keep [g, g8] W (w6.setCell ⟨g8, 1, none⟩ (.string vv)) := Keep.trans (Keep.trans hk14 (hk56.mono (S' := [g, g8]) (by simp)) (fun x hx => .inl hx)) (hks.mono (S' := [g, g8]) (by simp)) (fun x hx => .inl hx)
      clear hr5 hr6 hk5 hk6 hvv hl3 he3 hE6 hE4 hn5 hk56 h86 h84 hks hk14
      go_upto_region 9 with fail
      generalize w6.setCell ⟨g8, 1, none⟩ (.string vv) = W7 at *
      clear x1 f1
      have hg87 : g8 < W7.heap.size := (Array.getElem?_eq_some_iff.1 h87).1
      go_wp2_with fail
      refine (rd_num4 _ g l3 e3 hE7).mono ?_; rintro e w8 ⟨rfl, hE8, hk8⟩
      have h88 := (hk8.block g8 hg87 hne8).trans h87
      have x2 : w8.cell? ⟨g8, 2, none⟩ = some (.int .i64 0) := by rw [cell_of_row w8 g8 _ _ _ _ h88]; simp [go_sem]
      have f2 : w8.frozen? ⟨g8, 2, none⟩ = false := by simp [World.frozen?, h88]
      obtain ⟨nv, hnv⟩ : ∃ nv, numV 4 l3 e3 = nv := ⟨_, rfl⟩
      have Hnv := Lib.hid hnv
      rw [hnv]
      have h89 := heap_setCell_same h88 2 (.int .i64 nv)
      rw [rowC_set2] at h89
      have hks := Keep.setCell w8 ⟨g8, 2, none⟩ (.int .i64 nv)
      have hE9 := hE8.kept hks hng
      have hk19 : Keep [g, g8] W (w8.setCell ⟨g8, 2, none⟩ (.int .i64 nv)) := Keep.trans (Keep.trans hk17 (hk8.mono (S' := [g, g8]) (by simp)) (fun x hx => .inl hx)) (hks.mono (S' := [g, g8]) (by simp)) (fun x hx => .inl hx)
      clear hE8 hk8 hnv hks hk17 h88 h87 hE7
      go_upto_region 10 with fail
      generalize w8.setCell ⟨g8, 2, none⟩ (.int .i64 nv) = W9 at *
      clear x2 f2
      have hg89 : g8 < W9.heap.size := (Array.getElem?_eq_some_iff.1 h89).1
      have c10 := rd_raw32 W9.drew g _ _ (hE9.kept (Keep.drew W9) (by simp))
      refine wp_region_lex (Kp [g, g8] W9) false (by kernel_rfl) (by kernel_rfl) (by kernel_rfl) (kp_drew [g, g8] W9) ?_
      have hne := kp_some [g, g8] W9
      have hS := kp_drew [g, g8] W9
      repeat (refine wpLx_loose ?_ ?_; (focus (simp only [chainOp]; done)); intro K hK; go_simp; refine hK _ ?_; clear hK K)
      refine wpLx_chain ?_ ?_ ?_
      focus (exact hS)
      focus (simp only [chainOp]; done)
      intro K hK
      go_simp
      refine c10.mono ?_
      rintro e w10 ⟨rfl, hE10, hk10⟩
      replace hS := kp_next hS hk10 (by simp)
      have h810 : w10.heap[g8]? = _ := (hk10.block g8 hg89 hne8).trans h89
      refine ⟨_, rfl, hS, hK _ _ ?_⟩
      clear hK K c10
      obtain ⟨w11, m11, hcp, h811, hk11⟩ := copy_id (rawV 32 (rawL 4 l3 e3) (rawE 4 l3 e3)) (rawV_32 _ _) 3 32 h810
      refine wpLx_chain ?_ ?_ ?_
      focus (exact hS)
      focus (simp only [chainOp]; done)
      intro K hK
      go_simp
      refine step_keep (kp_next hS hk11 (by simp)) (fun hS2 => ?_)
      refine hK _ _ ?_
      clear hK K
      refine wpLx_nil ?_
      intro hS
      have hk911 : Keep [g, g8] W9 w11 := hS2
      have hE11 := hE10.kept hk11 hng
      have hg8w := Hg8.out
      have hk011 : Keep [g, g8] wr w11 := Keep.trans (hk3.mono (S' := [g, g8]) (by simp)) (Keep.trans hk19 hk911 (fun x hx => .inl hx)) (fun x hx => .inl hx)
      have hA1 : ∀ x ∈ blk A1, x ∉ [g, g8] := fun x hx => by have := hown.at_base hx; simp; omega
      have hown11 := hown.kept hk011 hA1
      have hk111 : Keep [g] wr w11 := hk011.mono (by intro x hx; simp at hx; rcases hx with rfl | rfl <;> simp; omega)
      have hx : oneRow l1 0 = ⟨kv, vv, (nv : Int), idOf (rawV 32 (rawL 4 l3 e3) (rawE 4 l3 e3))⟩ := by unfold oneRow; rw [Hkv.out, Hl2.out, He2.out, Hvv.out, Hl3.out, He3.out, Hnv.out]
      have hL : oneL l1 0 = rawL 32 (rawL 4 l3 e3) (rawE 4 l3 e3) := by unfold oneL; rw [Hl2.out, He2.out, Hl3.out, He3.out]
      have hEe : oneE l1 0 = rawE 32 (rawL 4 l3 e3) (rawE 4 l3 e3) := by unfold oneE; rw [Hl2.out, He2.out, Hl3.out, He3.out]
      rw [← hL, ← hEe] at hE11
      rw [← hx] at h811
      obtain ⟨xx, hxx⟩ : ∃ xx, oneRow l1 0 = xx := ⟨_, rfl⟩
      rw [hxx] at h811 Hft
      have Hxx := Lib.hid hxx
      rw [← nm_row] at h811
      clear hxx hx hL hEe hown hA1 hne hS hS2 hcp hE10 hk10 hk11 hk911
      have hrow11 : rowAt w11 g8 0 35 = some (nmC (nmOf xx)) := by unfold rowAt; rw [h811]; simp [go_sem]
      have hbx : Below w11.heap.size w11 (w11.alloc (.cells (nmC (nmOf xx)) 111)) := (Below.refl _ _).alloc (Nat.le_refl _) _
      have hown12 := hown11.below hbx
      have hrow12 : rowAt (w11.alloc (.cells (nmC (nmOf xx)) 111)) w11.heap.size 0 35 = some (nmC (nmOf xx)) := by simp [go_sem]
      have hsz11 : w1.heap.size ≤ w11.heap.size := by have := hk011.size; omega
      clear hown11 h811 hk011 hk19 hk3
      go_wp2_with (at_builtin; refine L_append einfoNm rfl hown12 rfl hrow12 (nmC_one _) (by omega) (by omega) (by simp; omega) ?_; intro A13 cap13 w13 hown13 hk13' hsub13)
      have hk0 : Keep (blk A1) w11 w13 := Keep.trans ((Keep.of_below hbx).mono (S' := blk A1) (by simp)) hk13' (fun x hx => .inl hx)
      have hE13 := hE11.kept hk0 hgS
      have hkf : Keep [g] w1 w13 := Keep.trans (Keep.trans hk hk111 (fun x hx => .inl hx)) hk0 (fun x hx => .inr (by have := (hown12.at_base hx).1; omega))
      rw [show nmsC R ++ [nmC (nmOf xx)] = nmsC (R ++ [xx]) by simp [nmsC]] at hown13
      have hlen13 : (R ++ [xx]).length = R.length + 1 := by simp
      have Hlen13 := Lib.hid hlen13
      clear hlen13 hk0 hk13' hsub13 hown12 hrow12 hbx hrow11 hE11
      go_wp2_with fail
      go_roundw
      case rel => exact ⟨k + 1, R ++ [xx], _, _, A13, cap13, by omega, by go_num, (by rw [Hlen13.out]), (by rw [Hlen13.out, HRk.out]), (by rw [Hlen13.out]; exact hown13), hE13, (show _ = _ by rw [Hlp.out]; unfold stepRds; rw [Hxx.out]), Hft, hkf⟩
      case measure => simp [intOf]; omega
    · have hfin : readRds l = ⟨R, l1, e1⟩ := by
        rw [hrd.out, hlp.out]
        by_cases he : e1 = 0
        · rw [show N - k = 0 by omega]; rfl
        · exact loopRds_stop _ _ he
      have Hfin := Lib.hid hfin
      clear hfin hlp hrd
      by_cases hlt : k < N
      · have he : e1 ≠ 0 := by omega
        have heb : (e1 == 0) = false := by simpa using he
        clear hgo he
        go_wp2_with fail
        refine (rd_err _ g l1 e1 hr).mono ?_; rintro e w5 ⟨rfl, rfl⟩
        go_wp2_with fail
        go_ret
        rw [Hfin.out]
        exact ⟨A1, cap1, rfl, hown.mono hs01, hr, Keep.trans Hk1.out hk (fun x hx => .inl hx), hft.out⟩
      · clear hgo
        go_wp2_with fail
        go_ret
        rw [Hfin.out]
        exact ⟨A1, cap1, rfl, hown.mono hs01, hr, Keep.trans Hk1.out hk (fun x hx => .inl hx), hft.out⟩

end Go.Proofs.Ytlonihfhgfmplaa
