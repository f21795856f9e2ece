/- The reference's Reader (petrelref01). -/
import Derived.Test.YtlonihfhgfmplaaRdN
namespace Go.Proofs.Ytlonihfhgfmplaa
open Go.RowKit

structure Rr where
  s : ByteArray
  e : Int
/-- Its cells. -/
def rrC (x : Rr) : Array Value := #[.string x.s] ++ #[.int .i64 x.e]
@[simp] theorem rrC_size (x : Rr) : (rrC x).size = 2 := by simp [rrC]
@[go_sem] theorem rrC_g0 (x : Rr) : (rrC x)[0]? = some (.string x.s) := by first | (simp [rrC, Array.getElem?_append]; done) | (rw [show rrC x = ((#[] : Array Value)) ++ #[.string x.s] ++ (#[.int .i64 x.e]) from by apply Array.ext'; simp [rrC]]; exact arr_at _ _ _ _ (by simp))
@[go_sem] theorem rrC_gg0 (x : Rr) (h : 0 < (rrC x).size) : (rrC x)[0]'h = .string x.s := Option.some.inj ((Array.getElem?_eq_getElem h).symm.trans (rrC_g0 x))
@[go_sem] theorem rrC_g1 (x : Rr) : (rrC x)[1]? = some (.int .i64 x.e) := by first | (simp [rrC, Array.getElem?_append]; done) | (rw [show rrC x = (#[.string x.s]) ++ #[.int .i64 x.e] ++ ((#[] : Array Value)) from by apply Array.ext'; simp [rrC]]; exact arr_at _ _ _ _ (by simp))
@[go_sem] theorem rrC_gg1 (x : Rr) (h : 1 < (rrC x).size) : (rrC x)[1]'h = .int .i64 x.e := Option.some.inj ((Array.getElem?_eq_getElem h).symm.trans (rrC_g1 x))
@[go_sem] theorem rrC_all (x : Rr) : (rrC x).extract 0 2 = rrC x := by have := Array.extract_size (xs := rrC x); rwa [rrC_size] at this
theorem rrC_inj {x y : Rr} (h : rrC x = rrC y) : x = y := by
  have h0 := congrArg (fun a => a[0]?) h
  simp only [rrC_g0, Option.some.injEq, Value.string.injEq] at h0
  have h1 := congrArg (fun a => a[1]?) h
  simp only [rrC_g1, Option.some.injEq, Value.int.injEq, true_and] at h1
  cases x; cases y; simp_all
theorem rrC_one (x : Rr) : ∀ u ∈ (rrC x).toList, u.oneCell' = true := by
  intro u hu
  simp only [rrC, Array.toList_append, List.mem_append] at hu
  rcases hu with hu | hu
  · simp at hu; subst hu; rfl
  · simp at hu; subst hu; rfl
def rr0 : Rr := ⟨⟨#[]⟩, 0⟩
theorem Rr_ext {x y : Rr} (h : x.s = y.s ∧ x.e = y.e) : x = y := by cases x; cases y; simp_all
instance : DecidableEq Rr := fun x y => if h : x.s = y.s ∧ x.e = y.e then isTrue (Rr_ext h) else isFalse (fun e => h (by subst e; simp))
theorem infoRr : (Try.prog.info? 114).map (·.size) = some 2 := by kernel_rfl
@[go_sem ↓] theorem zeroRr_run (w : World) : (zeroValue 114).run Try.prog w = .ok (.agg (rrC rr0)) w := by
  have h : (Try.prog.info? 114).bind (·.zero) = some (.agg (rrC rr0)) := by kernel_rfl
  cases hi : Try.prog.info? 114 with
  | none => rw [hi] at h; cases h
  | some i =>
    rw [hi] at h
    have hz : i.zero = some (.agg (rrC rr0)) := h
    simp [zeroValue, typeInfo, hi, hz]
@[go_sem ↓] theorem loadRr_rw (a : Addr) : loadVar 114 a = ldS 114 a := rfl
@[go_sem ↓] theorem storeRr_rw (a : Addr) (v : Value) : storeVar 114 a v = stS 114 a v := rfl
@[go_sem] theorem loadRr_run (w : World) (g o : Nat) : (ldS 114 ⟨g, o, none⟩).run Try.prog w = match rowAt w g o 2 with | some cs => .ok (.agg cs) w | none => (loadVar 114 ⟨g, o, none⟩).run Try.prog w :=
  run_ldS Try.underlying114 rfl infoRr w g o
@[go_sem] theorem storeRr_run (w : World) (g : Nat) (hg : g = w.heap.size) (z : Array Value) (hz : z.size = 2) (x : Rr) (e : TypeId) : (stS 114 ⟨g, 0, none⟩ (.agg (rrC x))).run Try.prog (w.alloc (.cells z e)) = .ok () (w.alloc (.cells (rrC x) e)) :=
  hg ▸ run_stS_new infoRr w z (rrC x) hz (rrC_size x) (rrC_one x)
theorem fieldsRr : Try.prog.underlying 114 = some (.struct (Try.prog.fieldsOf 114)) := by kernel_rfl
theorem placesRr (w : World) : ((Try.prog.fieldsOf 114).mapM fun (f : Field) => do pure (f.offset, ← sizeOf f.type)).run Try.prog w = .ok #[(0, 1), (1, 1)] w := by kernel_rfl
@[go_sem ↓] theorem buildRr_rw (parts : Array (Nat × Value)) : Instr.build 114 parts = bdS 114 parts := rfl
@[go_sem] theorem buildRr (a0 : ByteArray) (a1 : Int) (w : World) : (bdS 114 #[(0, .string a0), (1, .int .i64 a1)]).run Try.prog w = .ok (.agg (rrC ⟨a0, a1⟩)) w := by
  refine run_build w fieldsRr _ (zeroRr_run w) _ (placesRr w) [(0, .string a0), (1, .int .i64 a1)] _ ?_
  rw [show rrC rr0 = (#[] : Array Value) ++ #[.string ⟨#[]⟩] ++ (#[.int .i64 0]) from by first | (simp [rrC, rr0, Array.append_assoc]; done) | (apply Array.ext'; simp [rrC, rr0])]
  rw [fill_step (off := 0) (size := 1) rfl (by simp) (by simp) (by simp [Value.cells])]
  rw [show (#[] : Array Value) ++ (Value.string a0).cells ++ (#[.int .i64 0]) = (#[.string a0]) ++ #[.int .i64 0] ++ (#[] : Array Value) from by first | (simp [Value.cells, Array.append_assoc]; done) | (apply Array.ext'; simp [Value.cells]; done) | (apply Array.ext'; simp only [Array.toList_append]; simp [Value.cells])]
  rw [fill_step (off := 1) (size := 1) rfl (by simp) (by simp) (by simp [Value.cells])]
  first | (simp [Instr.fill, rrC, Array.append_assoc, Value.cells]; done) | (simp only [Instr.fill, rrC]; congr 1; apply Array.ext'; simp [Value.cells]; done) | (simp only [Instr.fill, rrC]; congr 1; done) | (simp only [Instr.fill, rrC]; done)
@[go_sem] theorem buildRr_0 (a0 : ByteArray) (w : World) : (bdS 114 #[(0, .string a0)]).run Try.prog w = .ok (.agg (rrC ⟨a0, 0⟩)) w := by
  refine run_build w fieldsRr _ (zeroRr_run w) _ (placesRr w) [(0, .string a0)] _ ?_
  rw [show rrC rr0 = (#[] : Array Value) ++ #[.string ⟨#[]⟩] ++ (#[.int .i64 0]) from by first | (simp [rrC, rr0, Array.append_assoc]; done) | (apply Array.ext'; simp [rrC, rr0])]
  rw [fill_step (off := 0) (size := 1) rfl (by simp) (by simp) (by simp [Value.cells])]
  first | (simp [Instr.fill, rrC, Array.append_assoc, Value.cells]; done) | (simp only [Instr.fill, rrC]; congr 1; apply Array.ext'; simp [Value.cells]; done) | (simp only [Instr.fill, rrC]; congr 1; done) | (simp only [Instr.fill, rrC]; done)

def RrAt (w : World) (g : Nat) (l : List UInt8) (e : Int) : Prop :=
  l.length ≤ 9223372036854775807 ∧ w.heap[g]? = some (.cells (rrC ⟨mkB l, e⟩) 114 (0, 0))
theorem RrAt.lt {w : World} {g : Nat} {l : List UInt8} {e : Int} (h : RrAt w g l e) : g < w.heap.size := (Array.getElem?_eq_some_iff.1 h.2).1
theorem RrAt.kept {w w' : World} {g : Nat} {l : List UInt8} {e : Int} {S : List Nat} (h : RrAt w g l e) (k : Keep S w w') (hg : g ∉ S) : RrAt w' g l e := ⟨h.1, (k.block g h.lt hg).trans h.2⟩
theorem RrAt.below {w w' : World} {g : Nat} {l : List UInt8} {e : Int} (h : RrAt w g l e) (k : Below w.heap.size w w') : RrAt w' g l e := h.kept (Keep.of_below k) (by simp)
theorem rr_cells {w : World} {g : Nat} {l : List UInt8} {e : Int} (h : RrAt w g l e) :
    w.cell? ⟨g, 0, none⟩ = some (.string (mkB l)) ∧ w.cell? ⟨g, 1, none⟩ = some (.int .i64 e) ∧ (∀ j, w.frozen? ⟨g, j, none⟩ = false) := by
  refine ⟨?_, ?_, fun j => by simp [World.frozen?, h.2]⟩ <;> rw [cell_of_row w g _ _ _ _ h.2] <;> simp [go_sem]
def RrStep (w : World) (g : Nat) (l : List UInt8) (e : Int) (w' : World) : Prop := RrAt w' g l e ∧ Keep [g] w w'

theorem mkB_take (l : List UInt8) (n : Nat) (h : n ≤ l.length) : (mkB l).extract 0 n = mkB (l.take n) := by
  apply ByteArray.ext
  apply Array.toList_inj.mp
  rw [ByteArray.data_extract, Array.toList_extract]
  simp [mkB, List.extract_eq_take_drop]
theorem mkB_drop (l : List UInt8) (n : Nat) : (mkB l).extract n l.length = mkB (l.drop n) := by
  apply ByteArray.ext
  apply Array.toList_inj.mp
  rw [ByteArray.data_extract, Array.toList_extract]
  simp [mkB, List.extract_eq_take_drop, List.take_of_length_le]

set_option maxHeartbeats 1000000 in
theorem rr_raw (w : World) (g n : Nat) (l : List UInt8) (e : Int) (h : RrAt w g l e) (hn : n ≤ 9223372036854775807) :
    Calls Try.prog 60 #[.pointer (some ⟨g, 0, none⟩), .int .i64 n] w fun en w' => en = .returned (.string (mkB (rawV n l e))) ∧ RrStep w g (rawL n l e) (rawE n l e) w' := by
  have h0 := h
  obtain ⟨c0, c1, hf⟩ := rr_cells h
  obtain ⟨hl, hg⟩ := h
  have f0 := hf 0; have f1 := hf 1
  have hms := mkB_size l
  clear hf
  cases he : (e == 0) with
  | false =>
    have he' : e ≠ 0 := by simpa using he
    have heb : (e != 0) = true := by simpa using he'
    have e1 : rawV n l e = [] := by unfold rawV; rw [if_neg (fun hh => he' hh.1)]
    have e2 : rawL n l e = l := by unfold rawL; rw [if_neg (fun hh => he' hh.1)]
    have e3 : rawE n l e = e := by unfold rawE; rw [if_neg he']
    have E1 := Lib.hid e1; have E2 := Lib.hid e2; have E3 := Lib.hid e3
    have H0 := Lib.hid h0
    clear e1 e2 e3 h0 he' hg
    go_enter Try.func60, Try.ntmps60
    go_wp2_with fail
    go_ret
    exact ⟨ret_str (by rw [E1.out]; rfl), by rw [E2.out, E3.out]; exact ⟨H0.out, Keep.refl _ _⟩⟩
  | true =>
    obtain rfl : e = 0 := by simpa using he
    clear he
    have hn0 : decide ((n : Int) < 0) = false := by simp
    by_cases hns : n ≤ l.length
    · have e1 : rawV n l 0 = l.take n := by unfold rawV; rw [if_pos ⟨rfl, hns⟩]
      have e2 : rawL n l 0 = l.drop n := by unfold rawL; rw [if_pos ⟨rfl, hns⟩]
      have e3 : rawE n l 0 = 0 := by unfold rawE; rw [if_pos rfl, if_pos hns]
      have E1 := Lib.hid e1; have E2 := Lib.hid e2; have E3 := Lib.hid e3
      have hm1 := mkB_take l n hns
      have hm2 := mkB_drop l n
      have hlt1 : decide (l.length < n) = false := by simpa using hns
      have hdl : (l.drop n).length ≤ 9223372036854775807 := by rw [List.length_drop]; omega
      have Hg := Lib.hid hg
      have Hd := Lib.hid hdl
      clear e1 e2 e3 h0 hg hdl
      go_enter Try.func60, Try.ntmps60
      go_wp2_with fail
      go_ret
      refine ⟨ret_str (by rw [E1.out]), ?_⟩
      rw [E2.out, E3.out]
      refine ⟨⟨Hd.out, ?_⟩, Keep.setCell w ⟨g, 0, none⟩ _⟩
      rw [heap_setCell_same Hg.out]; simp [rrC]
    · have e1 : rawV n l 0 = [] := by unfold rawV; rw [if_neg (fun hh => hns hh.2)]
      have e2 : rawL n l 0 = l := by unfold rawL; rw [if_neg (fun hh => hns hh.2)]
      have e3 : rawE n l 0 = 2 := by unfold rawE; rw [if_pos rfl, if_neg hns]
      have E1 := Lib.hid e1; have E2 := Lib.hid e2; have E3 := Lib.hid e3
      have hlt1 : decide (l.length < n) = true := by simpa using hns
      have Hg := Lib.hid hg
      clear e1 e2 e3 h0 hg hns
      go_enter Try.func60, Try.ntmps60
      go_wp2_with fail
      go_ret
      refine ⟨ret_str (by rw [E1.out]; rfl), ?_⟩
      rw [E2.out, E3.out]
      refine ⟨⟨hl, ?_⟩, Keep.setCell w ⟨g, 1, none⟩ _⟩
      rw [heap_setCell_same Hg.out]; simp [rrC]

theorem rr_end (w : World) (g : Nat) (l : List UInt8) (e : Int) (h : RrAt w g l e) : Calls Try.prog 62 #[.pointer (some ⟨g, 0, none⟩)] w fun en w' => en = .returned (.int .i64 (endE l e)) ∧ Below w.heap.size w w' := by
  obtain ⟨c0, c1, hf⟩ := rr_cells h
  have hms := mkB_size l
  cases he : (e == 0) with
  | false =>
    have he' : e ≠ 0 := by simpa using he
    have heb : (e != 0) = true := by simpa using he'
    have e1 : endE l e = e := by unfold endE; rw [if_neg he']
    have E1 := Lib.hid e1
    clear e1 he'
    go_enter Try.func62, Try.ntmps62
    go_wp2_with fail
    go_ret
    exact ⟨ret_int (by rw [E1.out]), Below.refl _ _⟩
  | true =>
    obtain rfl : e = 0 := by simpa using he
    clear he
    by_cases hz : l = []
    · subst hz
      go_enter Try.func62, Try.ntmps62
      go_wp2_with fail
      go_ret
      exact ⟨rfl, Below.refl _ _⟩
    · have e1 : endE l 0 = 4 := by unfold endE; rw [if_pos rfl, if_neg hz]
      have E1 := Lib.hid e1
      have hlp : 0 < l.length := List.length_pos_iff.2 hz
      clear e1 hz
      go_enter Try.func62, Try.ntmps62
      go_wp2_with fail
      go_ret
      exact ⟨ret_int (by rw [E1.out]), Below.refl _ _⟩

set_option maxHeartbeats 1000000 in
theorem rr_num (w : World) (g M : Nat) (l : List UInt8) (e : Int) (h : RrAt w g l e) (hM : M = 1 ∨ M = 4) :
    Calls Try.prog 59 #[.pointer (some ⟨g, 0, none⟩), .int .i64 M] w fun en w' => en = .returned (.int .i64 (numV M l e)) ∧ RrStep w g (rawL M l e) (rawE M l e) w' := by
  obtain ⟨c0, c1, hf⟩ := rr_cells h
  have hM4 : M ≤ 4 := by omega
  obtain ⟨v, hv⟩ : ∃ v, rawV M l e = v := ⟨_, rfl⟩
  have hvl : v.length ≤ 4 := by have := rawV_length M l e; rw [hv] at this; omega
  have hnv : Hid (numV M l e = beN v) := by show _ = _; unfold numV; rw [hv]
  have hms := mkB_size v
  have Hv := Lib.hid hv
  have cr := rr_raw w g M l e h (by omega)
  rw [hv] at cr
  clear hv h
  obtain ⟨b, heb⟩ : ∃ b, (e == 0) = b := ⟨_, rfl⟩
  rcases hM with rfl | rfl <;> cases b
  all_goals
    go_enter Try.func59, Try.ntmps59
    go_wp2_with fail
    refine cr.mono ?_; rintro en w1 ⟨rfl, hst⟩
    have Hst := Lib.hid hst
    clear hst cr c0 c1 hf heb
    go_wp2_with fail
    go_loop [6, 7] (fun n i => ∃ k : Nat, k ≤ v.length ∧ i = .int .i64 k ∧ n = .int .i64 (beN (v.take k))) (fun _ i => v.length - (intOf i).toNat)
    case atStart => exact ⟨0, Nat.zero_le _, rfl, rfl⟩
    case round =>
      obtain ⟨k, hk, rfl, rfl⟩ := hrel
      by_cases hlt : k < v.length
      · have htk : v.take (k + 1) = v.take k ++ [v[k]] := by rw [List.take_add_one, List.getElem?_eq_getElem hlt]; rfl
        have hsn := beN_snoc (v.take k) v[k]
        rw [← htk] at hsn
        have hbd := beN_lt (v.take k)
        have hkl : (v.take k).length ≤ 3 := by simp; omega
        have hbd2 : beN (v.take k) < 16777216 := Nat.lt_of_lt_of_le hbd (by have := Nat.pow_le_pow_right (show 0 < 256 by omega) hkl; simpa using this)
        have hkm : k < (mkB v).size := by rw [hms]; exact hlt
        have hge : (mkB v)[k]'hkm = v[k]'hlt := rfl
        obtain ⟨y, hy⟩ : ∃ y, v[k]'hlt = y := ⟨_, rfl⟩
        rw [hy] at hsn hge
        have hcb : y.toNat < 256 := y.toNat_lt
        have Hsn := Lib.hid hsn
        clear htk hsn hbd hkl hy
        obtain ⟨c, hb⟩ : ∃ c, beN (v.take k) = c := ⟨_, rfl⟩
        rw [hb] at hbd2 ⊢
        have Hb := Lib.hid hb
        clear hb
        go_wp2_with fail
        go_round
        case rel => exact ⟨k + 1, by omega, by go_num, by rw [Hsn.out, Hb.out]; go_num⟩
        case measure => simp [intOf]; omega
      · have hkv : k = v.length := by omega
        have e2 : v.take k = v := List.take_of_length_le (by omega)
        rw [e2]
        clear e2 hkv
        go_wp2_with fail
        go_ret
        exact ⟨ret_int (by rw [hnv.out]), Hst.out⟩

end Go.Proofs.Ytlonihfhgfmplaa
