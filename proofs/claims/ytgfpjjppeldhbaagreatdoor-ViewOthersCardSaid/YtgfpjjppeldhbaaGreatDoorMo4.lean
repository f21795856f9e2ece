/- Part 4 of the texts that lead to this claim: the walks of the functions and the plain law, in order. -/
import Derived.Test.YtgfpjjppeldhbaaGreatDoorMo3
import Derived.Lib.BufferWrite
import Derived.Lib.LaidTab

/- Package octet: the Reader's Num. -/
namespace Go.Proofs.YtgfpjjppeldhbaaGreatDoor
open Go.RowKit

theorem bytesWorld_below (w : World) (e : TypeId) (s : ByteArray) : Below w.heap.size w (Lib.bytesWorld w e s) :=
  ⟨rfl, rfl, rfl, by rw [Lib.bytesWorld_size]; omega, fun k hk => Lib.bytesWorld_at_old w e s k hk⟩
theorem mkB_size (l : List UInt8) : (mkB l).size = l.length := by show l.toArray.size = _; simp
theorem bits_or8 (b x : Nat) (hb : b < 16777216) (hx : x < 256) : bits BinOp.or IntKind.i64 ((b : Int) * 256) (x : Int) = ((256 * b + x : Nat) : Int) := by
  have h1 : (BitVec.ofInt 64 ((b : Int) * 256)).toNat = 256 * b := by
    rw [BitVec.toNat_ofInt]
    have : ((b : Int) * 256) % ((2 ^ 64 : Nat) : Int) = ((256 * b : Nat) : Int) := by omega
    rw [this]; exact Int.toNat_natCast _
  have h2 : (BitVec.ofInt 64 (x : Int)).toNat = x := by
    rw [BitVec.toNat_ofInt]
    have : (x : Int) % ((2 ^ 64 : Nat) : Int) = (x : Int) := by omega
    rw [this]; simp
  have h3 : (BitVec.ofInt 64 ((b : Int) * 256) ||| BitVec.ofInt 64 (x : Int)).toNat = 256 * b + x := by
    rw [BitVec.toNat_or, h1, h2]
    have := Nat.two_pow_add_eq_or_of_lt (i := 8) (b := x) (by omega) b
    rw [show (2 : Nat) ^ 8 = 256 from rfl] at this
    exact this.symm
  show IntKind.i64.wrap (((BitVec.ofInt 64 ((b : Int) * 256) ||| BitVec.ofInt 64 (x : Int)).toNat : Nat) : Int) = _
  rw [h3]
  exact IntWalk.i64_in _ (by omega)
def numV (M : Nat) (l : List UInt8) (e : Int) : Nat := beN (rawV M l e)

set_option maxHeartbeats 1000000 in
theorem rd_num (w : World) (g M : Nat) (l : List UInt8) (e : Int) (h : RdAt w g l e) (hM : M = 1 ∨ M = 4) :
    Calls Tryz.prog 91 #[.pointer (some ⟨g, 0, none⟩), .int .i64 M] w fun en w' => en = .returned (.int .i64 (numV M l e)) ∧ RdStep w g (rawL M l e) (rawE M l e) w' := by
  have h0 := h
  obtain ⟨s, a, ha, hs, hg, hl⟩ := h
  obtain ⟨_, _, c2, c3, _⟩ := rd_cells hg
  have Hh := Lib.hid h0
  clear hl hg ha hs h0
  cases he : (e == 0) with
  | false =>
    have he' : e ≠ 0 := by simpa using he
    have e1 : numV M l e = 0 := by unfold numV rawV; rw [if_neg (fun hh => he' hh.1)]; rfl
    have e2 : rawL M l e = l := by unfold rawL; rw [if_neg (fun hh => he' hh.1)]
    have e3 : rawE M l e = e := by unfold rawE; rw [if_neg he']
    have E1 := Lib.hid e1; have E2 := Lib.hid e2; have E3 := Lib.hid e3
    clear e1 e2 e3 he'
    go_enter Tryz.func91, Tryz.ntmps91
    go_wp2_with fail
    refine (rd_stuck _ _ e c3 c2).mono ?_; rintro en w' ⟨rfl, rfl⟩
    go_wp2_with fail
    go_ret
    exact ⟨ret_int (by rw [E1.out]; rfl), by rw [E2.out, E3.out]; exact ⟨Hh.out, Keep.refl _ _⟩⟩
  | true =>
    obtain rfl : e = 0 := by simpa using he
    clear he
    have hM4 : M ≤ 4 := by omega
    have hMb : ((8 * (M : Int)) == 0) = false := by rw [beq_eq_false_iff_ne]; omega
    have hMo : (M : Int) = 1 ∨ (M : Int) = 2 ∨ (M : Int) = 4 := by omega
    have HMo := Lib.hid hMo
    obtain ⟨v, hv⟩ : ∃ v, rawV M l 0 = v := ⟨_, rfl⟩
    have hvl : v.length ≤ 4 := by have := rawV_length M l 0; rw [hv] at this; omega
    have hnv : Hid (numV M l 0 = beN v) := by show _ = _; unfold numV; rw [hv]
    have Hv := Lib.hid hv
    clear hM hMo hv
    go_enter Tryz.func91, Tryz.ntmps91
    go_wp2_with fail
    refine (rd_stuck _ _ 0 c3 c2).mono ?_; rintro en w' ⟨rfl, rfl⟩
    go_wp2_with fail
    refine (obits M _ HMo.out).mono ?_; rintro e w' ⟨rfl, rfl⟩
    clear c2 c3
    go_wp2_with fail
    refine (rd_raw _ g M l 0 Hh.out (by omega)).mono ?_; rintro e w1 ⟨rfl, hst⟩
    rw [Hv.out]
    have hcv := Lib.run_convert_string_bytes (P := Tryz.prog) w1 9 37 5 (mkB v) Tryz.underlying9 Tryz.underlying37 Tryz.underlying5
    have hbw := bytesWorld_below w1 5 (mkB v)
    have hcell : Hid (∀ j (hj : j < v.length), (Lib.bytesWorld w1 5 (mkB v)).cell? ⟨w1.heap.size, j, none⟩ = some (.int .u8 (v[j]).toNat)) := fun j hj => by
      have := Lib.bytesWorld_cell w1 5 (mkB v) j (by rw [mkB_size]; exact hj)
      rw [this]
      simp [mkB, List.getD, hj]
    rw [mkB_size] at hcv
    obtain ⟨W, hW⟩ : ∃ W, Lib.bytesWorld w1 5 (mkB v) = W := ⟨_, rfl⟩
    rw [hW] at hcv hbw hcell
    have hst2 : RdStep w g (rawL M l 0) (rawE M l 0) W := ⟨hst.1.below hbw, Keep.trans hst.2 (Keep.of_below hbw) (by simp)⟩
    have Hst := Lib.hid hst2
    clear hW hbw hst hst2
    go_wp2_with fail
    go_loop [5, 21] (fun n i => ∃ k : Nat, k ≤ v.length ∧ i = .int .i64 k ∧ n = .int .i64 (beN (v.take k))) (fun _ i => v.length - (intOf i).toNat)
    case atStart => exact ⟨0, Nat.zero_le _, rfl, rfl⟩
    case round =>
      obtain ⟨k, hk, rfl, rfl⟩ := hrel
      by_cases hlt : k < v.length
      · have hc := hcell.out k hlt
        have htk : v.take (k + 1) = v.take k ++ [v[k]] := by rw [List.take_add_one, List.getElem?_eq_getElem hlt]; rfl
        have hsn := beN_snoc (v.take k) v[k]
        rw [← htk] at hsn
        have hbd := beN_lt (v.take k)
        have hkl : (v.take k).length ≤ 3 := by simp; omega
        have hbd2 : beN (v.take k) < 16777216 := Nat.lt_of_lt_of_le hbd (by have := Nat.pow_le_pow_right (show 0 < 256 by omega) hkl; simpa using this)
        have hcb := (v[k]).toNat_lt
        have Hsn := Lib.hid hsn
        clear htk hsn hbd hkl
        obtain ⟨x, hx⟩ : ∃ x, (v[k]).toNat = x := ⟨_, rfl⟩
        obtain ⟨b, hb⟩ : ∃ b, beN (v.take k) = b := ⟨_, rfl⟩
        rw [hx] at hc hcb
        rw [hb] at hbd2 ⊢
        go_wp2_with fail
        go_round
        case rel => exact ⟨k + 1, by omega, by go_num, by rw [bits_or8 b x (by omega) (by omega), Hsn.out, hb, hx]⟩
        case measure => simp [intOf]; omega
      · have hkv : k = v.length := by omega
        have e2 : v.take k = v := List.take_of_length_le (by omega)
        rw [e2]
        clear e2 hkv
        go_wp2_with fail
        go_ret
        exact ⟨ret_int (by rw [hnv.out]), Hst.out⟩

end Go.Proofs.YtgfpjjppeldhbaaGreatDoor

/- The reference's Reader (petrelref01). -/
namespace Go.Proofs.YtgfpjjppeldhbaaGreatDoor
open Go.RowKit

structure Rr where
  s : ByteArray
  e : Int
/-- Its cells. -/
def rrC (x : Rr) : Array Value := #[.string x.s] ++ #[.int .i64 x.e]
@[simp] theorem rrC_size (x : Rr) : (rrC x).size = 2 := by simp [rrC]
@[go_sem] theorem rrC_g0 (x : Rr) : (rrC x)[0]? = some (.string x.s) := by first | (simp [rrC, Array.getElem?_append]; done) | (rw [show rrC x = ((#[] : Array Value)) ++ #[.string x.s] ++ (#[.int .i64 x.e]) from by apply Array.ext'; simp [rrC]]; exact arr_at _ _ _ _ (by simp))
@[go_sem] theorem rrC_gg0 (x : Rr) (h : 0 < (rrC x).size) : (rrC x)[0]'h = .string x.s := Option.some.inj ((Array.getElem?_eq_getElem h).symm.trans (rrC_g0 x))
@[go_sem] theorem rrC_g1 (x : Rr) : (rrC x)[1]? = some (.int .i64 x.e) := by first | (simp [rrC, Array.getElem?_append]; done) | (rw [show rrC x = (#[.string x.s]) ++ #[.int .i64 x.e] ++ ((#[] : Array Value)) from by apply Array.ext'; simp [rrC]]; exact arr_at _ _ _ _ (by simp))
@[go_sem] theorem rrC_gg1 (x : Rr) (h : 1 < (rrC x).size) : (rrC x)[1]'h = .int .i64 x.e := Option.some.inj ((Array.getElem?_eq_getElem h).symm.trans (rrC_g1 x))
@[go_sem] theorem rrC_all (x : Rr) : (rrC x).extract 0 2 = rrC x := by have := Array.extract_size (xs := rrC x); rwa [rrC_size] at this
theorem rrC_inj {x y : Rr} (h : rrC x = rrC y) : x = y := by
  have h0 := congrArg (fun a => a[0]?) h
  simp only [rrC_g0, Option.some.injEq, Value.string.injEq] at h0
  have h1 := congrArg (fun a => a[1]?) h
  simp only [rrC_g1, Option.some.injEq, Value.int.injEq, true_and] at h1
  cases x; cases y; simp_all
theorem rrC_one (x : Rr) : ∀ u ∈ (rrC x).toList, u.oneCell' = true := by
  intro u hu
  simp only [rrC, Array.toList_append, List.mem_append] at hu
  rcases hu with hu | hu
  · simp at hu; subst hu; rfl
  · simp at hu; subst hu; rfl
def rr0 : Rr := ⟨⟨#[]⟩, 0⟩
theorem Rr_ext {x y : Rr} (h : x.s = y.s ∧ x.e = y.e) : x = y := by cases x; cases y; simp_all
instance : DecidableEq Rr := fun x y => if h : x.s = y.s ∧ x.e = y.e then isTrue (Rr_ext h) else isFalse (fun e => h (by subst e; simp))
theorem infoRr : (Tryz.prog.info? 112).map (·.size) = some 2 := by kernel_rfl
@[go_sem ↓] theorem zeroRr_run (w : World) : (zeroValue 112).run Tryz.prog w = .ok (.agg (rrC rr0)) w := by
  have h : (Tryz.prog.info? 112).bind (·.zero) = some (.agg (rrC rr0)) := by kernel_rfl
  cases hi : Tryz.prog.info? 112 with
  | none => rw [hi] at h; cases h
  | some i =>
    rw [hi] at h
    have hz : i.zero = some (.agg (rrC rr0)) := h
    simp [zeroValue, typeInfo, hi, hz]
@[go_sem ↓] theorem loadRr_rw (a : Addr) : loadVar 112 a = ldS 112 a := rfl
@[go_sem ↓] theorem storeRr_rw (a : Addr) (v : Value) : storeVar 112 a v = stS 112 a v := rfl
@[go_sem] theorem loadRr_run (w : World) (g o : Nat) : (ldS 112 ⟨g, o, none⟩).run Tryz.prog w = match rowAt w g o 2 with | some cs => .ok (.agg cs) w | none => (loadVar 112 ⟨g, o, none⟩).run Tryz.prog w :=
  run_ldS Tryz.underlying112 rfl infoRr w g o
@[go_sem] theorem storeRr_run (w : World) (g : Nat) (hg : g = w.heap.size) (z : Array Value) (hz : z.size = 2) (x : Rr) (e : TypeId) : (stS 112 ⟨g, 0, none⟩ (.agg (rrC x))).run Tryz.prog (w.alloc (.cells z e)) = .ok () (w.alloc (.cells (rrC x) e)) :=
  hg ▸ run_stS_new infoRr w z (rrC x) hz (rrC_size x) (rrC_one x)
theorem fieldsRr : Tryz.prog.underlying 112 = some (.struct (Tryz.prog.fieldsOf 112)) := by kernel_rfl
theorem placesRr (w : World) : ((Tryz.prog.fieldsOf 112).mapM fun (f : Field) => do pure (f.offset, ← sizeOf f.type)).run Tryz.prog w = .ok #[(0, 1), (1, 1)] w := by kernel_rfl
@[go_sem ↓] theorem buildRr_rw (parts : Array (Nat × Value)) : Instr.build 112 parts = bdS 112 parts := rfl
@[go_sem] theorem buildRr (a0 : ByteArray) (a1 : Int) (w : World) : (bdS 112 #[(0, .string a0), (1, .int .i64 a1)]).run Tryz.prog w = .ok (.agg (rrC ⟨a0, a1⟩)) w := by
  refine run_build w fieldsRr _ (zeroRr_run w) _ (placesRr w) [(0, .string a0), (1, .int .i64 a1)] _ ?_
  rw [show rrC rr0 = (#[] : Array Value) ++ #[.string ⟨#[]⟩] ++ (#[.int .i64 0]) from by first | (simp [rrC, rr0, Array.append_assoc]; done) | (apply Array.ext'; simp [rrC, rr0])]
  rw [fill_step (off := 0) (size := 1) rfl (by simp) (by simp) (by simp [Value.cells])]
  rw [show (#[] : Array Value) ++ (Value.string a0).cells ++ (#[.int .i64 0]) = (#[.string a0]) ++ #[.int .i64 0] ++ (#[] : Array Value) from by first | (simp [Value.cells, Array.append_assoc]; done) | (apply Array.ext'; simp [Value.cells]; done) | (apply Array.ext'; simp only [Array.toList_append]; simp [Value.cells])]
  rw [fill_step (off := 1) (size := 1) rfl (by simp) (by simp) (by simp [Value.cells])]
  first | (simp [Instr.fill, rrC, Array.append_assoc, Value.cells]; done) | (simp only [Instr.fill, rrC]; congr 1; apply Array.ext'; simp [Value.cells]; done) | (simp only [Instr.fill, rrC]; congr 1; done) | (simp only [Instr.fill, rrC]; done)
@[go_sem] theorem buildRr_0 (a0 : ByteArray) (w : World) : (bdS 112 #[(0, .string a0)]).run Tryz.prog w = .ok (.agg (rrC ⟨a0, 0⟩)) w := by
  refine run_build w fieldsRr _ (zeroRr_run w) _ (placesRr w) [(0, .string a0)] _ ?_
  rw [show rrC rr0 = (#[] : Array Value) ++ #[.string ⟨#[]⟩] ++ (#[.int .i64 0]) from by first | (simp [rrC, rr0, Array.append_assoc]; done) | (apply Array.ext'; simp [rrC, rr0])]
  rw [fill_step (off := 0) (size := 1) rfl (by simp) (by simp) (by simp [Value.cells])]
  first | (simp [Instr.fill, rrC, Array.append_assoc, Value.cells]; done) | (simp only [Instr.fill, rrC]; congr 1; apply Array.ext'; simp [Value.cells]; done) | (simp only [Instr.fill, rrC]; congr 1; done) | (simp only [Instr.fill, rrC]; done)

def RrAt (w : World) (g : Nat) (l : List UInt8) (e : Int) : Prop :=
  l.length ≤ 9223372036854775807 ∧ w.heap[g]? = some (.cells (rrC ⟨mkB l, e⟩) 112 (0, 0))
theorem RrAt.lt {w : World} {g : Nat} {l : List UInt8} {e : Int} (h : RrAt w g l e) : g < w.heap.size := (Array.getElem?_eq_some_iff.1 h.2).1
theorem RrAt.kept {w w' : World} {g : Nat} {l : List UInt8} {e : Int} {S : List Nat} (h : RrAt w g l e) (k : Keep S w w') (hg : g ∉ S) : RrAt w' g l e := ⟨h.1, (k.block g h.lt hg).trans h.2⟩
theorem RrAt.below {w w' : World} {g : Nat} {l : List UInt8} {e : Int} (h : RrAt w g l e) (k : Below w.heap.size w w') : RrAt w' g l e := h.kept (Keep.of_below k) (by simp)
theorem rr_cells {w : World} {g : Nat} {l : List UInt8} {e : Int} (h : RrAt w g l e) :
    w.cell? ⟨g, 0, none⟩ = some (.string (mkB l)) ∧ w.cell? ⟨g, 1, none⟩ = some (.int .i64 e) ∧ (∀ j, w.frozen? ⟨g, j, none⟩ = false) := by
  refine ⟨?_, ?_, fun j => by simp [World.frozen?, h.2]⟩ <;> rw [cell_of_row w g _ _ _ _ h.2] <;> simp [go_sem]
def RrStep (w : World) (g : Nat) (l : List UInt8) (e : Int) (w' : World) : Prop := RrAt w' g l e ∧ Keep [g] w w'

theorem mkB_take (l : List UInt8) (n : Nat) (h : n ≤ l.length) : (mkB l).extract 0 n = mkB (l.take n) := by
  apply ByteArray.ext
  apply Array.toList_inj.mp
  rw [ByteArray.data_extract, Array.toList_extract]
  simp [mkB, List.extract_eq_take_drop]
theorem mkB_drop (l : List UInt8) (n : Nat) : (mkB l).extract n l.length = mkB (l.drop n) := by
  apply ByteArray.ext
  apply Array.toList_inj.mp
  rw [ByteArray.data_extract, Array.toList_extract]
  simp [mkB, List.extract_eq_take_drop, List.take_of_length_le]

set_option maxHeartbeats 1000000 in
theorem rr_raw (w : World) (g n : Nat) (l : List UInt8) (e : Int) (h : RrAt w g l e) (hn : n ≤ 9223372036854775807) :
    Calls Tryz.prog 67 #[.pointer (some ⟨g, 0, none⟩), .int .i64 n] w fun en w' => en = .returned (.string (mkB (rawV n l e))) ∧ RrStep w g (rawL n l e) (rawE n l e) w' := by
  have h0 := h
  obtain ⟨c0, c1, hf⟩ := rr_cells h
  obtain ⟨hl, hg⟩ := h
  have f0 := hf 0; have f1 := hf 1
  have hms := mkB_size l
  clear hf
  cases he : (e == 0) with
  | false =>
    have he' : e ≠ 0 := by simpa using he
    have heb : (e != 0) = true := by simpa using he'
    have e1 : rawV n l e = [] := by unfold rawV; rw [if_neg (fun hh => he' hh.1)]
    have e2 : rawL n l e = l := by unfold rawL; rw [if_neg (fun hh => he' hh.1)]
    have e3 : rawE n l e = e := by unfold rawE; rw [if_neg he']
    have E1 := Lib.hid e1; have E2 := Lib.hid e2; have E3 := Lib.hid e3
    have H0 := Lib.hid h0
    clear e1 e2 e3 h0 he' hg
    go_enter Tryz.func67, Tryz.ntmps67
    go_wp2_with fail
    go_ret
    exact ⟨ret_str (by rw [E1.out]; rfl), by rw [E2.out, E3.out]; exact ⟨H0.out, Keep.refl _ _⟩⟩
  | true =>
    obtain rfl : e = 0 := by simpa using he
    clear he
    have hn0 : decide ((n : Int) < 0) = false := by simp
    by_cases hns : n ≤ l.length
    · have e1 : rawV n l 0 = l.take n := by unfold rawV; rw [if_pos ⟨rfl, hns⟩]
      have e2 : rawL n l 0 = l.drop n := by unfold rawL; rw [if_pos ⟨rfl, hns⟩]
      have e3 : rawE n l 0 = 0 := by unfold rawE; rw [if_pos rfl, if_pos hns]
      have E1 := Lib.hid e1; have E2 := Lib.hid e2; have E3 := Lib.hid e3
      have hm1 := mkB_take l n hns
      have hm2 := mkB_drop l n
      have hlt1 : decide (l.length < n) = false := by simpa using hns
      have hdl : (l.drop n).length ≤ 9223372036854775807 := by rw [List.length_drop]; omega
      have Hg := Lib.hid hg
      have Hd := Lib.hid hdl
      clear e1 e2 e3 h0 hg hdl
      go_enter Tryz.func67, Tryz.ntmps67
      go_wp2_with fail
      go_ret
      refine ⟨ret_str (by rw [E1.out]), ?_⟩
      rw [E2.out, E3.out]
      refine ⟨⟨Hd.out, ?_⟩, Keep.setCell w ⟨g, 0, none⟩ _⟩
      rw [heap_setCell_same Hg.out]; simp [rrC]
    · have e1 : rawV n l 0 = [] := by unfold rawV; rw [if_neg (fun hh => hns hh.2)]
      have e2 : rawL n l 0 = l := by unfold rawL; rw [if_neg (fun hh => hns hh.2)]
      have e3 : rawE n l 0 = 2 := by unfold rawE; rw [if_pos rfl, if_neg hns]
      have E1 := Lib.hid e1; have E2 := Lib.hid e2; have E3 := Lib.hid e3
      have hlt1 : decide (l.length < n) = true := by simpa using hns
      have Hg := Lib.hid hg
      clear e1 e2 e3 h0 hg hns
      go_enter Tryz.func67, Tryz.ntmps67
      go_wp2_with fail
      go_ret
      refine ⟨ret_str (by rw [E1.out]; rfl), ?_⟩
      rw [E2.out, E3.out]
      refine ⟨⟨hl, ?_⟩, Keep.setCell w ⟨g, 1, none⟩ _⟩
      rw [heap_setCell_same Hg.out]; simp [rrC]

theorem rr_end (w : World) (g : Nat) (l : List UInt8) (e : Int) (h : RrAt w g l e) : Calls Tryz.prog 69 #[.pointer (some ⟨g, 0, none⟩)] w fun en w' => en = .returned (.int .i64 (endE l e)) ∧ Below w.heap.size w w' := by
  obtain ⟨c0, c1, hf⟩ := rr_cells h
  have hms := mkB_size l
  cases he : (e == 0) with
  | false =>
    have he' : e ≠ 0 := by simpa using he
    have heb : (e != 0) = true := by simpa using he'
    have e1 : endE l e = e := by unfold endE; rw [if_neg he']
    have E1 := Lib.hid e1
    clear e1 he'
    go_enter Tryz.func69, Tryz.ntmps69
    go_wp2_with fail
    go_ret
    exact ⟨ret_int (by rw [E1.out]), Below.refl _ _⟩
  | true =>
    obtain rfl : e = 0 := by simpa using he
    clear he
    by_cases hz : l = []
    · subst hz
      go_enter Tryz.func69, Tryz.ntmps69
      go_wp2_with fail
      go_ret
      exact ⟨rfl, Below.refl _ _⟩
    · have e1 : endE l 0 = 4 := by unfold endE; rw [if_pos rfl, if_neg hz]
      have E1 := Lib.hid e1
      have hlp : 0 < l.length := List.length_pos_iff.2 hz
      clear e1 hz
      go_enter Tryz.func69, Tryz.ntmps69
      go_wp2_with fail
      go_ret
      exact ⟨ret_int (by rw [E1.out]), Below.refl _ _⟩

set_option maxHeartbeats 1000000 in
theorem rr_num (w : World) (g M : Nat) (l : List UInt8) (e : Int) (h : RrAt w g l e) (hM : M = 1 ∨ M = 4) :
    Calls Tryz.prog 65 #[.pointer (some ⟨g, 0, none⟩), .int .i64 M] w fun en w' => en = .returned (.int .i64 (numV M l e)) ∧ RrStep w g (rawL M l e) (rawE M l e) w' := by
  obtain ⟨c0, c1, hf⟩ := rr_cells h
  have hM4 : M ≤ 4 := by omega
  obtain ⟨v, hv⟩ : ∃ v, rawV M l e = v := ⟨_, rfl⟩
  have hvl : v.length ≤ 4 := by have := rawV_length M l e; rw [hv] at this; omega
  have hnv : Hid (numV M l e = beN v) := by show _ = _; unfold numV; rw [hv]
  have hms := mkB_size v
  have Hv := Lib.hid hv
  have cr := rr_raw w g M l e h (by omega)
  rw [hv] at cr
  clear hv h
  obtain ⟨b, heb⟩ : ∃ b, (e == 0) = b := ⟨_, rfl⟩
  rcases hM with rfl | rfl <;> cases b
  all_goals
    go_enter Tryz.func65, Tryz.ntmps65
    go_wp2_with fail
    refine cr.mono ?_; rintro en w1 ⟨rfl, hst⟩
    have Hst := Lib.hid hst
    clear hst cr c0 c1 hf heb
    go_wp2_with fail
    go_loop [6, 7] (fun n i => ∃ k : Nat, k ≤ v.length ∧ i = .int .i64 k ∧ n = .int .i64 (beN (v.take k))) (fun _ i => v.length - (intOf i).toNat)
    case atStart => exact ⟨0, Nat.zero_le _, rfl, rfl⟩
    case round =>
      obtain ⟨k, hk, rfl, rfl⟩ := hrel
      by_cases hlt : k < v.length
      · have htk : v.take (k + 1) = v.take k ++ [v[k]] := by rw [List.take_add_one, List.getElem?_eq_getElem hlt]; rfl
        have hsn := beN_snoc (v.take k) v[k]
        rw [← htk] at hsn
        have hbd := beN_lt (v.take k)
        have hkl : (v.take k).length ≤ 3 := by simp; omega
        have hbd2 : beN (v.take k) < 16777216 := Nat.lt_of_lt_of_le hbd (by have := Nat.pow_le_pow_right (show 0 < 256 by omega) hkl; simpa using this)
        have hkm : k < (mkB v).size := by rw [hms]; exact hlt
        have hge : (mkB v)[k]'hkm = v[k]'hlt := rfl
        obtain ⟨y, hy⟩ : ∃ y, v[k]'hlt = y := ⟨_, rfl⟩
        rw [hy] at hsn hge
        have hcb : y.toNat < 256 := y.toNat_lt
        have Hsn := Lib.hid hsn
        clear htk hsn hbd hkl hy
        obtain ⟨c, hb⟩ : ∃ c, beN (v.take k) = c := ⟨_, rfl⟩
        rw [hb] at hbd2 ⊢
        have Hb := Lib.hid hb
        clear hb
        go_wp2_with fail
        go_round
        case rel => exact ⟨k + 1, by omega, by go_num, by rw [Hsn.out, Hb.out]; go_num⟩
        case measure => simp [intOf]; omega
      · have hkv : k = v.length := by omega
        have e2 : v.take k = v := List.take_of_length_le (by omega)
        rw [e2]
        clear e2 hkv
        go_wp2_with fail
        go_ret
        exact ⟨ret_int (by rw [hnv.out]), Hst.out⟩

end Go.Proofs.YtgfpjjppeldhbaaGreatDoor

/- The reference's Reader: Id. -/
namespace Go.Proofs.YtgfpjjppeldhbaaGreatDoor
open Go.RowKit

/-- The id of 32 bytes; of none: zeros. -/
def idOf (v : List UInt8) : Id32 := if h : v.length = 32 then ⟨v, h⟩ else id0
def idA (v : List UInt8) (k : Nat) : Array Value := ((v.take k).map byteC ++ List.replicate (32 - k) (Value.int .u8 0)).toArray
theorem idA_zero (v : List UInt8) : idA v 0 = idC id0 := by unfold idA; simp [idC]; rfl
theorem idA_size (v : List UInt8) (k : Nat) (hk : k ≤ v.length) (h32 : k ≤ 32) : (idA v k).size = 32 := by unfold idA; simp; omega
theorem idA_set (v : List UInt8) (k : Nat) (hk : k < v.length) (h32 : k < 32) : (idA v k).setIfInBounds k (.int .u8 (v[k]).toNat) = idA v (k + 1) := by
  unfold idA
  apply Array.ext'
  rw [Array.toList_setIfInBounds]
  have e : v.take (k + 1) = v.take k ++ [v[k]] := by rw [List.take_add_one, List.getElem?_eq_getElem hk]; rfl
  have e2 : 32 - k = (32 - (k + 1)) + 1 := by omega
  have e3 : ((v.take k).map byteC).length = k := by simp; omega
  rw [e, e2, List.replicate_succ, List.set_append_right _ _ (by rw [e3]; exact Nat.le_refl _), e3, Nat.sub_self, List.map_append]
  simp [byteC]
theorem idA_full (v : List UInt8) (h : v.length = 32 ∨ v = []) : idA v v.length = idC (idOf v) := by
  rcases h with h | h
  · unfold idA idOf; rw [dif_pos h, List.take_length, h]; simp [idC]
  · subst h; rw [show ([] : List UInt8).length = 0 from rfl, idA_zero]; rfl
theorem rawV_32 (l : List UInt8) (e : Int) : (rawV 32 l e).length = 32 ∨ rawV 32 l e = [] := by
  unfold rawV; split
  · left; rename_i h; rw [List.length_take]; omega
  · exact .inr rfl

theorem run_stS_at {P : Program} {t : TypeId} {k : Nat} (hi : (P.info? t).map (·.size) = some k) (w : World) (g : Nat) (z cs : Array Value) (e : TypeId) (h : w.heap[g]? = some (.cells z e (0, 0))) (hz : z.size = k) (hc : cs.size = k) (h1 : ∀ u ∈ cs.toList, u.oneCell' = true) :
    (stS t ⟨g, 0, none⟩ (.agg cs)).run P w = .ok () (w.setRow g cs) := by
  unfold stS storeVar
  cases hinfo : P.info? t with
  | none => rw [hinfo] at hi; cases hi
  | some i =>
    rw [hinfo] at hi
    have hk : i.size = k := by simpa using hi
    have hst := run_storeCells_at P g 0 e cs.toList 0 z w h (by simp; omega) h1
    have hE : (z.toList.take (0 + 0) ++ cs.toList ++ z.toList.drop (0 + 0 + cs.toList.length)).toArray = cs := by
      rw [List.drop_of_length_le (by simp; omega)]
      simp
    rw [hE] at hst
    simp [Value.cells, sizeOf, typeInfo, hinfo, hk, hc]
    exact hst

set_option maxHeartbeats 1000000 in
theorem rr_id (w : World) (g : Nat) (l : List UInt8) (e : Int) (h : RrAt w g l e) :
    Calls Tryz.prog 68 #[.pointer (some ⟨g, 0, none⟩)] w fun en w' => en = .returned (.agg (idC (idOf (rawV 32 l e)))) ∧ RrStep w g (rawL 32 l e) (rawE 32 l e) w' := by
  have h32 := rawV_32 l e
  obtain ⟨v, hv⟩ : ∃ v, rawV 32 l e = v := ⟨_, rfl⟩
  have hb0 : Below w.heap.size w ((w.alloc (.cells (idC id0) 39)).alloc (.cells (idC id0) 39)) := ((Below.refl _ _).alloc (Nat.le_refl _) _).alloc (by simp) _
  have hg2 : ((w.alloc (.cells (idC id0) 39)).alloc (.cells (idC id0) 39)).heap[w.heap.size]? = some (.cells (idC id0) 39 (0, 0)) := by
    rw [Below.heap_alloc _ _ _ (by simp)]; exact heap_alloc_new w _
  have hg3 : ((w.alloc (.cells (idC id0) 39)).alloc (.cells (idC id0) 39)).heap[w.heap.size + 1]? = some (.cells (idC id0) 39 (0, 0)) := by
    have := heap_alloc_new (w.alloc (.cells (idC id0) 39)) (.cells (idC id0) 39)
    simpa using this
  have hgl := h.lt
  have cr := rr_raw _ g 32 l e (h.below hb0) (by omega)
  have hsz0 : ((w.alloc (.cells (idC id0) 39)).alloc (.cells (idC id0) 39)).heap.size = w.heap.size + 2 := by simp
  rw [hv] at cr h32 ⊢
  have Hv := Lib.hid hv
  have Hsz0 := Lib.hid hsz0
  clear hv hsz0
  go_enter Tryz.func68, Tryz.ntmps68
  go_wp2_with fail
  generalize (w.alloc (.cells (idC id0) 39)).alloc (.cells (idC id0) 39) = W at *
  refine cr.mono ?_; rintro en w1 ⟨rfl, hrr, hk1⟩
  have hs1 : w.heap.size + 2 ≤ w1.heap.size := by have := hk1.size; have := Hsz0.out; omega
  have hg2' := (hk1.block w.heap.size (by have := Hsz0.out; omega) (by simp; omega)).trans hg2
  have hg3' := (hk1.block (w.heap.size + 1) (by have := Hsz0.out; omega) (by simp; omega)).trans hg3
  have hms := mkB_size v
  have hv32 : v.length ≤ 32 := by rcases h32 with h | h <;> simp [h]
  have H32 := Lib.hid h32
  have Hg2 := Lib.hid hg2'
  have Hg3 := Lib.hid hg3'
  have Hk1 := Lib.hid (Keep.trans ((Keep.of_below hb0).mono (S' := [g]) (by simp)) hk1 (fun x hx => .inl hx))
  have Hrr := Lib.hid hrr
  clear h32 hg2 hg3 hg2' hg3' cr hk1 hb0 hrr h
  go_wp2_with fail
  go_loopw [5] (fun i wr => ∃ k : Nat, k ≤ v.length ∧ i = .int .i64 k ∧ Hid (wr.heap[w.heap.size + 1]? = some (.cells (idA v k) 39 (0, 0))) ∧ Keep [w.heap.size + 1] w1 wr) (fun i _ => 32 - (intOf i).toNat)
  case atStart => exact ⟨0, Nat.zero_le _, rfl, (show _ = _ by rw [idA_zero]; exact Hg3.out), Keep.refl _ _⟩
  case round =>
    obtain ⟨k, hk, rfl, hc, hkp⟩ := hrel
    by_cases hlt : k < v.length
    · have hsz := idA_size v k hk (by omega)
      have hst := idA_set v k hlt (by omega)
      have hck : wr.cell? ⟨w.heap.size + 1, k, none⟩ = some ((idA v k)[k]'(by rw [hsz]; omega)) := by
        rw [cell_of_row wr _ k _ _ _ hc.out, Array.getElem?_eq_getElem]
      have hfz : wr.frozen? ⟨w.heap.size + 1, k, none⟩ = false := by simp [World.frozen?, hc.out]
      have hkm : k < (mkB v).size := by rw [hms]; exact hlt
      have hge : (mkB v)[k]'hkm = v[k]'hlt := rfl
      obtain ⟨y, hy⟩ : ∃ y, v[k]'hlt = y := ⟨_, rfl⟩
      rw [hy] at hge hst
      obtain ⟨z, hz⟩ : ∃ z, (idA v k)[k]'(by rw [hsz]; omega) = z := ⟨_, rfl⟩
      rw [hz] at hck
      have Hst := Lib.hid hst
      clear hy hst hsz hz
      have hk32 : k < 32 := by omega
      go_wp2_with fail
      go_roundw
      case rel => exact ⟨k + 1, by omega, by go_num, (show _ = _ by rw [heap_setCell_same hc.out, Hst.out]), Keep.trans hkp (Keep.setCell wr ⟨w.heap.size + 1, k, none⟩ _) (by simp)⟩
      case measure => simp [intOf]; omega
    · have hkv : k = v.length := by omega
      have hfull := idA_full v H32.out
      have hc' := hc.out
      rw [hkv, hfull] at hc'
      have hrow : rowAt wr (w.heap.size + 1) 0 32 = some (idC (idOf v)) := by unfold rowAt; rw [hc']; simp [go_sem]
      have hg2 := (hkp.block w.heap.size (by omega) (by simp)).trans Hg2.out
      have hsto := run_stS_at (P := Tryz.prog) infoId wr w.heap.size (idC id0) (idC (idOf v)) _ hg2 (by simp) (by simp) (idC_one _)
      have hrow2 : rowAt (wr.setRow w.heap.size (idC (idOf v))) w.heap.size 0 32 = some (idC (idOf v)) := by
        unfold rowAt; rw [setRow_heap wr w.heap.size _ _ _ _ hg2]; simp [go_sem]
      have hkf : Keep [w.heap.size] wr (wr.setRow w.heap.size (idC (idOf v))) := ⟨rfl, rfl, rfl, by simp [World.setRow], fun x _ hx => setRow_other wr w.heap.size x _ (by simpa using hx)⟩
      have hkz := Keep.trans (hkp.mono (S' := [w.heap.size, w.heap.size + 1]) (by simp)) (hkf.mono (S' := [w.heap.size, w.heap.size + 1]) (by simp)) (fun x hx => .inl hx)
      have Hkz := Lib.hid hkz
      have Hfin := Lib.hid (setRow_heap wr w.heap.size _ (idC (idOf v)) _ _ hg2)
      clear hkf hkz hg2 hc' hc hfull hkv
      go_wp2_with fail
      have hr := Hrr.out.kept Hkz.out (by simp; omega)
      have hkk := Keep.trans Hk1.out Hkz.out (fun x hx => .inr (by simp at hx; omega))
      exact bodyPost_ret (results_cell_row Tryz.results68 _ _ w.heap.size 39 (idC (idOf v)) (0, 0) _ rfl Hfin.out Tryz.underlying39 rfl (by rw [idC_size]; exact infoId)) rfl ⟨rfl, hr, hkk⟩

end Go.Proofs.YtgfpjjppeldhbaaGreatDoor

/- Numbers and texts as bytes, read back: the plain law. -/
namespace Go.Proofs.YtgfpjjppeldhbaaGreatDoor
open Go.RowKit

def txV (l : List UInt8) (e : Int) : ByteArray := mkB (rawV (numV 1 l e) (rawL 1 l e) (rawE 1 l e))
def txL (l : List UInt8) (e : Int) : List UInt8 := rawL (numV 1 l e) (rawL 1 l e) (rawE 1 l e)
def txE (l : List UInt8) (e : Int) : Int := rawE (numV 1 l e) (rawL 1 l e) (rawE 1 l e)
theorem numV_lt (M : Nat) (l : List UInt8) (e : Int) : numV M l e < 256 ^ M := by
  unfold numV
  exact Nat.lt_of_lt_of_le (beN_lt _) (Nat.pow_le_pow_right (by omega) (rawV_length M l e))
theorem txV_size (l : List UInt8) (e : Int) : (txV l e).size ≤ 255 := by
  unfold txV
  rw [mkB_size]
  have := rawV_length (numV 1 l e) (rawL 1 l e) (rawE 1 l e)
  have := numV_lt 1 l e
  omega
theorem beN_cons (c : UInt8) : ∀ (l : List UInt8), beN (c :: l) = c.toNat * 256 ^ l.length + beN l := by
  intro l
  have gen : ∀ (l : List UInt8) (a : Nat), l.foldl (fun n c => 256 * n + c.toNat) a = a * 256 ^ l.length + beN l := by
    intro l
    induction l with
    | nil => intro a; simp [beN]
    | cons d l ih =>
      intro a
      have e : beN (d :: l) = l.foldl (fun n c => 256 * n + c.toNat) (256 * 0 + d.toNat) := rfl
      rw [e, List.foldl_cons, ih, ih]
      simp only [List.length_cons, Nat.pow_succ]
      rw [Nat.mul_zero, Nat.zero_add, Nat.add_mul]
      have : 256 * a * 256 ^ l.length = a * (256 ^ l.length * 256) := by
        rw [Nat.mul_comm 256 a, Nat.mul_assoc, Nat.mul_comm 256]
      omega
  have e : beN (c :: l) = l.foldl (fun n c => 256 * n + c.toNat) (256 * 0 + c.toNat) := rfl
  rw [e, gen]; simp
theorem beL_mod : ∀ (m n k : Nat), beL m (n + k * 256 ^ m) = beL m n
  | 0, _, _ => rfl
  | m + 1, n, k => by
    have h1 : n + k * 256 ^ (m + 1) = n + (k * 256) * 256 ^ m := by rw [Nat.pow_succ, Nat.mul_comm (256 ^ m), ← Nat.mul_assoc]
    unfold beL
    rw [h1, Nat.add_mul_div_right _ _ (Nat.pow_pos (by omega))]
    congr 1
    · apply UInt8.toNat_inj.1
      simp
    · exact beL_mod m n (k * 256)
theorem beL_beN : ∀ (v : List UInt8), beL v.length (beN v) = v
  | [] => rfl
  | c :: v => by
    rw [beN_cons]
    show UInt8.ofNat ((c.toNat * 256 ^ v.length + beN v) / 256 ^ v.length) :: beL v.length (c.toNat * 256 ^ v.length + beN v) = _
    rw [Nat.add_comm, beL_mod, beL_beN v, Nat.add_mul_div_right _ _ (Nat.pow_pos (by omega)), Nat.div_eq_of_lt (beN_lt v)]
    congr 1
    apply UInt8.toNat_inj.1
    simp
theorem beN_beL : ∀ (m n : Nat), n < 256 ^ m → beN (beL m n) = n
  | 0, n, h => by
    have : n = 0 := by simpa using h
    subst this; rfl
  | m + 1, n, h => by
    have hp : 0 < 256 ^ m := Nat.pow_pos (by omega)
    have hd : n / 256 ^ m < 256 := by
      rw [Nat.div_lt_iff_lt_mul hp, Nat.mul_comm, ← Nat.pow_succ]; exact h
    have hm : beL m n = beL m (n % 256 ^ m) := by
      have := beL_mod m (n % 256 ^ m) (n / 256 ^ m)
      rw [Nat.mul_comm, Nat.mod_add_div] at this
      exact this
    show beN (UInt8.ofNat (n / 256 ^ m) :: beL m n) = n
    rw [beN_cons, beL_length, hm, beN_beL m _ (Nat.mod_lt _ hp)]
    have : (UInt8.ofNat (n / 256 ^ m)).toNat = n / 256 ^ m := by simp; omega
    rw [this, Nat.mul_comm, Nat.add_comm, Nat.mod_add_div]

/-! ### What was read is what lay there -/
theorem raw_split {n : Nat} {l : List UInt8} {e : Int} (h : rawE n l e = 0) : e = 0 ∧ rawV n l e ++ rawL n l e = l ∧ (rawV n l e).length = n := by
  unfold rawE at h
  split at h
  · rename_i he
    split at h
    · rename_i hn
      unfold rawV rawL
      rw [if_pos ⟨he, hn⟩, if_pos ⟨he, hn⟩]
      exact ⟨he, List.take_append_drop _ _, by simp; omega⟩
    · cases h
  · exact absurd h (by assumption)
theorem num_split {M : Nat} {l : List UInt8} {e : Int} (h : rawE M l e = 0) : e = 0 ∧ beL M (numV M l e) ++ rawL M l e = l := by
  obtain ⟨he, h1, h2⟩ := raw_split h
  refine ⟨he, ?_⟩
  have h3 := beL_beN (rawV M l e)
  rw [h2] at h3
  unfold numV
  rw [h3, h1]
theorem mkB_list (l : List UInt8) : (mkB l).data.toList = l := rfl
theorem tx_split {l : List UInt8} {e : Int} (h : txE l e = 0) : e = 0 ∧ beL 1 (txV l e).size ++ ((txV l e).data.toList ++ txL l e) = l := by
  obtain ⟨h1, h2, h3⟩ := raw_split (show rawE _ _ _ = 0 from h)
  obtain ⟨h4, h5⟩ := num_split h1
  refine ⟨h4, ?_⟩
  unfold txV txL
  rw [mkB_size, mkB_list, h3, h2, h5]
theorem raw_put (v t : List UInt8) : rawV v.length (v ++ t) 0 = v ∧ rawL v.length (v ++ t) 0 = t ∧ rawE v.length (v ++ t) 0 = 0 := by
  have hc : (0 : Int) = 0 ∧ v.length ≤ (v ++ t).length := ⟨rfl, by simp⟩
  refine ⟨?_, ?_, ?_⟩
  · unfold rawV; rw [if_pos hc]; simp
  · unfold rawL; rw [if_pos hc]; simp
  · unfold rawE; rw [if_pos rfl, if_pos hc.2]
theorem num_put {M n : Nat} (hn : n < 256 ^ M) (t : List UInt8) : numV M (beL M n ++ t) 0 = n ∧ rawL M (beL M n ++ t) 0 = t ∧ rawE M (beL M n ++ t) 0 = 0 := by
  have h := raw_put (beL M n) t
  rw [beL_length] at h
  refine ⟨?_, h.2.1, h.2.2⟩
  unfold numV
  rw [h.1, beN_beL M n hn]
theorem tx_put {s : ByteArray} (hs : s.size < 256) (t : List UInt8) : txV (beL 1 s.size ++ (s.data.toList ++ t)) 0 = s ∧ txL (beL 1 s.size ++ (s.data.toList ++ t)) 0 = t ∧ txE (beL 1 s.size ++ (s.data.toList ++ t)) 0 = 0 := by
  obtain ⟨h1, h2, h3⟩ := num_put (M := 1) (n := s.size) (by omega) (s.data.toList ++ t)
  have h := raw_put s.data.toList t
  have hl : s.data.toList.length = s.size := Array.length_toList
  rw [hl] at h
  unfold txV txL txE
  rw [h1, h2, h3]
  exact ⟨by rw [h.1]; rfl, h.2.1, h.2.2⟩

end Go.Proofs.YtgfpjjppeldhbaaGreatDoor

/- Operations as bytes: the plain law of what bytes tell. -/
namespace Go.Proofs.YtgfpjjppeldhbaaGreatDoor
open Go.RowKit

/-- An operation. -/
structure OpV where
  k : Nat
  n : Int
  key : ByteArray
  val : ByteArray
  ref : Id32
  refs : List Id32
def opZero : OpV := ⟨0, 0, ⟨#[]⟩, ⟨#[]⟩, id0, []⟩

/-- Ids read, what is left, the fault. -/
structure IdsR where
  ids : List Id32
  l : List UInt8
  e : Int
def idStep (s : IdsR) : IdsR := ⟨s.ids ++ [idOf (rawV 32 s.l s.e)], rawL 32 s.l s.e, rawE 32 s.l s.e⟩
def idLoop : Nat → IdsR → IdsR
  | 0, s => s
  | k + 1, s => idLoop k (idStep s)
theorem idLoop_len : ∀ (k : Nat) (s : IdsR), (idLoop k s).ids.length = s.ids.length + k
  | 0, s => rfl
  | k + 1, s => by unfold idLoop; rw [idLoop_len k]; simp [idStep]; omega
def refsR (l : List UInt8) (e : Int) : IdsR := idLoop (numV 1 l e) ⟨[], rawL 1 l e, rawE 1 l e⟩
theorem refsR_len (l : List UInt8) (e : Int) : (refsR l e).ids.length ≤ 255 := by
  unfold refsR
  rw [idLoop_len]
  have := numV_lt 1 l e
  simp only [List.length_nil]
  omega

/-- An operation read, what is left, the fault. -/
structure OpR where
  o : OpV
  l : List UInt8
  e : Int
/-- What follows the kind. -/
def takeO : Nat → List UInt8 → Int → OpR
  | 1, l, e => ⟨⟨1, (numV 4 l e : Int) - 2147483648, ⟨#[]⟩, ⟨#[]⟩, id0, []⟩, rawL 4 l e, rawE 4 l e⟩
  | 2, l, e => ⟨⟨2, 0, ⟨#[]⟩, txV l e, id0, []⟩, txL l e, txE l e⟩
  | 3, l, e => ⟨⟨3, 0, ⟨#[]⟩, txV l e, id0, (refsR (txL l e) (txE l e)).ids⟩, (refsR (txL l e) (txE l e)).l, (refsR (txL l e) (txE l e)).e⟩
  | 4, l, e => ⟨⟨4, (numV 4 (txL (txL l e) (txE l e)) (txE (txL l e) (txE l e)) : Int), txV l e, txV (txL l e) (txE l e), id0, []⟩, rawL 4 (txL (txL l e) (txE l e)) (txE (txL l e) (txE l e)), rawE 4 (txL (txL l e) (txE l e)) (txE (txL l e) (txE l e))⟩
  | 5, l, e => ⟨⟨5, 0, txV l e, txV (txL l e) (txE l e), id0, (refsR (txL (txL l e) (txE l e)) (txE (txL l e) (txE l e))).ids⟩, (refsR (txL (txL l e) (txE l e)) (txE (txL l e) (txE l e))).l, (refsR (txL (txL l e) (txE l e)) (txE (txL l e) (txE l e))).e⟩
  | 6, l, e => ⟨⟨6, 0, ⟨#[]⟩, txV (rawL 32 l e) (rawE 32 l e), idOf (rawV 32 l e), []⟩, txL (rawL 32 l e) (rawE 32 l e), txE (rawL 32 l e) (rawE 32 l e)⟩
  | 7, l, e => ⟨⟨7, 0, ⟨#[]⟩, ⟨#[]⟩, idOf (rawV 32 l e), []⟩, rawL 32 l e, rawE 32 l e⟩
  | _, l, e => ⟨opZero, l, e⟩
/-- Are ids rising? -/
def risI : List Id32 → Bool
  | [] => true
  | [_] => true
  | x :: y :: l => decide (cmpId x y < 0) && risI (y :: l)
/-- May what was taken be? -/
def chkO (o : OpV) : Int :=
  if 16 < o.key.size ∨ 16 < o.val.size then 3
  else if 2147483648 ≤ o.n then 5
  else if 8 < o.refs.length then 6
  else if risI o.refs = false then 4 else 0
/-- The operation of bytes, or why there is none. -/
def opE (l : List UInt8) : Int :=
  if rawE 1 l 0 ≠ 0 then rawE 1 l 0
  else if numV 1 l 0 = 0 ∨ 7 < numV 1 l 0 then 10
  else if endE (takeO (numV 1 l 0) (rawL 1 l 0) 0).l (takeO (numV 1 l 0) (rawL 1 l 0) 0).e ≠ 0 then endE (takeO (numV 1 l 0) (rawL 1 l 0) 0).l (takeO (numV 1 l 0) (rawL 1 l 0) 0).e
  else chkO (takeO (numV 1 l 0) (rawL 1 l 0) 0).o
def opO (l : List UInt8) : OpV := (takeO (numV 1 l 0) (rawL 1 l 0) 0).o
/-- The kind of the topics to which a kind belongs. -/
def belongs (k : Nat) : Int := if k = 1 then 1 else if k = 2 ∨ k = 3 then 2 else if k = 4 then 3 else if k = 5 then 4 else if k = 6 ∨ k = 7 then 5 else 0

theorem risI_ok : ∀ (R : List Id32), risI R = true ↔ Ris cmpId R
  | [] => by simp [risI, Ris]
  | [x] => by simp [risI, Ris]
  | x :: y :: R => by
    have ih := risI_ok (y :: R)
    unfold risI
    rw [Bool.and_eq_true, ih, decide_eq_true_eq, ris_cons (x := x)]
    constructor
    · rintro ⟨h1, h2⟩
      refine ⟨fun z hz => ?_, h2⟩
      rcases List.mem_cons.1 hz with e | hz
      · rw [e]; exact h1
      · exact totId.trans _ _ _ h1 ((ris_cons.1 h2).1 z hz)
    · rintro ⟨h1, h2⟩
      exact ⟨h1 y (by simp), h2⟩

end Go.Proofs.YtgfpjjppeldhbaaGreatDoor

/- Ids read: op.id. -/
namespace Go.Proofs.YtgfpjjppeldhbaaGreatDoor
open Go.RowKit

theorem rd_num4 (w : World) (g : Nat) (l : List UInt8) (e : Int) (h : RdAt w g l e) :
    Calls Tryz.prog 91 #[.pointer (some ⟨g, 0, none⟩), .int .i64 4] w fun en w' => en = .returned (.int .i64 (numV 4 l e)) ∧ RdStep w g (rawL 4 l e) (rawE 4 l e) w' := rd_num w g 4 l e h (.inr rfl)
theorem rd_num1 (w : World) (g : Nat) (l : List UInt8) (e : Int) (h : RdAt w g l e) :
    Calls Tryz.prog 91 #[.pointer (some ⟨g, 0, none⟩), .int .i64 1] w fun en w' => en = .returned (.int .i64 (numV 1 l e)) ∧ RdStep w g (rawL 1 l e) (rawE 1 l e) w' := rd_num w g 1 l e h (.inl rfl)
theorem rd_raw32 (w : World) (g : Nat) (l : List UInt8) (e : Int) (h : RdAt w g l e) :
    Calls Tryz.prog 93 #[.pointer (some ⟨g, 0, none⟩), .int .i64 32] w fun en w' => en = .returned (.string (mkB (rawV 32 l e))) ∧ RdStep w g (rawL 32 l e) (rawE 32 l e) w' := rd_raw w g 32 l e h (by omega)

/-- What is turned above the old heap's end does not count. -/
theorem Keep.narrow {S T : List Nat} {w w' : World} (h : Keep S w w') (hs : ∀ x ∈ S, x ∈ T ∨ w.heap.size ≤ x) : Keep T w w' :=
  ⟨h.os, h.tape, h.output, h.size, fun k hk hx => h.block k hk (fun hm => by rcases hs k hm with h1 | h1; exact hx h1; omega)⟩
theorem idC_over (d d' : Id32) : ((idC d).toList.take (0 + 0) ++ (idC d').toList ++ (idC d).toList.drop (0 + 0 + (idC d').toList.length)).toArray = idC d' := by
  apply Array.ext'
  have h1 : (idC d').toList.length = 32 := by simp
  have h2 : (idC d).toList.length = 32 := by simp
  rw [h1]
  simp [List.drop_eq_nil_of_le, h2]
/-- An id's bytes, or none, copied into an id's box. -/
theorem copy_idb {w : World} {g : Nat} (b : List UInt8) (hb : b.length = 32 ∨ b = []) (ty : TypeId) (c : Nat) (h : w.heap[g]? = some (.cells (idC id0) 39 (0, 0))) :
    ∃ w' m, (Builtin.copy_ #[37, 9] ty #[.slice (some ⟨g, 0, none⟩) 32 c, .string (mkB b)]).run Tryz.prog w = .ok m w' ∧ w'.heap[g]? = some (.cells (idC (idOf b)) 39 (0, 0)) ∧ Keep [g] w w' := by
  rcases hb with hb | hb
  · have hs : (mkB b).size = 32 := by rw [mkB_size, hb]
    have h1 := Go.Lib.run_copy_row_string (P := Tryz.prog) w 37 9 ty 5 g 0 32 c (mkB b) _ _ Tryz.underlying37 (by kernel_rfl) h (by omega) (by rw [hs]; simp)
    refine ⟨_, _, h1, ?_, ⟨rfl, rfl, rfl, by simp [World.setRow], fun x _ hx => setRow_other w g x _ (by simpa using hx)⟩⟩
    rw [setRow_heap w g _ _ _ _ h]
    have e3 := idC_over id0 (idOf b)
    have e : (idOf b).l = b := by unfold idOf; rw [dif_pos hb]
    have e2 : (idC (idOf b)).toList = Go.Lib.byteCells (mkB b).data.toList := by unfold idC; rw [e]; rfl
    rw [e2] at e3
    have e4 : (Go.Lib.byteCells (mkB b).data.toList).length = 32 := by rw [← e2]; simp
    rw [e4] at e3
    rw [hs]
    simp only [Nat.add_zero] at e3
    rw [← e3]
  · subst hb
    have h1 := Go.Lib.run_copy_empty_string (P := Tryz.prog) w 37 9 ty 5 (some ⟨g, 0, none⟩) 32 c (mkB []) Tryz.underlying37 (by kernel_rfl) rfl
    exact ⟨_, _, h1, h, Keep.refl _ _⟩

set_option maxHeartbeats 1000000 in
theorem op_id (w : World) (g : Nat) (l : List UInt8) (e : Int) (h : RdAt w g l e) :
    Calls Tryz.prog 205 #[.pointer (some ⟨g, 0, none⟩)] w fun en w' => en = .returned (.agg (idC (idOf (rawV 32 l e)))) ∧ RdStep w g (rawL 32 l e) (rawE 32 l e) w' := by
  have hb0 : Below w.heap.size w ((w.alloc (.cells (idC id0) 39)).alloc (.cells (idC id0) 39)) := ((Below.refl _ _).alloc (Nat.le_refl _) _).alloc (by simp) _
  have hg2 : ((w.alloc (.cells (idC id0) 39)).alloc (.cells (idC id0) 39)).heap[w.heap.size]? = some (.cells (idC id0) 39 (0, 0)) := by
    rw [Below.heap_alloc _ _ _ (by simp)]; exact heap_alloc_new w _
  have hg3 : ((w.alloc (.cells (idC id0) 39)).alloc (.cells (idC id0) 39)).heap[w.heap.size + 1]? = some (.cells (idC id0) 39 (0, 0)) := by
    have := heap_alloc_new (w.alloc (.cells (idC id0) 39)) (.cells (idC id0) 39)
    simpa using this
  have hgl := h.lt
  have hr0 := h.below hb0
  have hsz0 : ((w.alloc (.cells (idC id0) 39)).alloc (.cells (idC id0) 39)).heap.size = w.heap.size + 2 := by simp
  have Hsz0 := Lib.hid hsz0
  clear hsz0 h
  go_enter Tryz.func205, Tryz.ntmps205
  go_upto_region 2 with fail
  obtain ⟨ga, hga⟩ : ∃ ga, w.heap.size = ga := ⟨_, rfl⟩
  have Hga := Lib.hid hga
  obtain ⟨W, hW⟩ : ∃ W, W = ((w.alloc (.cells (idC id0) 39)).alloc (.cells (idC id0) 39)) := ⟨_, rfl⟩
  rw [← hW] at hb0 hg2 hg3 hr0 Hsz0 ⊢
  rw [hga] at hg2 hg3 hgl ⊢
  clear hW
  have hgal : ga + 1 < W.heap.size := (Array.getElem?_eq_some_iff.1 hg3).1
  have c1 := rd_raw32 W.drew g l e (hr0.kept (Keep.drew W) (by simp))
  refine wp_region_lex (Kp [g, ga + 1] W) false (by kernel_rfl) (by kernel_rfl) (by kernel_rfl) (kp_drew [g, ga + 1] W) ?_
  have hne := kp_some [g, ga + 1] W
  have hS := kp_drew [g, ga + 1] W
  repeat (refine wpLx_loose ?_ ?_; (focus (simp only [chainOp]; done)); intro K hK; go_simp; refine hK _ ?_; clear hK K)
  refine wpLx_chain ?_ ?_ ?_
  focus (exact hS)
  focus (simp only [chainOp]; done)
  intro K hK
  go_simp
  refine c1.mono ?_
  rintro en w1 ⟨rfl, hr1, hk1⟩
  replace hS := kp_next hS hk1 (by simp)
  have hg31 : w1.heap[ga + 1]? = _ := (hk1.block (ga + 1) (by show _ < W.drew.heap.size; exact hgal) (by simp; omega)).trans hg3
  refine ⟨_, rfl, hS, hK _ _ ?_⟩
  clear hK K c1
  obtain ⟨w2, m2, hcp, hg32, hk2⟩ := copy_idb (rawV 32 l e) (rawV_32 _ _) 3 32 hg31
  refine wpLx_chain ?_ ?_ ?_
  focus (exact hS)
  focus (simp only [chainOp]; done)
  intro K hK
  go_simp
  refine step_keep (kp_next hS hk2 (by simp)) (fun hS2 => ?_)
  refine hK _ _ ?_
  clear hK K
  refine wpLx_nil ?_
  intro hS
  have hkk : Keep [g, ga + 1] W w2 := hS2
  have hr2 := hr1.kept hk2 (by simp; omega)
  have hg22 := (hkk.block ga (by omega) (by simp; omega)).trans hg2
  clear hcp hS hS2 hne hk1 hk2 hr1 hr0 hg31
  obtain ⟨d, hd⟩ : ∃ d, idOf (rawV 32 l e) = d := ⟨_, rfl⟩
  rw [hd] at hg32
  have Hd := Lib.hid hd
  clear hd
  have hrow : rowAt w2 (ga + 1) 0 32 = some (idC d) := by unfold rowAt; rw [hg32]; simp [go_sem]
  have hsto := run_stS_at (P := Tryz.prog) infoId w2 ga (idC id0) (idC d) _ hg22 (by simp) (by simp) (idC_one _)
  have hkf : Keep [ga] w2 (w2.setRow ga (idC d)) := ⟨rfl, rfl, rfl, by simp [World.setRow], fun x _ hx => setRow_other w2 ga x _ (by simpa using hx)⟩
  have Hfin := Lib.hid (setRow_heap w2 ga _ (idC d) _ _ hg22)
  have hr3 := hr2.kept hkf (by simp; omega)
  have hkw : Keep [g, ga, ga + 1] w (w2.setRow ga (idC d)) := Keep.trans (Keep.trans ((Keep.of_below hb0).mono (S' := [g, ga, ga + 1]) (by simp)) (hkk.mono (S' := [g, ga, ga + 1]) (by simp)) (fun x hx => .inl hx)) (hkf.mono (S' := [g, ga, ga + 1]) (by simp)) (fun x hx => .inl hx)
  have hkz : Keep [g] w (w2.setRow ga (idC d)) := hkw.narrow (fun x hx => by have := Hga.out; simp at hx ⊢; omega)
  have Hr3 := Lib.hid hr3; have Hkz := Lib.hid hkz
  clear hr3 hr2 hkw hkz hkf hg22 hg32 hb0 hkk
  go_wp2_with fail
  exact bodyPost_ret (results_cell_row Tryz.results205 _ _ ga 39 (idC d) (0, 0) _ rfl Hfin.out Tryz.underlying39 rfl (by rw [idC_size]; exact infoId)) rfl ⟨by rw [Hd.out], Hr3.out, Hkz.out⟩

end Go.Proofs.YtgfpjjppeldhbaaGreatDoor

/- What operations of a kind have: the table, and op.of. -/
namespace Go.Proofs.YtgfpjjppeldhbaaGreatDoor
open Go.RowKit

def partN (k : Nat) : Nat := [0, 1, 4, 20, 7, 22, 12, 8].getD k 0
/-- The table lies where the program has it. -/
def PartsVar (w : World) : Prop := ∀ k, k < 8 → w.cell? ⟨0, k, none⟩ = some (.int .i64 (partN k))
theorem PartsVar.below {w w' : World} (h : PartsVar w) (hb : Below w.heap.size w w') : PartsVar w' := fun k hk => (hb.cell (p := ⟨0, k, none⟩) (World.block_lt_of_cell? w _ (h k hk))).trans (h k hk)
theorem PartsVar.lt {w : World} (h : PartsVar w) : 0 < w.heap.size := World.block_lt_of_cell? w _ (h 0 (by omega))
theorem PartsVar.kept {w w' : World} {S : List Nat} (h : PartsVar w) (k : Keep S w w') (h0 : 0 ∉ S) : PartsVar w' := fun i hi => (k.cell (p := ⟨0, i, none⟩) h.lt h0).trans (h i hi)

theorem op_of (k : Nat) (w : World) (hp : PartsVar w) (hk : k ≤ 9223372036854775807) : Calls Tryz.prog 133 #[.int .i64 k] w fun e w' => e = .returned (.int .i64 (partN k)) ∧ w = w' := by
  by_cases h8 : k < 8
  · have hc := hp k h8
    obtain ⟨v, hv⟩ : ∃ v : Nat, partN k = v := ⟨_, rfl⟩
    rw [hv] at hc
    have Hv := Lib.hid hv
    clear hv
    go_enter Tryz.func133, Tryz.ntmps133
    go_wp2_with fail
    go_ret
    exact ⟨ret_int (by rw [Hv.out]), rfl⟩
  · have hv : partN k = 0 := by unfold partN; simp [List.getD, List.getElem?_eq_none (show [0, 1, 4, 20, 7, 22, 12, 8].length ≤ k by simp; omega)]
    have Hv := Lib.hid hv
    clear hv
    go_enter Tryz.func133, Tryz.ntmps133
    go_wp2_with fail
    go_ret
    exact ⟨ret_int (by rw [Hv.out]; rfl), rfl⟩

end Go.Proofs.YtgfpjjppeldhbaaGreatDoor

/- Slices of the call's own: many rows appended, one row turned. No program is named here. -/
namespace Go.Proofs.YtgfpjjppeldhbaaGreatDoor
open Go.RowKit

theorem flat_set : ∀ (L : List (Array Value)) (k : Nat), (∀ c ∈ L, c.size = k) → ∀ (i : Nat) (cs : Array Value), i < L.length →
    (L.set i cs).flatMap Array.toList = (L.flatMap Array.toList).take (i * k) ++ cs.toList ++ (L.flatMap Array.toList).drop (i * k + k)
  | c :: L, k, hs, 0, cs, _ => by
    have hc : c.toList.length = k := by simpa using hs c (by simp)
    simp only [List.set_cons_zero, List.flatMap_cons, Nat.zero_mul, List.take_zero, List.nil_append, Nat.zero_add]
    rw [← hc, List.drop_left]
  | c :: L, k, hs, i + 1, cs, hi => by
    have hc : c.toList.length = k := by simpa using hs c (by simp)
    have ih := flat_set L k (fun c h => hs c (by simp [h])) i cs (by simpa using hi)
    simp only [List.set_cons_succ, List.flatMap_cons]
    rw [ih]
    have e1 : (i + 1) * k = c.toList.length + i * k := by rw [hc, Nat.add_mul]; omega
    rw [e1, List.take_append, List.drop_append]
    have t1 : c.toList.take (c.toList.length + i * k) = c.toList := List.take_of_length_le (by omega)
    have t2 : c.toList.drop (c.toList.length + i * k + k) = [] := List.drop_eq_nil_of_le (by omega)
    rw [t1, t2]
    have n1 : c.toList.length + i * k - c.toList.length = i * k := by omega
    have n2 : c.toList.length + i * k + k - c.toList.length = i * k + k := by omega
    rw [n1, n2]
    simp

theorem flat_div {L : List (Array Value)} {k : Nat} (hk : 0 < k) (hs : ∀ c ∈ L, c.size = k) {j : Nat} {u : Value} (h : (L.flatMap Array.toList)[j]? = some u) :
    ∃ i r, ∃ (hi : i < L.length), r < k ∧ j = i * k + r ∧ (L[i])[r]? = some u := by
  have hlen := flat_len L k hs
  have hj : j < L.length * k := by
    have := (List.getElem?_eq_some_iff.1 h).1
    omega
  have hi : j / k < L.length := Nat.div_lt_of_lt_mul (by rw [Nat.mul_comm]; exact hj)
  have hr : j % k < k := Nat.mod_lt _ hk
  have he : j = j / k * k + j % k := by rw [Nat.mul_comm]; exact (Nat.div_add_mod j k).symm
  refine ⟨j / k, j % k, hi, hr, he, ?_⟩
  rw [← flat_get L k hs (j / k) (j % k) hi hr, ← he, h]

section
variable {P : Program} {T E : TypeId} {k bytes : Nat}

/-- Rows more. -/
theorem append_rows (I : ElemInfo P T E k bytes) {w : World} {B : Nat} {A : Option Addr} {n cap : Nat} {L : List (Array Value)} (hown : Own w B E k A n cap L)
    {A2 : Option Addr} {m c : Nat} {R : List (Array Value)} (hsrc : SlR w A2 m k R) (hform : A2 = none → c = 0) (hone : ∀ r ∈ R, ∀ u ∈ r.toList, u.oneCell' = true) (hbytes : (n + m) * bytes ≤ 140737488355328) (hn : n + m ≤ 9223372036854775807) (hB : B ≤ w.heap.size) (ty : TypeId) :
    ∃ A' cap' w', (Builtin.append_ #[T, T] ty #[.slice A n cap, .slice A2 m c]).run P w = .ok (.slice A' (n + m) cap') w' ∧ Own w' B E k A' (n + m) cap' (L ++ R) ∧ Keep (blk A) w w' ∧ (∀ x ∈ blk A', x ∈ blk A ∨ w.heap.size ≤ x) := by
  obtain ⟨i, z, hi, hz, hsz, hby, hzs⟩ := I.info
  have hsize : ∀ r ∈ R, r.size = k := by
    intro r hr
    obtain ⟨j, hj, rfl⟩ := List.mem_iff_getElem.1 hr
    obtain ⟨g, o, _, hc⟩ := hsrc.at_ (i := j) (by have := hsrc.1; omega)
    exact rowAt_size hc
  cases A2 with
  | none =>
    have hm : m = 0 := by
      rcases Nat.eq_zero_or_pos m with h | h
      · exact h
      · obtain ⟨g, o, e, _⟩ := hsrc.2 h; cases e
    subst hm
    have hR : R = [] := List.eq_nil_of_length_eq_zero hsrc.1
    subst hR
    have hc := hform rfl
    subst hc
    exact ⟨A, cap, w, run_append_owned_none (P := P) w B T ty E i k I.und hi _ _ _ hown.row, by simpa using hown, Keep.refl _ _, fun x hx => .inl hx⟩
  | some a =>
    obtain ⟨v', w', hrun, hown', hg, _, hblk⟩ := run_append_own_at (P := P) w B T ty E i z k bytes I.und hi hz hsz hby hzs I.pos (.slice A n cap) n _ hown.row a m c (R.flatMap Array.toList) (by rw [flat_len R k hsize, hsrc.1])
      (fun j u hu => by
        obtain ⟨x, r, hx, hr, rfl, hcell⟩ := flat_div I.pos hsize hu
        obtain ⟨g, o, e, hrow⟩ := hsrc.at_ (i := x) (by have := hsrc.1; omega)
        injection e with e; subst e
        have hadd : (⟨g, o, none⟩ : Addr).add (x * k + r) = ⟨g, o + (x * k + r), none⟩ := by unfold Addr.add; split <;> simp_all
        rw [hadd, ← Nat.add_assoc, rowAt_cell hrow hr]
        exact hcell)
      (fun u hu => by
        obtain ⟨r, hr, hu⟩ := List.mem_flatMap.1 hu
        exact hone r hr u hu) (by simp only [maxLen]; omega) hbytes hB
    have hform : ∃ A' cap', v' = .slice A' (n + m) cap' := by
      rcases hown'.2 with ⟨h0, h00⟩ | ⟨g, c', cur, hv, _⟩
      · exact ⟨none, 0, by rw [h0, h00]⟩
      · exact ⟨_, _, hv⟩
    obtain ⟨A', cap', rfl⟩ := hform
    have hb : (Value.slice A n cap).ownBlock = (A.map (·.block)) := by cases A <;> rfl
    have hb' : (Value.slice A' (n + m) cap').ownBlock = (A'.map (·.block)) := by cases A' <;> rfl
    refine ⟨A', cap', w', hrun, ⟨by rw [List.flatMap_append]; exact hown', by simp [hown.len, hsrc.1], fun c' hc' => ?_⟩, ?_, ?_⟩
    · rcases List.mem_append.1 hc' with h | h
      · exact hown.size c' h
      · exact hsize c' h
    · have := Keep.grown hg
      rwa [hb] at this
    · intro x hx
      rw [hb, hb'] at hblk
      rcases hblk with e | e
      · left; unfold blk at hx ⊢; rw [e] at hx; exact hx
      · right
        unfold blk at hx; rw [e] at hx
        have : x = w.heap.size := by simpa using hx
        omega

/-- One row turned. -/
theorem own_store (I : ElemInfo P T E k bytes) {w : World} {B : Nat} {g n cap : Nat} {L : List (Array Value)} (hown : Own w B E k (some ⟨g, 0, none⟩) n cap L) {i : Nat} (hi : i < n) {cs : Array Value} (hcs : cs.size = k) (hone : ∀ u ∈ cs.toList, u.oneCell' = true) :
    ∃ w', (stS E ⟨g, i * k, none⟩ (.agg cs)).run P w = .ok () w' ∧ Own w' B E k (some ⟨g, 0, none⟩) n cap (L.set i cs) ∧ Keep [g] w w' := by
  obtain ⟨inf, z, hinf, hz, hsz, hby, hzs⟩ := I.info
  have hlen := flat_len L k hown.size
  have hL := hown.len
  obtain ⟨⟨h1, h2⟩, _, hs⟩ := hown
  rcases h2 with ⟨h2, _⟩ | ⟨g', c, cur, hv, hb, hg, hnc, hcm, hcsz, htake⟩
  · cases h2
  · injection hv with hA _ hc
    injection hA with hA
    injection hA with hA
    subst hA; subst hc
    have hle : i * k + k ≤ n * k := by
      have : (i + 1) * k ≤ n * k := Nat.mul_le_mul_right k (by omega)
      rw [Nat.add_mul] at this; omega
    have hle2 : n * k ≤ cur.size := by rw [hcsz]; exact Nat.mul_le_mul_right k hnc
    have hst := run_storeCells_at P g (i * k) E cs.toList 0 cur w hg (by simp; omega) hone
    simp only [Nat.add_zero, Array.length_toList, hcs] at hst
    have hset : (w.setRow g (cur.toList.take (i * k) ++ cs.toList ++ cur.toList.drop (i * k + k)).toArray).heap[g]? = some (.cells (cur.toList.take (i * k) ++ cs.toList ++ cur.toList.drop (i * k + k)).toArray E (0, 0)) := setRow_heap w g cur _ E _ hg
    refine ⟨_, ?_, ⟨⟨?_, .inr ⟨g, cap, _, rfl, hb, hset, hnc, hcm, ?_, ?_⟩⟩, by simp [hL], ?_⟩, ⟨rfl, rfl, rfl, by simp [World.setRow], fun x _ hx => setRow_other w g x _ (by simpa using hx)⟩⟩
    · unfold stS storeVar
      simp [Value.cells, sizeOf, typeInfo, hinf, hsz, hcs]
      simpa using hst
    · rw [flat_len _ k (fun c hc => by
        rcases List.mem_or_eq_of_mem_set hc with h | h
        · exact hs c h
        · rw [h]; exact hcs), List.length_set, hL]
    · simp; omega
    · rw [flat_set L k hs i cs (by omega), ← htake]
      have hcl : cs.toList.length = k := by simpa using hcs
      have hcur : n * k ≤ cur.toList.length := by simpa using hle2
      generalize cur.toList = X at *
      generalize cs.toList = Y at *
      apply List.ext_getElem?
      intro j
      simp only [List.getElem?_take, List.getElem?_append, List.length_append, List.length_take, List.getElem?_drop]
      have m1 : min (i * k) X.length = i * k := by omega
      have m2 : min (i * k) (min (n * k) X.length) = i * k := by omega
      simp only [m1, m2, hcl]
      by_cases c1 : j < i * k
      · have c2 : j < i * k + k := by omega
        have c3 : j < n * k := by omega
        simp [c1, c2, c3]
      · by_cases c2 : j < i * k + k
        · have c3 : j < n * k := by omega
          simp [c1, c2, c3]
        · have e : i * k + k + (j - (i * k + k)) = j := by omega
          simp [c1, c2, e]
    · intro c hc
      rcases List.mem_or_eq_of_mem_set hc with h | h
      · exact hs c h
      · rw [h]; exact hcs
end

/-- An empty slice literal. -/
theorem run_bsS0 {P : Program} {T E : TypeId} {k bytes : Nat} (I : ElemInfo P T E k bytes) (w : World) : (bsS T 0 #[]).run P w = .ok (.slice (some ⟨w.heap.size, 0, none⟩) 0 0) (w.alloc (.cells #[] E)) := by
  obtain ⟨i, z, hi, hz, hsz, hby, hzs⟩ := I.info
  unfold bsS Instr.buildSlice
  simp only [Sem.run_bind, run_underlying I.und, Result.andThen_ok, sizeOf, typeInfo, hi, hsz]
  simp [hi, hz, zeroValue, typeInfo, hsz, Instr.fill, newRow]
  have e : Array.range 0 = #[] := rfl
  rw [e]; simp
theorem Own.empty (w : World) (B : Nat) (E : TypeId) (k : Nat) (hB : B ≤ w.heap.size) : Own (w.alloc (.cells #[] E)) B E k (some ⟨w.heap.size, 0, none⟩) 0 0 [] :=
  ⟨⟨by simp, .inr ⟨w.heap.size, 0, #[], rfl, hB, heap_alloc_new w _, Nat.le_refl _, Nat.zero_le _, by simp, by simp⟩⟩, rfl, by simp⟩
theorem Own.cap_le {w : World} {B : Nat} {E : TypeId} {k : Nat} {A : Option Addr} {n cap : Nat} {L : List (Array Value)} (h : Own w B E k A n cap L) : n ≤ cap ∧ (A = none → n = 0 ∧ cap = 0) := by
  rcases h.row.2 with ⟨h1, h2⟩ | ⟨g, c, cur, hv, _, _, hnc, _⟩
  · injection h1 with e1 e2 e3
    subst e1; subst e2; subst e3
    exact ⟨Nat.le_refl _, fun _ => ⟨rfl, rfl⟩⟩
  · injection hv with e1 e2 e3
    subst e1; subst e3
    exact ⟨hnc, fun e => by cases e⟩
theorem SlR.take_ {w : World} {A : Option Addr} {n k : Nat} {L : List (Array Value)} (h : SlR w A n k L) {m : Nat} (hm : m ≤ n) : SlR w A m k (L.take m) :=
  ⟨by rw [List.length_take, h.1]; omega, fun h0 => by
    obtain ⟨g, o, e, hc⟩ := h.2 (by omega)
    refine ⟨g, o, e, fun i hi => ?_⟩
    have hi' : i < L.length := by simp at hi; omega
    rw [hc i hi']; simp⟩
theorem SlR.drop_ {w : World} {g o n k : Nat} {L : List (Array Value)} (h : SlR w (some ⟨g, o, none⟩) n k L) {m : Nat} (hm : m ≤ n) : SlR w (some ⟨g, o + m * k, none⟩) (n - m) k (L.drop m) :=
  ⟨by rw [List.length_drop, h.1], fun h0 => by
    obtain ⟨g', o', e, hc⟩ := h.2 (by omega)
    injection e with e; injection e with e1 e2
    subst e1; subst e2
    refine ⟨g, o + m * k, rfl, fun i hi => ?_⟩
    have hi' : m + i < L.length := by simp at hi; omega
    have := hc (m + i) hi'
    rw [Nat.add_mul, ← Nat.add_assoc] at this
    rw [this]; simp⟩

/-- 'm = append(m, x...)' in a plain region. -/
theorem L_appends {P : Program} {ops : Array Oper} {Q : Exit → Act → World → Prop} {a : Act} {w : World} {rest : List Oper} {dst : Option Tmp} {s x : Operand} {ty : TypeId} {pos : String} {after : Array Edge} {T E : TypeId} {k bytes : Nat} (I : ElemInfo P T E k bytes)
    {B : Nat} {A : Option Addr} {n cap : Nat} {L : List (Array Value)} (hs : a.eval s = .slice A n cap) (hown : Own w B E k A n cap L)
    {A2 : Option Addr} {m c : Nat} {R : List (Array Value)} (hx : a.eval x = .slice A2 m c) (hsrc : SlR w A2 m k R) (hform : A2 = none → c = 0) (hone : ∀ r ∈ R, ∀ u ∈ r.toList, u.oneCell' = true) (hbytes : (n + m) * bytes ≤ 140737488355328) (hn : n + m ≤ 9223372036854775807) (hB : B ≤ w.heap.size)
    (h : ∀ A' cap' w', Own w' B E k A' (n + m) cap' (L ++ R) → Keep (blk A) w w' → (∀ x ∈ blk A', x ∈ blk A ∨ w.heap.size ≤ x) → wpList P ops Q rest (a.put dst (.slice A' (n + m) cap')) w') :
    wpList P ops Q ({ dst := dst, op := .call { callee := .builtin .append, args := #[s, x], argTypes := #[T, T] }, type := ty, pos := pos, after := after, guard := none } :: rest) a w := by
  obtain ⟨A', cap', w', hrun, h1, h2, h3⟩ := append_rows I hown hsrc hform hone hbytes hn hB ty
  refine wpList_plain rfl fun K hK => ?_
  unfold Oper.wp
  rw [exec_append a.eval hs hx hrun]
  exact hK _ _ (h A' cap' w' h1 h2 h3)

end Go.Proofs.YtgfpjjppeldhbaaGreatDoor
