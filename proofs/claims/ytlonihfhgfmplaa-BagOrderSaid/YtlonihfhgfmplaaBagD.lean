/- Package bag: sorted, Tags, Has. -/
import Derived.Test.YtlonihfhgfmplaaBagC
import Derived.Test.YtlonihfhgfmplaaSort
import Derived.Test.YtlonihfhgfmplaaMany
import Derived.Test.YtlonihfhgfmplaaLayBag
namespace Go.Proofs.Ytlonihfhgfmplaa
open Go.RowKit Go.Sort Go.Shelf

instance : Inhabited BRow := ⟨bRow0⟩
theorem einfoBRow : ElemInfo Try.prog 123 120 33 48 :=
  .of (z := .agg (bRowC bRow0)) Try.underlying123 (by kernel_rfl) (by kernel_rfl) (by kernel_rfl) (bRowC_size _) (by omega)
@[go_sem ↓] theorem bsBRow_rw (n : Nat) (parts : Array (Nat × Value)) : Instr.buildSlice 123 n parts = bsS 123 n parts := rfl
@[go_sem] theorem bsBRow_run (w : World) (x : BRow) : (bsS 123 1 #[(0, .agg (bRowC x))]).run Try.prog w = .ok (.slice (some ⟨w.heap.size, 0, none⟩) 1 1) (w.alloc (.cells (bRowC x) 120)) :=
  run_bsS1 einfoBRow (by omega) w (bRowC x) (bRowC_size x)

theorem isAggRow (w : World) : (isAgg 120).run Try.prog w = .ok true w := by simp [isAgg, run_underlying Try.underlying120]
theorem sizeRow (w : World) : (Go.sizeOf 120).run Try.prog w = .ok 33 w := by
  have h := infoBRow
  cases hi : Try.prog.info? 120 with
  | none => rw [hi] at h; cases h
  | some i =>
    rw [hi] at h
    have hk : i.size = 33 := by simpa using h
    simp [Go.sizeOf, typeInfo, hi, hk]

/-- slices.SortFunc at rows of the call's own. -/
theorem sort_rows (w : World) (B : Nat) (A : Option Addr) (n cap : Nat) (S L : List BRow) (hown : Own w B 120 33 A n cap (S.map bRowC)) (hp : S.Perm L) (hr : Ris cmpRow L) (hn : L.length ≤ 1000000) :
    Calls Try.prog 97 #[.slice A n cap, .func (.func 98) #[] #[]] w fun e w' => e = .returned (.tuple #[]) ∧ Own w' B 120 33 A n cap (L.map bRowC) ∧ Keep (blk A) w w' := by
  have hl : S.length = n := by simpa using hown.len
  have hSL := hp.length_eq
  rcases hown.addr with rfl | ⟨g, rfl⟩
  · have hn0 : n = 0 := (hown.cap_le.2 rfl).1
    subst hn0
    have hS : S = [] := List.eq_nil_of_length_eq_zero hl
    subst hS
    have hL : L = [] := List.eq_nil_of_length_eq_zero hSL.symm
    subst hL
    refine (AnyF.slices_SortFunc_none Try.laySortRow none cap (.func (.func 98) #[] #[]) w).mono ?_
    rintro e w' ⟨rfl, rfl⟩
    exact ⟨rfl, hown, Keep.refl _ _⟩
  · subst hl
    have hH := own_holds (enc := bRowC) (by omega) bRowC_size hown
    have hcmp : CmpLays Try.prog 98 #[] (fun x : BRow => (bRowC x).toList) 33 cmpRow g 0 S.toArray.size w := fun m os dk _ x y => rorder x y _
    have hgl : g < w.heap.size := (hown.at_base (x := g) (by simp [blk])).2
    have hcon := AnyQ.slices_SortFunc_total Try.laySortRow 33 isAggRow sizeRow (fun x : BRow => (bRowC x).toList) (by simp) (fun x v hv => bRowC_one x v hv) cmpRow (swo_of totRow) 98 #[] g 0 cap S.toArray w
      (enters_of Try.func98 (by kernel_rfl) rfl) hcmp hH hgl (by simp; omega) (fun x y h1 h2 => by
        simp only [ltOf, decide_eq_false_iff_not] at h1 h2
        exact Classical.byContradiction fun e => h2 (totRow.flip h1 e))
    have e1 : S.toArray.size = S.length := by simp
    rw [e1] at hcon
    refine hcon.mono ?_
    rintro e w' ⟨rfl, n, os, rfl⟩
    have e2 : (S.toArray.toList.mergeSort fun x y => !(ltOf cmpRow y x)) = L := mergeSort_ris totRow hr hp
    rw [e2]
    obtain ⟨h1, h2⟩ := own_sorted (enc := bRowC) (by omega) bRowC_size hown n L hSL.symm os
    exact ⟨rfl, h1, h2.mono (by simp [blk])⟩

set_option maxRecDepth 100000 in
set_option maxHeartbeats 1000000 in
theorem bsorted (w : World) (b : Nat) (L : List BRow) (h : RowSet w b L) (hr : Ris cmpRow L) (hn : L.length ≤ 1000000) :
    Calls Try.prog 66 #[.map (some b)] w fun e w' => ∃ A cap, e = .returned (.slice A L.length cap) ∧ Own w' w.heap.size 120 33 A L.length cap (L.map bRowC) ∧ Below w.heap.size w w' := by
  have hbl := h.lt
  obtain ⟨w0, hrun, hR, hb0, hs0⟩ := SetAt.range (P := Try.prog) (kv := rowV) (ok := okR) h Try.underlying78
  go_enter Try.func66, Try.ntmps66
  go_wp2_with fail
  clear hrun
  go_loopw [3] (fun out wr => ∃ S A cap, out = .slice A S.length cap ∧ SetRange wr b w.heap.size rowV okR L S ∧ Own wr w0.heap.size 120 33 A S.length cap (S.map bRowC) ∧ Below w.heap.size w wr ∧ w0.heap.size ≤ wr.heap.size) (fun _ wr => wr.rangeLeft b w.heap.size)
  case atStart => exact ⟨[], none, 0, rfl, hR, Own.nil _ _ _ _, hb0, Nat.le_refl _⟩
  case round =>
    obtain ⟨S, A, cap, rfl, hR, hown, hb, hsz⟩ := hrel
    rcases hR.next (P := Try.prog) 0 with ⟨hall, hnd, hrun⟩ | ⟨x, w1, hxL, hxS, hrun, hR1, hk1, hs1, hl1, hen⟩
    · have hp : S.Perm L := (List.perm_ext_iff_of_nodup hnd (hr.nodup totRow)).2 hall
      have hSL := hp.length_eq
      have hsort := sort_rows wr w0.heap.size A S.length cap S L hown hp hr hn
      have Hall := Lib.hid hall; have HSL := Lib.hid hSL
      clear hall hSL hp
      go_wp2_with fail
      refine hsort.mono ?_; rintro e w2 ⟨rfl, hown2, hk2⟩
      clear hrun
      go_wp2_with fail
      go_ret
      rw [HSL.out] at hown2 ⊢
      refine ⟨A, cap, rfl, hown2.mono (by omega), hb.trans (hk2.below (B := w.heap.size) (by omega) fun x hx => by have := (hown.at_base hx).1; omega)⟩
    · have hSn : S.length + 1 ≤ 1000000 := by
        obtain ⟨M, Z, hZ, hks, _, hZS, hnd⟩ := hR1
        have h1 := hZ.length
        have h2 : (Z.map (·.1)).length = (S ++ [x]).length := by rw [hZS]
        have h3 : (M.map (·.1)).length ≤ L.length := nodup_len hnd (fun y hy => (hks y).1 hy)
        simp at h2 h3; omega
      have hownr : Own w1 w0.heap.size 120 33 A S.length cap (S.map bRowC) := hown.kept hk1 (fun y hy => by have := (hown.at_base hy).1; simp; omega)
      have hb1 : Below w.heap.size w w1 := hb.trans (hk1.below (B := w.heap.size) (by omega) (by simp))
      have hbx : Below w1.heap.size w1 ((w1.alloc (.cells (bRowC x) 120)).alloc (.cells (bRowC x) 120)) := ((Below.refl _ _).alloc (Nat.le_refl _) _).alloc (by simp) _
      have hown2 := hownr.below hbx
      have hrow2 : rowAt ((w1.alloc (.cells (bRowC x) 120)).alloc (.cells (bRowC x) 120)) (w1.heap.size + 1) 0 33 = some (bRowC x) := by simp [go_sem]
      change (Instr.next _ _ _).run Try.prog wr = .ok (.tuple #[.bool true, .agg (bRowC x), .bool true]) w1 at hrun
      change (Instr.entry _).run Try.prog w1 = .ok (.tuple #[.agg (bRowC x), .bool true]) w1 at hen
      have Hs1 := Lib.hid hs1
      clear hs1
      go_wp2_with (at_builtin; refine L_append einfoBRow rfl hown2 rfl hrow2 (bRowC_one _) (by omega) (by omega) (by simp; have := Hs1.out; omega) ?_; intro A' cap' w2 hownA hkA hsubA)
      have hbA : b ∉ blk A := fun hx => by have := (hown.at_base hx).1; omega
      have hrA : w.heap.size ∉ blk A := fun hx => by have := (hown.at_base hx).1; omega
      have hR1x := hR1.kept (Keep.of_below hbx) (by simp) (by simp)
      have hR2 := hR1x.kept hkA hbA hrA
      have hl2 : w2.rangeLeft b w.heap.size = w1.rangeLeft b w.heap.size :=
        (rangeLeft_kept hkA hbA hrA hR1x.lt.2 hR1x.lt.1).trans (rangeLeft_kept (Keep.of_below hbx) (by simp) (by simp) hR1.lt.2 hR1.lt.1)
      have hsz2 : w0.heap.size ≤ w2.heap.size := by
        have e1 := hbx.size
        have e2 := hkA.size
        have e3 := Hs1.out
        omega
      have hb2 : Below w.heap.size w w2 := hb1.trans ((hbx.mono (by have := Hs1.out; omega)).trans (hkA.below (B := w.heap.size) (by simp; have := Hs1.out; omega) fun y hy => by have := (hown.at_base hy).1; omega))
      clear hrun hen
      go_wp2_with fail
      go_roundw
      case rel => exact ⟨S ++ [x], A', cap', by simp, hR2, by simpa using hownA, hb2, hsz2⟩
      case measure => omega
    
/-- A value's tags. -/
def tagsOf (L : List BRow) (v : ByteArray) : List Id32 := (L.filter fun x => decide (x.val = v)).map (·.tag)

end Go.Proofs.Ytlonihfhgfmplaa
