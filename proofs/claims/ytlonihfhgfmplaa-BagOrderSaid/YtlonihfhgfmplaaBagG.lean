/- Package bag: List: the walk. -/
import Derived.Test.YtlonihfhgfmplaaBagF
namespace Go.Proofs.Ytlonihfhgfmplaa
open Go.RowKit Go.Sort Go.Shelf Go.Lib

@[go_sem ↓] theorem bsStr_rw (n : Nat) (parts : Array (Nat × Value)) : Instr.buildSlice 93 n parts = bsS 93 n parts := rfl
@[go_sem] theorem bsStr_run (w : World) (x : ByteArray) : (bsS 93 1 #[(0, .string x)]).run Try.prog w = .ok (.slice (some ⟨w.heap.size, 0, none⟩) 1 1) (w.alloc (.cells (strR x) 9)) := by kernel_rfl
def zR (z : List UInt8) : Array Value := #[encStr z]
theorem strR_zR (S : List ByteArray) : S.map strR = (S.map bl).map zR := by
  rw [List.map_map]
  exact List.map_congr_left fun s _ => by simp [strR, zR, encStr_bl]

theorem sort_strs (w : World) (B : Nat) (A : Option Addr) (n cap : Nat) (zs : List (List UInt8)) (hown : Own w B 9 1 A n cap (zs.map zR)) (hn : n ≤ 1000000) :
    Calls Try.prog 64 #[.slice A n cap] w fun e w' => e = .returned (.tuple #[]) ∧ Own w' B 9 1 A n cap ((zs.mergeSort fun x y => decide (x ≤ y)).map zR) ∧ Keep (blk A) w w' := by
  have hl : zs.length = n := by simpa using hown.len
  rcases hown.addr with rfl | ⟨g, rfl⟩
  · have hn0 : n = 0 := (hown.cap_le.2 rfl).1
    subst hn0
    have hS : zs = [] := List.eq_nil_of_length_eq_zero hl
    subst hS
    refine (AnyM.slices_Sort_string_none Try.laySortStr none cap w).mono ?_
    rintro e w' ⟨rfl, rfl⟩
    exact ⟨rfl, by simpa using hown, Keep.refl _ _⟩
  · subst hl
    have hgl : g < w.heap.size := (hown.at_base (x := g) (by simp [blk])).2
    refine (AnyM.slices_Sort_string Try.laySortStr g 0 cap zs w (own_holds1 (f := encStr) hown) hgl (by omega)).mono ?_
    rintro e w' ⟨rfl, m, os, rfl⟩
    obtain ⟨h1, h2⟩ := own_put1 (f := encStr) hown (Nat.le_refl _) m (zs.mergeSort fun x y => decide (x ≤ y)) (zs.mergeSort fun x y => decide (x ≤ y)) (List.mergeSort_perm _ _).length_eq (List.take_of_length_le (Nat.le_of_eq (List.mergeSort_perm _ _).length_eq)) os
    exact ⟨rfl, h1, h2.mono (by simp [blk])⟩
theorem compact_len (zs : List (List UInt8)) : (Lib.compact zs).length ≤ zs.length := by
  unfold Lib.compact Lib.compactUpTo
  rw [List.length_map]
  exact Nat.le_trans (List.length_filter_le _ _) (by simp)
theorem comp_strs (w : World) (B : Nat) (A : Option Addr) (n cap : Nat) (zs : List (List UInt8)) (hown : Own w B 9 1 A n cap (zs.map zR)) (hn : n ≤ 1000000) :
    Calls Try.prog 65 #[.slice A n cap] w fun e w' => e = .returned (.slice A (Lib.compact zs).length cap) ∧ Own w' B 9 1 A (Lib.compact zs).length cap ((Lib.compact zs).map zR) ∧ Keep (blk A) w w' := by
  have hl : zs.length = n := by simpa using hown.len
  rcases hown.addr with rfl | ⟨g, rfl⟩
  · have hn0 : n = 0 := (hown.cap_le.2 rfl).1
    subst hn0
    have hS : zs = [] := List.eq_nil_of_length_eq_zero hl
    subst hS
    refine (Any.slices_Compact_string_empty Try.layCompStr none cap w).mono ?_
    rintro e w' ⟨rfl, rfl⟩
    exact ⟨rfl, hown, Keep.refl _ _⟩
  · subst hl
    refine (Any.slices_Compact_string Try.layCompStr g 0 cap zs w (own_holds1 (f := encStr) hown) (by omega) (hown.cap_le.1)).mono ?_
    rintro e w' ⟨rfl, m, rfl⟩
    have hcl := compact_len zs
    obtain ⟨h1, h2⟩ := own_put1 (f := encStr) hown hcl m (Lib.compact zs ++ List.replicate (zs.length - (Lib.compact zs).length) []) (Lib.compact zs) (by simp; omega) (by simp) #[]
    rw [grow_empty] at h1 h2
    exact ⟨rfl, h1, h2.mono (by simp [blk])⟩

theorem blist_nil (w : World) : Calls Try.prog 30 #[.pointer none] w fun e w' => e = .returned (.slice none 0 0) ∧ w = w' := by
  go_enter Try.func30, Try.ntmps30
  go_wp2_with fail
  refine (bnone_nil _).mono ?_; rintro e w' ⟨rfl, rfl⟩
  go_wp2_with fail
  go_ret
  exact ⟨rfl, rfl⟩
theorem blist_zero (w : World) (g : Nat) (h : w.cell? ⟨g, 0, none⟩ = some (.map none)) : Calls Try.prog 30 #[.pointer (some ⟨g, 0, none⟩)] w fun e w' => e = .returned (.slice none 0 0) ∧ w = w' := by
  go_enter Try.func30, Try.ntmps30
  go_wp2_with fail
  refine (bnone_zero _ _ h).mono ?_; rintro e w' ⟨rfl, rfl⟩
  go_wp2_with fail
  go_ret
  exact ⟨rfl, rfl⟩

/-- Rows of pairs that hold names alone. -/
abbrev OwnL (w : World) (B : Nat) (A : Option Addr) (n cap : Nat) (L : List ByteArray) : Prop := Own w B 42 2 A n cap (L.map fun s => pairC (pairV s))

set_option maxRecDepth 100000 in
set_option maxHeartbeats 2000000 in
theorem blist (w : World) (g bl_ bg : Nat) (L G : List BRow) (h : BagAt w g bl_ bg L G) (hn : L.length ≤ 1000000) :
    Calls Try.prog 30 #[.pointer (some ⟨g, 0, none⟩)] w fun e w' => ∃ A cap, e = .returned (.slice A (listB L).length cap) ∧ OwnL w' w.heap.size A (listB L).length cap (listB L) ∧ Below w.heap.size w w' := by
  have hc := h.cell0
  have hlt := h.lt
  have hr := h.risL
  obtain ⟨w0, hrun, hR, hb0, hs0⟩ := SetAt.range (P := Try.prog) (kv := rowV) (ok := okR) h.live Try.underlying78
  go_enter Try.func30, Try.ntmps30
  go_wp2_with fail
  refine (bnone_live _ _ _ hc).mono ?_; rintro e w' ⟨rfl, rfl⟩
  go_wp2_with fail
  clear hrun hc
  go_loopw [3] (fun out wr => ∃ (S : List BRow) (A : Option Addr) (cap : Nat), out = .slice A S.length cap ∧ SetRange wr bl_ w.heap.size rowV okR L S ∧ Own wr w0.heap.size 9 1 A S.length cap ((S.map fun x => bl x.val).map zR) ∧ Below w.heap.size w wr ∧ w0.heap.size ≤ wr.heap.size) (fun _ wr => wr.rangeLeft bl_ w.heap.size)
  case atStart => exact ⟨[], none, 0, rfl, hR, Own.nil _ _ _ _, hb0, Nat.le_refl _⟩
  case round =>
    obtain ⟨S, A, cap, rfl, hR, hown, hb, hsz⟩ := hrel
    rcases hR.next (P := Try.prog) 0 with ⟨hall, hnd, hrun⟩ | ⟨x, w1, hxL, hxS, hrun, hR1, hk1, hs1, hl1, hen⟩
    · have hp : S.Perm L := (List.perm_ext_iff_of_nodup hnd (hr.nodup totRow)).2 hall
      have hSL := hp.length_eq
      have hsort := sort_strs wr w0.heap.size A S.length cap _ hown (by omega)
      have Hall := Lib.hid hall; have HSL := Lib.hid hSL
      clear hall hSL hp
      go_wp2_with fail
      refine hsort.mono ?_; rintro e w2 ⟨rfl, hown2, hk2⟩
      clear hrun
      have hcomp := comp_strs w2 w0.heap.size A S.length cap _ hown2 (by have := HSL.out; omega)
      have hz : Lib.compact ((S.map fun x => bl x.val).mergeSort fun x y => decide (x ≤ y)) = (listB L).map bl := by
        have e1 : (S.map fun x => bl x.val) = (S.map (·.val)).map bl := by rw [List.map_map]; rfl
        rw [e1, compact_texts]
        congr 1
        exact sortC_congr totS fun z => by simp only [List.mem_map, Hall.out]
      rw [hz, ← strR_zR, List.length_map] at hcomp
      have hll := listB_len L
      obtain ⟨N, hN⟩ : ∃ N, listB L = N := ⟨_, rfl⟩
      rw [hN] at hcomp hll
      have HN := Lib.hid hN
      clear hz hsort hN
      go_wp2_with fail
      refine hcomp.mono ?_; rintro e w3 ⟨rfl, hown3, hk3⟩
      have hb3 : Below w.heap.size w w3 := (hb.trans (hk2.below (B := w.heap.size) (by omega) fun x hx => by have := (hown.at_base hx).1; omega)).trans (hk3.below (B := w.heap.size) (by have := hb.size; have := hk2.size; omega) fun x hx => by have := (hown.at_base hx).1; omega)
      have hsl := hown3.slr
      have haddr := hown3.addr
      clear hown2 hown3 hown hcomp
      go_wp2_with fail
      go_loopw [5, 29] (fun out i wr => ∃ (k : Nat) (A : Option Addr) (cap : Nat), k ≤ N.length ∧ i = .int .i64 k ∧ out = .slice A k cap ∧ OwnL wr w3.heap.size A k cap (N.take k) ∧ Below w3.heap.size w3 wr) (fun _ i _ => N.length - (intOf i).toNat)
      case atStart => exact ⟨0, none, 0, Nat.zero_le _, rfl, rfl, Own.nil _ _ _ _, Below.refl _ _⟩
      case round =>
        obtain ⟨k, A', cap', hk, rfl, rfl, hown, hbr⟩ := hrel
        by_cases hlt : k < N.length
        · obtain ⟨q, o, rfl, hrw⟩ := (hsl.below hbr).at_ hlt
          obtain rfl : o = 0 := by
            rcases haddr with e | ⟨g', e⟩
            · cases e
            · injection e with e; injection e
          rw [List.getElem_map] at hrw
          have hcell := rowAt_cell hrw (j := 0) (by omega)
          have htk : N.take (k + 1) = N.take k ++ [N[k]] := by rw [List.take_add_one, List.getElem?_eq_getElem hlt]; rfl
          obtain ⟨x, hx⟩ : ∃ x, N[k]'hlt = x := ⟨_, rfl⟩
          rw [hx] at hcell htk
          have hcell' : wr.cell? ⟨q, k, none⟩ = some (.string x) := by simpa [strR] using hcell
          have Htk := Lib.hid htk
          clear hx hcell hrw htk
          have hszr := hbr.size
          have hbx : Below wr.heap.size wr (wr.alloc (.cells (pairC ⟨x, ⟨#[]⟩⟩) 42)) := (Below.refl _ _).alloc (Nat.le_refl _) _
          have hown2 := hown.below hbx
          have hrow2 : rowAt (wr.alloc (.cells (pairC ⟨x, ⟨#[]⟩⟩) 42)) wr.heap.size 0 2 = some (pairC ⟨x, ⟨#[]⟩⟩) := by simp [go_sem]
          go_wp2_with (at_builtin; refine L_append einfoPair rfl hown2 rfl hrow2 (pairC_one _) (by omega) (by omega) (by simp; omega) ?_; intro A2 cap2 w4 hownA hkA hsubA)
          have hbA : Below w3.heap.size w3 w4 := hbr.trans ((hbx.mono hszr).trans (hkA.below (B := w3.heap.size) (by simp; omega) fun y hy => (hown.at_base hy).1))
          go_wp2_with fail
          go_roundw
          case rel => exact ⟨k + 1, A2, cap2, by omega, by go_num, rfl, by rw [Htk.out]; show Own _ _ _ _ _ _ _ _; rw [List.map_append]; exact hownA, hbA⟩
          case measure => simp [intOf]; omega
        · go_wp2_with fail
          go_ret
          have e : k = N.length := by omega
          subst e
          rw [List.take_length] at hown
          rw [HN.out]
          exact ⟨A', cap', rfl, hown.mono hb3.size, bel2 hb3 hbr⟩
    · have hSn : S.length + 1 ≤ 1000000 := by
        obtain ⟨M, Z, hZ, hks, _, hZS, hnd⟩ := hR1
        have h1 := hZ.length
        have h2 : (Z.map (·.1)).length = (S ++ [x]).length := by rw [hZS]
        have h3 : (M.map (·.1)).length ≤ L.length := nodup_len hnd (fun y hy => (hks y).1 hy)
        simp at h2 h3; omega
      have hownr : Own w1 w0.heap.size 9 1 A S.length cap ((S.map fun x => bl x.val).map zR) := hown.kept hk1 (fun y hy => by have := (hown.at_base hy).1; simp; omega)
      have hb1 : Below w.heap.size w w1 := hb.trans (hk1.below (B := w.heap.size) (by omega) (by simp))
      have hbx : Below w1.heap.size w1 ((w1.alloc (.cells (bRowC x) 120)).alloc (.cells (strR x.val) 9)) := ((Below.refl _ _).alloc (Nat.le_refl _) _).alloc (by simp) _
      have hown2 := hownr.below hbx
      have hrow2 : rowAt ((w1.alloc (.cells (bRowC x) 120)).alloc (.cells (strR x.val) 9)) (w1.heap.size + 1) 0 1 = some (strR x.val) := by simp [go_sem, strR]
      change (Instr.next _ _ _).run Try.prog wr = .ok (.tuple #[.bool true, .agg (bRowC x), .bool true]) w1 at hrun
      change (Instr.entry _).run Try.prog w1 = .ok (.tuple #[.agg (bRowC x), .bool true]) w1 at hen
      have Hs1 := Lib.hid hs1
      clear hs1
      go_wp2_with (at_builtin; refine L_append einfoStr rfl hown2 rfl hrow2 (strR_one _) (by omega) (by omega) (by simp; have := Hs1.out; omega) ?_; intro A' cap' w2 hownA hkA hsubA)
      have hbA : bl_ ∉ blk A := fun hx => by have := (hown.at_base hx).1; omega
      have hrA : w.heap.size ∉ blk A := fun hx => by have := (hown.at_base hx).1; omega
      have hR1x := hR1.kept (Keep.of_below hbx) (by simp) (by simp)
      have hR2 := hR1x.kept hkA hbA hrA
      have hl2 : w2.rangeLeft bl_ w.heap.size = w1.rangeLeft bl_ w.heap.size :=
        (rangeLeft_kept hkA hbA hrA hR1x.lt.2 hR1x.lt.1).trans (rangeLeft_kept (Keep.of_below hbx) (by simp) (by simp) hR1.lt.2 hR1.lt.1)
      have hsz2 : w0.heap.size ≤ w2.heap.size := by
        have e1 := hbx.size
        have e2 := hkA.size
        have e3 := Hs1.out
        omega
      have hb2 : Below w.heap.size w w2 := hb1.trans ((hbx.mono (by have := Hs1.out; omega)).trans (hkA.below (B := w.heap.size) (by simp; have := Hs1.out; omega) fun y hy => by have := (hown.at_base hy).1; omega))
      have hL' : (S.map fun x => bl x.val).map zR ++ [strR x.val] = ((S ++ [x]).map fun x => bl x.val).map zR := by simp [zR, strR, encStr_bl]
      rw [hL'] at hownA
      clear hrun hen hL'
      go_wp2_with fail
      go_roundw
      case rel => exact ⟨S ++ [x], A', cap', by simp, hR2, by simpa using hownA, hb2, hsz2⟩
      case measure => omega

end Go.Proofs.Ytlonihfhgfmplaa
