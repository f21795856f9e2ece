/- Package fault: New, Wrap, Missing, Join, Code, Report. -/
import Derived.Test.YtiihicmodohaeaaDoorErrAs
namespace Go.Proofs.YtiihicmodohaeaaDoor
open Go.RowKit Go.Extern.Stop Go.Stop Go.Extern

theorem einfoId : ElemInfo Tryd.prog 22 24 32 32 :=
  .of (z := .agg (idC id0)) Tryd.underlying22 (by kernel_rfl) (by kernel_rfl) (by kernel_rfl) (idC_size _) (by omega)
@[go_sem ↓] theorem bsId_rw (n : Nat) (parts : Array (Nat × Value)) : Instr.buildSlice 22 n parts = bsS 22 n parts := rfl
@[go_sem] theorem bsId_run (w : World) (x : Id32) : (bsS 22 1 #[(0, .agg (idC x))]).run Tryd.prog w = .ok (.slice (some ⟨w.heap.size, 0, none⟩) 1 1) (w.alloc (.cells (idC x) 24)) :=
  run_bsS1 einfoId (by omega) w (idC x) (by simp)
@[go_sem] theorem bsId0_run (w : World) : (bsS 22 0 #[]).run Tryd.prog w = .ok (.slice (some ⟨w.heap.size, 0, none⟩) 0 0) (w.alloc (.cells #[] 24)) := run_bsS0 einfoId w
@[go_sem ↓] theorem ids_nil (w : World) (a : Option Addr) (n c : Nat) : (binOp .eql 22 (.slice a n c) (.slice none 0 0)).run Tryd.prog w = .ok (.bool a.isNone) w := by
  simp only [binOp]
  simp [Op.equal, Op.maxDepth, Lib.run_equalIn_slice_nil w 9999 22 24 a n c 0 0 Tryd.underlying22]
theorem ids_one {R : List Id32} : ∀ r ∈ R.map idC, ∀ u ∈ r.toList, u.oneCell' = true := fun r hr u hu => by
  obtain ⟨x, _, rfl⟩ := List.mem_map.1 hr
  exact idC_one x u hu

abbrev IdsIn (w : World) (A : Option Addr) (n : Nat) (R : List Id32) : Prop := SlR w A n 32 (R.map idC)
set_option maxRecDepth 100000 in
theorem clone_ids (w : World) (A : Option Addr) (n cap : Nat) (R : List Id32) (h : IdsIn w A n R) (hn : 0 < n) (hb : n ≤ 1000000000000) :
    Calls Tryd.prog 20 #[.slice A n cap] w fun e w' => ∃ A' cap', e = .returned (.slice A' n cap') ∧ Own w' w.heap.size 24 32 A' n cap' (R.map idC) ∧ Below w.heap.size w w' := by
  obtain ⟨g, o, rfl, _⟩ := h.2 hn
  have hbx : Below w.heap.size w (w.alloc (.cells #[] 24)) := (Below.refl _ _).alloc (Nat.le_refl _) _
  have hown := Own.empty w w.heap.size 24 32 (Nat.le_refl _)
  have hs := SlR.below h hbx
  go_enter Tryd.func20, Tryd.ntmps20
  go_wp2_with (at_builtin; refine L_appends einfoId rfl hown rfl hs (by simp) ids_one (by omega) (by omega) (by simp) ?_; intro A' cap' w' hown' hk' hsub')
  have hb2 : Below w.heap.size w w' := hbx.trans (hk'.below (by simp) (fun x hx => (hown.at_base hx).1))
  rw [Nat.zero_add, List.nil_append] at hown'
  clear hown hs hk' hsub' hbx h
  go_ret
  exact ⟨A', cap', rfl, hown', hb2⟩

theorem fnew_zero (w : World) : Calls Tryd.prog 19 #[.int .i64 0] w fun e w' => e = .returned .nilIface ∧ w = w' := by
  go_enter Tryd.func19, Tryd.ntmps19
  go_wp2_with fail
  go_ret
  exact ⟨rfl, rfl⟩
theorem fnew_some (n : Int) (hn : n ≠ 0) (w : World) : Calls Tryd.prog 19 #[.int .i64 n] w fun e w' => e = .returned (.iface 42 (.int .i64 n)) ∧ w = w' := by
  have h : (n == 0) = false := by simpa using hn
  go_enter Tryd.func19, Tryd.ntmps19
  go_wp2_with fail
  go_ret
  exact ⟨rfl, rfl⟩
theorem fwrap_nil (op : ByteArray) (w : World) : Calls Tryd.prog 9 #[.string op, .nilIface] w fun e w' => e = .returned .nilIface ∧ w = w' := by
  go_enter Tryd.func9, Tryd.ntmps9
  go_wp2_with fail
  go_ret
  exact ⟨rfl, rfl⟩
def ErrRes (w : World) (t : ErrT) (e : Ending) (w' : World) : Prop := ∃ v, e = .returned v ∧ ErrAt w' t v ∧ Below w.heap.size w w'
theorem fwrap_some (op : ByteArray) (t : ErrT) (v : Value) (w : World) (h : ErrAt w t v) : Calls Tryd.prog 9 #[.string op, v] w (ErrRes w (.wrap op t)) := by
  obtain ⟨d, x, rfl⟩ := h.iface
  have hb : Below w.heap.size w (w.alloc (.cells #[.string op, .iface d x] 59)) := (Below.refl _ _).alloc (Nat.le_refl _) _
  have H := Lib.hid h
  clear h
  go_enter Tryd.func9, Tryd.ntmps9
  go_wp2_with fail
  go_ret
  exact ⟨_, rfl, ⟨w.heap.size, _, rfl, heap_alloc_new w _, H.out.below hb⟩, hb⟩
theorem fjoin_nil (v : Value) (w : World) : Calls Tryd.prog 18 #[.nilIface, v] w fun e w' => e = .returned v ∧ w = w' := by
  go_enter Tryd.func18, Tryd.ntmps18
  go_wp2_with fail
  go_ret
  exact ⟨rfl, rfl⟩
theorem fjoin_right (t : ErrT) (v : Value) (w : World) (h : ErrAt w t v) : Calls Tryd.prog 18 #[v, .nilIface] w fun e w' => e = .returned v ∧ w = w' := by
  obtain ⟨d, x, rfl⟩ := h.iface
  clear h
  go_enter Tryd.func18, Tryd.ntmps18
  go_wp2_with fail
  go_ret
  exact ⟨rfl, rfl⟩
theorem fjoin_both (a b : ErrT) (u v : Value) (w : World) (hu : ErrAt w a u) (hv : ErrAt w b v) : Calls Tryd.prog 18 #[u, v] w (ErrRes w (.both a b)) := by
  obtain ⟨d, x, rfl⟩ := hu.iface
  obtain ⟨d', x', rfl⟩ := hv.iface
  have hb : Below w.heap.size w (w.alloc (.cells #[.iface d x, .iface d' x'] 73)) := (Below.refl _ _).alloc (Nat.le_refl _) _
  have H := Lib.hid hu; have H' := Lib.hid hv
  clear hu hv
  go_enter Tryd.func18, Tryd.ntmps18
  go_wp2_with fail
  go_ret
  exact ⟨_, rfl, ⟨w.heap.size, _, _, rfl, heap_alloc_new w _, H.out.below hb, H'.out.below hb⟩, hb⟩
theorem fmissing_nil (A : Option Addr) (cap : Nat) (w : World) : Calls Tryd.prog 7 #[.slice A 0 cap] w fun e w' => e = .returned .nilIface ∧ w = w' := by
  go_enter Tryd.func7, Tryd.ntmps7
  go_wp2_with fail
  go_ret
  exact ⟨rfl, rfl⟩
theorem fmissing_some (w : World) (A : Option Addr) (n cap : Nat) (R : List Id32) (h : IdsIn w A n R) (hn : 0 < n) (hb : n ≤ 1000000000000) :
    Calls Tryd.prog 7 #[.slice A n cap] w (ErrRes w (.rep R)) := by
  have c0 := clone_ids w A n cap R h hn hb
  have hn0 : ((n : Int) == 0) = false := by simp; omega
  clear h
  go_enter Tryd.func7, Tryd.ntmps7
  go_wp2_with fail
  refine c0.mono ?_; rintro e w1 ⟨A', cap', rfl, hown, hb1⟩
  have hs := hown.slr
  have hb2 : Below w1.heap.size w1 (w1.alloc (.cells #[.slice A' n cap'] 56)) := (Below.refl _ _).alloc (Nat.le_refl _) _
  clear hown c0
  go_wp2_with fail
  go_ret
  exact ⟨_, rfl, ⟨w1.heap.size, A', n, cap', rfl, heap_alloc_new w1 _, SlR.below hs hb2, hn⟩, bel2 hb1 hb2⟩

theorem fcode_nil (w : World) : Calls Tryd.prog 13 #[.nilIface] w fun e w' => e = .returned (.int .i64 0) ∧ Below w.heap.size w w' := by
  go_enter Tryd.func13, Tryd.ntmps13
  go_wp2_with fail
  go_ret
  exact ⟨rfl, (Below.refl _ _).alloc (Nat.le_refl _) _⟩
theorem fcode (t : ErrT) (v : Value) (w : World) (h : ErrAt w t v) (hg : ErrVar w) : Calls Tryd.prog 13 #[v] w fun e w' => e = .returned (.int .i64 (codeOf t)) ∧ Below w.heap.size w w' := by
  have hb0 : Below w.heap.size w (w.alloc (.cells #[.int .i64 0] 42)) := (Below.refl _ _).alloc (Nat.le_refl _) _
  have c0 := eAs_num t v _ w.heap.size (h.below hb0) (hg.below hb0) (heap_alloc_new w _)
  obtain ⟨d, x, rfl⟩ := h.iface
  clear h hg
  go_enter Tryd.func13, Tryd.ntmps13
  go_wp2_with fail
  refine c0.mono ?_; rintro e w1 ⟨rfl, hk, hp⟩
  have hc : w1.cell? ⟨w.heap.size, 0, none⟩ = some (.int .i64 (codeOf t)) := by rw [cell_of_row w1 _ _ _ _ _ hp]; rfl
  have hb1 : Below w.heap.size w w1 := hb0.trans (hk.below (by simp) (by simp))
  clear hp hk c0 hb0
  go_wp2_with fail
  go_ret
  exact ⟨rfl, hb1⟩
theorem freport_nil (w : World) : Calls Tryd.prog 10 #[.nilIface] w fun e w' => e = .returned (.tuple #[.slice none 0 0, .bool false]) ∧ Below w.heap.size w w' := by
  go_enter Tryd.func10, Tryd.ntmps10
  go_wp2_with fail
  refine (eAs_nil _ _).mono ?_; rintro e w1 ⟨rfl, rfl⟩
  go_wp2_with fail
  go_ret2
  exact ⟨rfl, (Below.refl _ _).alloc (Nat.le_refl _) _⟩
def RepRes (w : World) (o : Option (List Id32)) (e : Ending) (w' : World) : Prop :=
  Below w.heap.size w w' ∧ match o with
  | none => e = .returned (.tuple #[.slice none 0 0, .bool false])
  | some R => ∃ A n cap, e = .returned (.tuple #[.slice A n cap, .bool true]) ∧ Own w' w.heap.size 24 32 A n cap (R.map idC) ∧ 0 < n
theorem freport (t : ErrT) (v : Value) (w : World) (h : ErrAt w t v) (hg : ErrVar w) (hn : ∀ R, repOf t = some R → R.length ≤ 1000000000000) : Calls Tryd.prog 10 #[v] w (RepRes w (repOf t)) := by
  have hb0 : Below w.heap.size w (w.alloc (.cells #[.pointer none] 53)) := (Below.refl _ _).alloc (Nat.le_refl _) _
  have c0 := eAs_rep t v _ w.heap.size (h.below hb0) (hg.below hb0) (heap_alloc_new w _)
  clear h hg
  go_enter Tryd.func10, Tryd.ntmps10
  go_wp2_with fail
  refine c0.mono ?_; rintro e w1 h1
  unfold AsR at h1
  cases hr : repOf t with
  | none =>
    rw [hr] at h1
    obtain ⟨rfl, hb1⟩ := h1
    have Hr := Lib.hid hr
    clear hr c0 hn
    go_wp2_with fail
    go_ret2
    unfold RepRes
    rw [Hr.out]
    exact ⟨bel2 hb0 hb1, rfl⟩
  | some R =>
    rw [hr] at h1
    obtain ⟨rfl, hk, g, A, n, cap, hp, hgr, hs, hn0⟩ := h1
    have hb1 : Below w.heap.size w w1 := hb0.trans (hk.below (by simp) (by simp))
    have hc : w1.cell? ⟨w.heap.size, 0, none⟩ = some (.pointer (some ⟨g, 0, none⟩)) := by rw [cell_of_row w1 _ _ _ _ _ hp]; rfl
    have hc2 : w1.cell? ⟨g, 0, none⟩ = some (.slice A n cap) := by rw [cell_of_row w1 _ _ _ _ _ hgr]; rfl
    have hRn : R.length = n := by simpa using hs.1
    have hnb := hn R hr
    have c1 := clone_ids w1 A n cap R hs hn0 (by omega)
    have Hr := Lib.hid hr
    clear hr c0 hn hp hgr hs hk hRn hnb hb0
    go_wp2_with fail
    refine c1.mono ?_; rintro e w2 ⟨A', cap', rfl, hown, hb2⟩
    clear c1
    go_wp2_with fail
    go_ret2
    unfold RepRes
    rw [Hr.out]
    exact ⟨bel2 hb1 hb2, A', n, cap', rfl, hown.mono hb1.size, hn0⟩

end Go.Proofs.YtiihicmodohaeaaDoor
