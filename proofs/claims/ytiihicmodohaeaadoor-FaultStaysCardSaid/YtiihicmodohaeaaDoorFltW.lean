/- The reference's errors: Missing, Wrap, Join: the walks. -/
import Derived.Test.YtiihicmodohaeaaDoorFlt
namespace Go.Proofs.YtiihicmodohaeaaDoor
open Go.RowKit

@[go_sem ↓] theorem bsInt0_rw : Instr.buildSlice 36 0 #[] = bsS 36 0 #[] := rfl
@[go_sem ↓] theorem bsStr0_rw : Instr.buildSlice 35 0 #[] = bsS 35 0 #[] := rfl
@[go_sem ↓] theorem bsIds0_rw : Instr.buildSlice 37 0 #[] = bsS 37 0 #[] := rfl
@[go_sem] theorem bsInt0_run (w : World) : (bsS 36 0 #[]).run Tryd.prog w = .ok (.slice (some ⟨w.heap.size, 0, none⟩) 0 0) (w.alloc (.cells #[] 3)) := run_bsS0 einfoInt w
@[go_sem] theorem bsStr0_run (w : World) : (bsS 35 0 #[]).run Tryd.prog w = .ok (.slice (some ⟨w.heap.size, 0, none⟩) 0 0) (w.alloc (.cells #[] 9)) := run_bsS0 einfoStr w
@[go_sem] theorem bsIds0_run (w : World) : (bsS 37 0 #[]).run Tryd.prog w = .ok (.slice (some ⟨w.heap.size, 0, none⟩) 0 0) (w.alloc (.cells #[] 22)) := run_bsS0 einfoIds w
theorem flt_box {W : World} {g : Nat} {a b c : Value} (h : rowAt W g 0 3 = some (fltC ⟨a, b, c⟩)) : W.cell? ⟨g, 0, none⟩ = some a ∧ W.cell? ⟨g, 1, none⟩ = some b ∧ W.cell? ⟨g, 2, none⟩ = some c := by
  refine ⟨?_, ?_, ?_⟩
  · have := rowAt_cell h (j := 0) (by omega); rwa [fltC_g0] at this
  · have := rowAt_cell h (j := 1) (by omega); rwa [fltC_g1] at this
  · have := rowAt_cell h (j := 2) (by omega); rwa [fltC_g2] at this
theorem Own.apart {w : World} {B B' : Nat} {E E' : TypeId} {k k' n n' cap cap' : Nat} {A A' : Option Addr} {L L' : List (Array Value)} (h : Own w B E k A n cap L) (h' : Own w B' E' k' A' n' cap' L') (hE : E ≠ E') : ∀ x ∈ blk A, x ∉ blk A' := by
  intro x hx hx'
  rcases h.row.2 with ⟨h1, _⟩ | ⟨g, c, cur, hv, _, hg, _⟩
  · injection h1 with h1; subst h1; simp [blk] at hx
  · injection hv with hv; subst hv
    rcases h'.row.2 with ⟨h1, _⟩ | ⟨g', c', cur', hv', _, hg', _⟩
    · injection h1 with h1; subst h1; simp [blk] at hx'
    · injection hv' with hv'; subst hv'
      simp [blk] at hx hx'
      subst hx; subst hx'
      rw [hg] at hg'
      injection hg' with e; injection e with _ e2
      exact hE e2

theorem rmissing_nil (S : List Nat) (A : Option Addr) (cap : Nat) (w : World) : Calls Tryd.prog 23 #[.slice A 0 cap] w (FltRes S w [] [] []) := by
  have hb : Below w.heap.size w (w.alloc (.cells (fltC flt0) 39)) := (Below.refl _ _).alloc (Nat.le_refl _) _
  have hst := store0_run w
  go_enter Tryd.func23, Tryd.ntmps23
  go_wp2_with fail
  exact bodyPost_ret (results_cell_row Tryd.results23 _ _ w.heap.size 39 (fltC flt0) (0, 0) _ rfl (heap_alloc_new w _) Tryd.underlying39 rfl (by rw [fltC_size]; exact infoFlt)) rfl ⟨_, rfl, FltAt.zero _ _, hb⟩
set_option maxRecDepth 100000 in
set_option maxHeartbeats 1000000 in
theorem rmissing_some (S : List Nat) (w : World) (A : Option Addr) (n cap : Nat) (R : List Id32) (h : IdsIn w A n R) (hn : 0 < n) (hb : n ≤ 1000000) (hS : ∀ x ∈ S, x < w.heap.size) :
    Calls Tryd.prog 23 #[.slice A n cap] w (FltRes S w [16] [] [R]) := by
  obtain ⟨g, o, rfl, _⟩ := h.2 hn
  have hz : ((n : Int) == 0) = false := by simp; omega
  have hb1 : Below w.heap.size w (w.alloc (.cells (fltC flt0) 39)) := (Below.refl _ _).alloc (Nat.le_refl _) _
  have hg1 := heap_alloc_new w (.cells (fltC flt0) 39)
  have hs1 := SlR.below h hb1
  go_enter Tryd.func23, Tryd.ntmps23
  go_upto_region 3 with fail
  obtain ⟨B, hB⟩ : ∃ B, w.heap.size = B := ⟨_, rfl⟩
  have hB1 : B < (w.alloc (.cells (fltC flt0) 39)).heap.size := by simp; omega
  have HB := Lib.hid hB
  rw [hB] at hg1 ⊢
  clear h hB
  generalize w.alloc (.cells (fltC flt0) 39) = W1 at *
  have hown0 := Own.empty W1 W1.heap.size 24 32 (Nat.le_refl _)
  have hbe : Below W1.heap.size W1 (W1.alloc (.cells #[] 24)) := (Below.refl _ _).alloc (Nat.le_refl _) _
  have hs2 := SlR.below hs1 hbe
  go_upto_region 4 with (at_builtin; refine L_appends einfoId rfl hown0 rfl hs2 (by simp) ids_one (by omega) (by omega) (by simp) ?_; intro A2 cap2 w2 hown2 hk2 hsub2)
  rw [Nat.zero_add, List.nil_append] at hown2
  have hb2 : Below W1.heap.size W1 w2 := hbe.trans (hk2.below (by simp) (fun x hx => (hown0.at_base hx).1))
  have hg2 := (hb2.block B hB1).trans hg1
  have hbw2 : Below w.heap.size w w2 := bel2 hb1 hb2
  have hv2 : VIn (B :: S) w2 (.slice A2 n cap2) 32 (R.map idC) := VIn.own hown2 (fun x hx => by rcases List.mem_cons.1 hx with e | hx; omega; have := hS x hx; have := hb1.size; omega)
  have hB2 : B < w2.heap.size := by have := hb2.size; omega
  have hSw : ∀ x ∈ B :: S, x < w2.heap.size := fun x hx => by rcases List.mem_cons.1 hx with e | hx; omega; have := hS x hx; have := hbw2.size; omega
  clear hown0 hown2 hk2 hsub2 hs1 hs2 hbe hb2 hg1 hb1
  have hba : Below w2.heap.size w2 (w2.alloc (.cells #[.int .i64 16] 3)) := (Below.refl _ _).alloc (Nat.le_refl _) _
  have hbb : Below w2.heap.size w2 ((w2.alloc (.cells #[.int .i64 16] 3)).alloc (.cells #[.slice A2 n cap2] 22)) := hba.alloc (by simp) _
  have hg3 := (hbb.block B hB2).trans hg2
  have hbw3 := bel2 hbw2 hbb
  have ho1 : Own (w2.alloc (.cells #[.int .i64 16] 3)) w2.heap.size 3 1 (some ⟨w2.heap.size, 0, none⟩) 1 1 [intR 16] := Own.single w2 w2.heap.size 3 (intR 16) (Nat.le_refl _)
  have ho2 : Own ((w2.alloc (.cells #[.int .i64 16] 3)).alloc (.cells #[.slice A2 n cap2] 22)) w2.heap.size 22 1 (some ⟨w2.heap.size + 1, 0, none⟩) 1 1 [#[.slice A2 n cap2]] := by
    have := Own.single (w2.alloc (.cells #[.int .i64 16] 3)) w2.heap.size 22 #[.slice A2 n cap2] (by simp)
    rw [show (w2.alloc (.cells #[.int .i64 16] 3)).heap.size = w2.heap.size + 1 by simp] at this
    exact this
  have ho1' := ho1.kept (Keep.alloc _ (.cells #[.slice A2 n cap2] 22)) (by simp)
  have hF : FltAt (B :: S) ((w2.alloc (.cells #[.int .i64 16] 3)).alloc (.cells #[.slice A2 n cap2] 22)) [16] [] [R] ⟨.slice (some ⟨w2.heap.size, 0, none⟩) 1 1, .slice none 0 0, .slice (some ⟨w2.heap.size + 1, 0, none⟩) 1 1⟩ :=
    ⟨VIn.own (L := [intR 16]) ho1' hSw, VIn.nil _ _ _, [.slice A2 n cap2], VIn.own (L := [#[.slice A2 n cap2]]) ho2 hSw, hv2.below hbb, trivial⟩
  obtain ⟨W', hst, hfin, hF', hb3⟩ := fill_last hg3 (by have := HB.out; omega) hbw3 hF
  have hbd := buildFlt_0_2 (.slice (some ⟨w2.heap.size, 0, none⟩) 1 1) (.slice (some ⟨w2.heap.size + 1, 0, none⟩) 1 1) rfl rfl
  have Hfin := Lib.hid hfin; have HF := Lib.hid hF'; have Hb3 := Lib.hid hb3
  clear hfin hF hF' hb3 ho1 ho2 ho1' hba hbb hg3 hbw3 hg2 hbw2 hv2
  go_wp2_with fail
  exact bodyPost_ret (results_cell_row Tryd.results23 _ _ B 39 _ (0, 0) _ rfl Hfin.out Tryd.underlying39 rfl (by rw [fltC_size]; exact infoFlt)) rfl ⟨_, rfl, HF.out, Hb3.out⟩

set_option maxRecDepth 100000 in
set_option maxHeartbeats 1000000 in
theorem rwrap_nil (S : List Nat) (op : ByteArray) (x : Flt) (ops : List ByteArray) (reps : List (List Id32)) (w : World) (h : FltAt S w [] ops reps x) (hS : ∀ x ∈ S, x < w.heap.size) :
    Calls Tryd.prog 24 #[.string op, .agg (fltC x)] w (FltRes S w [] ops reps) := by
  obtain ⟨xn, xo, xr⟩ := x
  obtain ⟨A1, c1, e1, _, _, _⟩ := h.n
  simp only [List.map_nil, List.length_nil] at e1
  subst e1
  have hb1 : Below w.heap.size w (w.alloc (.cells (fltC ⟨.slice A1 0 c1, xo, xr⟩) 39)) := (Below.refl _ _).alloc (Nat.le_refl _) _
  have hb2 : Below w.heap.size w ((w.alloc (.cells (fltC ⟨.slice A1 0 c1, xo, xr⟩) 39)).alloc (.cells (fltC flt0) 39)) := hb1.alloc (by simp) _
  have hF := (h.re (S' := (w.heap.size + 1) :: S) (fun x hx => by
    rcases List.mem_cons.1 hx with e | hx
    · right; omega
    · exact .inl hx)).below hb2
  have hg : ((w.alloc (.cells (fltC ⟨.slice A1 0 c1, xo, xr⟩) 39)).alloc (.cells (fltC flt0) 39)).heap[w.heap.size + 1]? = some (.cells (fltC flt0) 39 (0, 0)) := by
    have := heap_alloc_new (w.alloc (.cells (fltC ⟨.slice A1 0 c1, xo, xr⟩) 39)) (.cells (fltC flt0) 39)
    rwa [show (w.alloc (.cells (fltC ⟨.slice A1 0 c1, xo, xr⟩) 39)).heap.size = w.heap.size + 1 by simp] at this
  obtain ⟨W', hst, hfin, hF', hb3⟩ := fill_last hg (by omega) hb2 hF
  have Hfin := Lib.hid hfin; have HF := Lib.hid hF'; have Hb3 := Lib.hid hb3
  clear hfin hF hF' hb3 hg hb1 hb2 h
  go_enter Tryd.func24, Tryd.ntmps24
  go_wp2_with fail
  exact bodyPost_ret (results_cell_row Tryd.results24 _ _ (w.heap.size + 1) 39 _ (0, 0) _ rfl Hfin.out Tryd.underlying39 rfl (by rw [fltC_size]; exact infoFlt)) rfl ⟨_, rfl, HF.out, Hb3.out⟩

set_option maxRecDepth 100000 in
set_option maxHeartbeats 2000000 in
theorem rwrap_some (S : List Nat) (op : ByteArray) (x : Flt) (nums : List Int) (hn : nums ≠ []) (ops : List ByteArray) (reps : List (List Id32)) (w : World) (h : FltAt S w nums ops reps x) (hS : ∀ x ∈ S, x < w.heap.size) (hl : ops.length ≤ 4294967296) (hl1 : nums.length ≤ 4294967296) :
    Calls Tryd.prog 24 #[.string op, .agg (fltC x)] w (FltRes S w nums (op :: ops) reps) := by
  obtain ⟨xn, xo, xr⟩ := x
  obtain ⟨A1, c1, e1, _, _, _⟩ := h.n
  obtain ⟨A2, c2, e2, hs2, hnil2, _⟩ := h.o
  obtain ⟨us, ⟨A3, c3, e3, _, _, _⟩, hus⟩ := h.r
  simp only [List.length_map] at e1 e2 e3 hs2
  subst e1; subst e2; subst e3
  have hnl : 0 < nums.length := List.length_pos_iff.2 hn
  have hz : ((nums.length : Int) == 0) = false := by simp; omega
  have hul := hus.len
  obtain ⟨N1, hN1⟩ : ∃ N1, nums.length = N1 := ⟨_, rfl⟩
  obtain ⟨N2, hN2⟩ : ∃ N2, ops.length = N2 := ⟨_, rfl⟩
  obtain ⟨N3, hN3⟩ : ∃ N3, us.length = N3 := ⟨_, rfl⟩
  rw [hN1, hN2, hN3] at h
  rw [hN2] at hs2 hl
  rw [hN1] at hl1 hz hnl
  rw [hN1, hN2, hN3]
  have HN2 := Lib.hid hN2
  clear hN1 hN2 hN3 hul hus
  obtain ⟨x, hx⟩ : ∃ x : Flt, x = ⟨.slice A1 N1 c1, .slice A2 N2 c2, .slice A3 N3 c3⟩ := ⟨_, rfl⟩
  have hb1 : Below w.heap.size w (w.alloc (.cells (fltC ⟨.slice A1 N1 c1, .slice A2 N2 c2, .slice A3 N3 c3⟩) 39)) := (Below.refl _ _).alloc (Nat.le_refl _) _
  have hb2 : Below w.heap.size w ((w.alloc (.cells (fltC ⟨.slice A1 N1 c1, .slice A2 N2 c2, .slice A3 N3 c3⟩) 39)).alloc (.cells (fltC flt0) 39)) := hb1.alloc (by simp) _
  have hbox : rowAt ((w.alloc (.cells (fltC ⟨.slice A1 N1 c1, .slice A2 N2 c2, .slice A3 N3 c3⟩) 39)).alloc (.cells (fltC flt0) 39)) w.heap.size 0 3 = some (fltC ⟨.slice A1 N1 c1, .slice A2 N2 c2, .slice A3 N3 c3⟩) := by simp [go_sem]
  have hg : ((w.alloc (.cells (fltC ⟨.slice A1 N1 c1, .slice A2 N2 c2, .slice A3 N3 c3⟩) 39)).alloc (.cells (fltC flt0) 39)).heap[w.heap.size + 1]? = some (.cells (fltC flt0) 39 (0, 0)) := by
    have := heap_alloc_new (w.alloc (.cells (fltC ⟨.slice A1 N1 c1, .slice A2 N2 c2, .slice A3 N3 c3⟩) 39)) (.cells (fltC flt0) 39)
    rwa [show (w.alloc (.cells (fltC ⟨.slice A1 N1 c1, .slice A2 N2 c2, .slice A3 N3 c3⟩) 39)).heap.size = w.heap.size + 1 by simp] at this
  have hF := (h.re (S' := (w.heap.size + 1) :: S) (fun x hx => by
    rcases List.mem_cons.1 hx with e | hx
    · right; omega
    · exact .inl hx)).below hb2
  have hs3 := SlR.below hs2 hb2
  have hSw : ∀ y ∈ (w.heap.size + 1) :: S, y < ((w.alloc (.cells (fltC ⟨.slice A1 N1 c1, .slice A2 N2 c2, .slice A3 N3 c3⟩) 39)).alloc (.cells (fltC flt0) 39)).heap.size := fun y hy => by
    rcases List.mem_cons.1 hy with e | hy
    · simp; omega
    · have := hS y hy; simp; omega
  clear h hs2 hb1 hx
  go_enter Tryd.func24, Tryd.ntmps24
  go_upto_region 3 with fail
  obtain ⟨B0, hB0⟩ : ∃ B0, w.heap.size = B0 := ⟨_, rfl⟩
  have HB0 := Lib.hid hB0
  rw [hB0] at hbox hg hF hSw ⊢
  clear hB0
  generalize (w.alloc (.cells (fltC ⟨.slice A1 N1 c1, .slice A2 N2 c2, .slice A3 N3 c3⟩) 39)).alloc (.cells (fltC flt0) 39) = W at *
  obtain ⟨y0, y1, y2⟩ := flt_box hbox
  have hba : Below W.heap.size W (W.alloc (.cells #[.string op] 9)) := (Below.refl _ _).alloc (Nat.le_refl _) _
  have ho : Own (W.alloc (.cells #[.string op] 9)) W.heap.size 9 1 (some ⟨W.heap.size, 0, none⟩) 1 1 [strR op] := Own.single W W.heap.size 9 (strR op) (Nat.le_refl _)
  have hs4 := SlR.below hs3 hba
  have hr0 := rowAt_lt hbox
  go_upto_region 4 with (at_builtin; refine L_appends einfoStr rfl ho rfl hs4 hnil2 strs_one (by omega) (by omega) (by simp) ?_; intro A5 cap5 w5 hown5 hk5 hsub5)
  have hb5 : Below W.heap.size W w5 := hba.trans (hk5.below (by simp) (fun x hx => (ho.at_base hx).1))
  have hbw5 : Below w.heap.size w w5 := bel2 hb2 hb5
  have hbox5 := (rowAt_of_block (hb5.block B0 hr0) 0 3).trans hbox
  obtain ⟨z0, z1, z2⟩ := flt_box hbox5
  have hg5 := (hb5.block (B0 + 1) (heap_lt hg)).trans hg
  have hF5 := hF.below hb5
  have hv5 : VIn ((B0 + 1) :: S) w5 (.slice A5 (1 + N2) cap5) 1 ((op :: ops).map strR) := VIn.own hown5 hSw
  have hF6 : FltAt ((B0 + 1) :: S) w5 nums (op :: ops) reps ⟨.slice A1 N1 c1, .slice A5 (1 + N2) cap5, .slice A3 N3 c3⟩ := ⟨hF5.n, hv5, hF5.r⟩
  obtain ⟨W', hst, hfin, hF', hb6⟩ := fill_last hg5 (by have := HB0.out; omega) hbw5 hF6
  have hbd := buildFlt (.slice A1 N1 c1) (.slice A5 (1 + N2) cap5) (.slice A3 N3 c3) rfl rfl rfl
  have Hfin := Lib.hid hfin; have HF := Lib.hid hF'; have Hb3 := Lib.hid hb6
  clear hfin hF hF' hb6 hF5 hF6 hv5 hg5 hbox5 hbw5 hb5 hown5 hk5 hsub5 ho hba hs3 hs4 y0 y1 y2 hbox hg hb2
  go_wp2_with fail
  exact bodyPost_ret (results_cell_row Tryd.results24 _ _ (B0 + 1) 39 _ (0, 0) _ rfl Hfin.out Tryd.underlying39 rfl (by rw [fltC_size]; exact infoFlt)) rfl ⟨_, rfl, HF.out, Hb3.out⟩

/-- A slice's parts, at a world later. -/
theorem VIn.parts {S : List Nat} {w : World} {v : Value} {k : Nat} {L : List (Array Value)} (h : VIn S w v k L) : ∃ A cap, v = .slice A L.length cap ∧ SlR w A L.length k L ∧ (A = none → cap = 0) := by
  obtain ⟨A, c, e, hs, hn, _⟩ := h; exact ⟨A, c, e, hs, hn⟩

set_option maxRecDepth 100000 in
set_option maxHeartbeats 4000000 in
theorem rjoin (S : List Nat) (x y : Flt) (n1 n2 : List Int) (o1 o2 : List ByteArray) (r1 r2 : List (List Id32)) (w : World) (h1 : FltAt S w n1 o1 r1 x) (h2 : FltAt S w n2 o2 r2 y) (hS : ∀ x ∈ S, x < w.heap.size)
    (hl : n1.length ≤ 4294967296 ∧ n2.length ≤ 4294967296 ∧ o1.length ≤ 4294967296 ∧ o2.length ≤ 4294967296 ∧ r1.length ≤ 4294967296 ∧ r2.length ≤ 4294967296) :
    Calls Tryd.prog 25 #[.agg (fltC x), .agg (fltC y)] w (FltRes S w (n1 ++ n2) (o1 ++ o2) (r1 ++ r2)) := by
  obtain ⟨xn, xo, xr⟩ := x
  obtain ⟨yn, yo, yr⟩ := y
  obtain ⟨l1, l2, l3, l4, l5, l6⟩ := hl
  obtain ⟨A1, c1, e1, s1, q1⟩ := h1.n.parts
  obtain ⟨A2, c2, e2, s2, q2⟩ := h1.o.parts
  obtain ⟨us, hu1, hu⟩ := h1.r
  obtain ⟨A3, c3, e3, s3, q3⟩ := hu1.parts
  obtain ⟨D1, d1, f1, t1, p1⟩ := h2.n.parts
  obtain ⟨D2, d2, f2, t2, p2⟩ := h2.o.parts
  obtain ⟨vs, hv1, hv⟩ := h2.r
  obtain ⟨D3, d3, f3, t3, p3⟩ := hv1.parts
  have lu := hu.len; have lv := hv.len
  simp only [List.length_map] at e1 e2 e3 f1 f2 f3 s1 s2 s3 t1 t2 t3
  subst e1; subst e2; subst e3; subst f1; subst f2; subst f3
  obtain ⟨N1, hN1⟩ : ∃ N, n1.length = N := ⟨_, rfl⟩
  obtain ⟨N2, hN2⟩ : ∃ N, o1.length = N := ⟨_, rfl⟩
  obtain ⟨N3, hN3⟩ : ∃ N, us.length = N := ⟨_, rfl⟩
  obtain ⟨M1, hM1⟩ : ∃ N, n2.length = N := ⟨_, rfl⟩
  obtain ⟨M2, hM2⟩ : ∃ N, o2.length = N := ⟨_, rfl⟩
  obtain ⟨M3, hM3⟩ : ∃ N, vs.length = N := ⟨_, rfl⟩
  rw [hN1] at s1 l1; rw [hN2] at s2 l3; rw [hN3] at s3; rw [hM1] at t1 l2; rw [hM2] at t2 l4; rw [hM3] at t3
  have l7 : N3 ≤ 4294967296 := by omega
  have l8 : M3 ≤ 4294967296 := by omega
  rw [hN1, hN2, hN3, hM1, hM2, hM3]
  clear hN1 hN2 hN3 hM1 hM2 hM3 h1 h2 hu1 hv1 lu lv l5 l6
  have hW0 : ∃ W, W = ((w.alloc (.cells (fltC ⟨.slice A1 N1 c1, .slice A2 N2 c2, .slice A3 N3 c3⟩) 39)).alloc (.cells (fltC ⟨.slice D1 M1 d1, .slice D2 M2 d2, .slice D3 M3 d3⟩) 39)).alloc (.cells (fltC flt0) 39) := ⟨_, rfl⟩
  obtain ⟨W, hW⟩ := hW0
  have hbW : Below w.heap.size w W := by rw [hW]; exact (((Below.refl _ _).alloc (Nat.le_refl _) _).alloc (by simp) _).alloc (by simp; omega) _
  have hszW : W.heap.size = w.heap.size + 3 := by rw [hW]; simp
  have hbx0 : rowAt W w.heap.size 0 3 = some (fltC ⟨.slice A1 N1 c1, .slice A2 N2 c2, .slice A3 N3 c3⟩) := by rw [hW]; first | (simp [go_sem]; done) | (simp [go_sem]; intro h; omega)
  have hbx1 : rowAt W (w.heap.size + 1) 0 3 = some (fltC ⟨.slice D1 M1 d1, .slice D2 M2 d2, .slice D3 M3 d3⟩) := by rw [hW]; simp [go_sem]
  have hg : W.heap[w.heap.size + 2]? = some (.cells (fltC flt0) 39 (0, 0)) := by
    rw [hW]
    have := heap_alloc_new ((w.alloc (.cells (fltC ⟨.slice A1 N1 c1, .slice A2 N2 c2, .slice A3 N3 c3⟩) 39)).alloc (.cells (fltC ⟨.slice D1 M1 d1, .slice D2 M2 d2, .slice D3 M3 d3⟩) 39)) (.cells (fltC flt0) 39)
    rwa [show ((w.alloc (.cells (fltC ⟨.slice A1 N1 c1, .slice A2 N2 c2, .slice A3 N3 c3⟩) 39)).alloc (.cells (fltC ⟨.slice D1 M1 d1, .slice D2 M2 d2, .slice D3 M3 d3⟩) 39)).heap.size = w.heap.size + 2 by simp] at this
  have hHW := Lib.hid hW
  clear hW
  go_enter Tryd.func25, Tryd.ntmps25
  go_upto_region 1 with fail
  rw [← hHW.out]
  clear hHW
  obtain ⟨B0, hB0⟩ : ∃ B0, w.heap.size = B0 := ⟨_, rfl⟩
  have HB0 := Lib.hid hB0
  rw [hB0] at hbx0 hbx1 hg hszW ⊢
  have hBW : B0 + 2 < W.heap.size := by omega
  have hSw : ∀ y ∈ (B0 + 2) :: S, y < W.heap.size := fun z hz => by
    rcases List.mem_cons.1 hz with e | hz
    · omega
    · have := hS z hz; omega
  clear hB0 hszW
  have hr0 := rowAt_lt hbx0
  have hr1 := rowAt_lt hbx1
  have z1 := SlR.below s1 hbW; have z2 := SlR.below s2 hbW; have z3 := SlR.below s3 hbW
  have x1 := SlR.below t1 hbW; have x2 := SlR.below t2 hbW; have x3 := SlR.below t3 hbW
  clear s1 s2 s3 t1 t2 t3
  obtain ⟨y0, y1, y2⟩ := flt_box hbx0
  have hltb := rowAt_lt hbx0
  have hbe := (Below.refl W.heap.size W).alloc (Nat.le_refl _) (.cells #[] 3)
  have ho := Own.empty W W.heap.size 3 1 (Nat.le_refl _)
  have hsr := SlR.below z1 hbe
  go_upto_region 2 with (at_builtin; refine L_appends einfoInt rfl ho rfl hsr q1 ints_one (by omega) (by omega) (by simp) ?_; intro A1' cap1 w1 hown1 hk hsub)
  have hbs : Below W.heap.size W w1 := hbe.trans (hk.below (by simp) (fun x hx => (ho.at_base hx).1))
  rw [Nat.zero_add, List.nil_append] at hown1
  clear hbe ho hsr hk hsub y0 y1 y2 hltb
  have hb1 : Below W.heap.size W w1 := hbs
  have hbB : W.heap.size ≤ w1.heap.size := hb1.size
  have bx1 := (rowAt_of_block (hb1.block (B0 + 1) hr1) 0 3).trans hbx1
  clear hbs
  obtain ⟨y0, y1, y2⟩ := flt_box bx1
  have hltb := rowAt_lt bx1
  have hsr := SlR.below x1 hb1
  go_upto_region 3 with (at_builtin; refine L_appends einfoInt rfl hown1 rfl hsr p1 ints_one (by omega) (by omega) hbB ?_; intro A2' cap2 w2 hown2 hk hsub)
  clear hsr hsub y0 y1 y2 hltb
  have hb2 : Below W.heap.size W w2 := hb1.trans (hk.below hb1.size (fun x hx => (hown1.at_base hx).1))
  have bx2 := (rowAt_of_block (hb2.block B0 hr0) 0 3).trans hbx0
  clear hk hown1 hbB bx1 hb1
  obtain ⟨y0, y1, y2⟩ := flt_box bx2
  have hltb := rowAt_lt bx2
  have hbe := (Below.refl w2.heap.size w2).alloc (Nat.le_refl _) (.cells #[] 9)
  have ho := Own.empty w2 w2.heap.size 9 1 (Nat.le_refl _)
  have hsr := SlR.below (SlR.below z2 hb2) hbe
  go_upto_region 4 with (at_builtin; refine L_appends einfoStr rfl ho rfl hsr q2 strs_one (by omega) (by omega) (by simp) ?_; intro A3' cap3 w3 hown3 hk hsub)
  have hbs : Below w2.heap.size w2 w3 := hbe.trans (hk.below (by simp) (fun x hx => (ho.at_base hx).1))
  rw [Nat.zero_add, List.nil_append] at hown3
  clear hbe ho hsr hk hsub y0 y1 y2 hltb
  have hb3 : Below W.heap.size W w3 := bel2 hb2 hbs
  have hown2' := hown2.below hbs
  have hbB : w2.heap.size ≤ w3.heap.size := hbs.size
  have hge2 := hb2.size
  have bx3 := (rowAt_of_block (hb3.block (B0 + 1) hr1) 0 3).trans hbx1
  clear hbs hown2 bx2
  obtain ⟨y0, y1, y2⟩ := flt_box bx3
  have hltb := rowAt_lt bx3
  have hsr := SlR.below x2 hb3
  go_upto_region 5 with (at_builtin; refine L_appends einfoStr rfl hown3 rfl hsr p2 strs_one (by omega) (by omega) hbB ?_; intro A4' cap4 w4 hown4 hk hsub)
  clear hsr hsub y0 y1 y2 hltb
  have hb4 : Below W.heap.size W w4 := hb3.trans (hk.below hb3.size (fun x hx => Nat.le_trans hge2 (hown3.at_base hx).1))
  have hown2'' := hown2'.kept hk (Own.apart hown2' hown3 (by decide))
  have bx4 := (rowAt_of_block (hb4.block B0 hr0) 0 3).trans hbx0
  clear hk hown3 hown2' hbB bx3 hb3 hb2
  obtain ⟨y0, y1, y2⟩ := flt_box bx4
  have hltb := rowAt_lt bx4
  have hbe := (Below.refl w4.heap.size w4).alloc (Nat.le_refl _) (.cells #[] 22)
  have ho := Own.empty w4 w4.heap.size 22 1 (Nat.le_refl _)
  have hsr := SlR.below (SlR.below z3 hb4) hbe
  go_upto_region 6 with (at_builtin; refine L_appends einfoIds rfl ho rfl hsr q3 hu.one (by omega) (by omega) (by simp) ?_; intro A5' cap5 w5 hown5 hk hsub)
  have hbs : Below w4.heap.size w4 w5 := hbe.trans (hk.below (by simp) (fun x hx => (ho.at_base hx).1))
  rw [Nat.zero_add, List.nil_append] at hown5
  clear hbe ho hsr hk hsub y0 y1 y2 hltb
  have hb5 : Below W.heap.size W w5 := bel2 hb4 hbs
  have hownN := hown2''.below hbs
  have hownS := hown4.below hbs
  have hbB : w4.heap.size ≤ w5.heap.size := hbs.size
  have hge4 := hb4.size
  have bx5 := (rowAt_of_block (hb5.block (B0 + 1) hr1) 0 3).trans hbx1
  clear hbs hown2'' hown4 bx4
  obtain ⟨y0, y1, y2⟩ := flt_box bx5
  have hltb := rowAt_lt bx5
  have hsr := SlR.below x3 hb5
  go_upto_region 7 with (at_builtin; refine L_appends einfoIds rfl hown5 rfl hsr p3 hv.one (by omega) (by omega) hbB ?_; intro A6' cap6 w6 hown6 hk hsub)
  clear hsr hsub y0 y1 y2 hltb
  have hb6 : Below W.heap.size W w6 := hb5.trans (hk.below hb5.size (fun x hx => Nat.le_trans hge4 (hown5.at_base hx).1))
  have hownN' := hownN.kept hk (Own.apart hownN hown5 (by decide))
  have hownS' := hownS.kept hk (Own.apart hownS hown5 (by decide))
  have hbw6 : Below w.heap.size w w6 := bel2 hbW hb6
  have hg6 := (hb6.block (B0 + 2) hBW).trans hg
  have hua := AllIn.app hu hv
  have hF : FltAt ((B0 + 2) :: S) w6 (n1 ++ n2) (o1 ++ o2) (r1 ++ r2) ⟨.slice A2' (N1 + M1) cap2, .slice A4' (N2 + M2) cap4, .slice A6' (N3 + M3) cap6⟩ := by
    have a1 : ∀ x ∈ (B0 + 2) :: S, x < W.heap.size := hSw
    refine ⟨?_, ?_, us ++ vs, ?_, ?_⟩
    · rw [List.map_append]; exact VIn.own hownN' a1
    · rw [List.map_append]; exact VIn.own hownS' (fun x hx => Nat.lt_of_lt_of_le (a1 x hx) hge2)
    · rw [List.map_append]; exact VIn.own hown6 (fun x hx => Nat.lt_of_lt_of_le (a1 x hx) hge4)
    · exact hua.map fun v L h => (h.re (S' := (B0 + 2) :: S) (fun x hx => by
        rcases List.mem_cons.1 hx with e | hx
        · right; have := HB0.out; omega
        · exact .inl hx)).below hbw6
  obtain ⟨W', hst, hfin, hF', hb7⟩ := fill_last hg6 (by have := HB0.out; omega) hbw6 hF
  have hbd := buildFlt (.slice A2' (N1 + M1) cap2) (.slice A4' (N2 + M2) cap4) (.slice A6' (N3 + M3) cap6) rfl rfl rfl
  have Hfin := Lib.hid hfin; have HF := Lib.hid hF'; have Hb3 := Lib.hid hb7
  clear hfin hF hF' hb7 hg6 hbw6 hownN hownS hownN' hownS' hown5 hown6 hk bx5 hb6 hb5 hb4 hua hu hv
  go_wp2_with fail
  exact bodyPost_ret (results_cell_row Tryd.results25 _ _ (B0 + 2) 39 _ (0, 0) _ rfl Hfin.out Tryd.underlying39 rfl (by rw [fltC_size]; exact infoFlt)) rfl ⟨_, rfl, HF.out, Hb3.out⟩

set_option maxRecDepth 100000 in
theorem ris_zero (S : List Nat) (x : Flt) (nums : List Int) (ops : List ByteArray) (reps : List (List Id32)) (w : World) (h : FltAt S w nums ops reps x) :
    Calls Tryd.prog 17 #[.agg (fltC x), .int .i64 0] w fun e w' => e = .returned (.bool (decide (nums = []))) ∧ Below w.heap.size w w' := by
  obtain ⟨xn, xo, xr⟩ := x
  obtain ⟨A1, c1, e1, _, _⟩ := h.n.parts
  simp only [List.length_map] at e1
  subst e1
  have hz : decide (nums = []) = ((nums.length : Int) == 0) := by
    cases nums with
    | nil => rfl
    | cons a l =>
      have : ((((a :: l).length : Nat) : Int) == 0) = false := by simp; omega
      rw [this]; simp
  have hb : Below w.heap.size w (w.alloc (.cells (fltC ⟨.slice A1 nums.length c1, xo, xr⟩) 39)) := (Below.refl _ _).alloc (Nat.le_refl _) _
  rw [hz]
  clear h hz
  go_enter Tryd.func17, Tryd.ntmps17
  go_wp2_with fail
  go_ret
  exact ⟨rfl, hb⟩
theorem any_take {nums : List Int} {e : Int} : ∀ (k : Nat) (hk : k < nums.length), (nums.take (k + 1)).any (· == e) = ((nums.take k).any (· == e) || (nums[k] == e)) := fun k hk => by
  rw [List.take_add_one, List.getElem?_eq_getElem hk, List.any_append]; simp
set_option maxRecDepth 100000 in
set_option maxHeartbeats 1000000 in
theorem ris_some (S : List Nat) (x : Flt) (nums : List Int) (ops : List ByteArray) (reps : List (List Id32)) (n : Int) (hn : n ≠ 0) (w : World) (h : FltAt S w nums ops reps x) (hl : nums.length ≤ 4294967296) :
    Calls Tryd.prog 17 #[.agg (fltC x), .int .i64 n] w fun e w' => e = .returned (.bool (nums.any (· == n))) ∧ Below w.heap.size w w' := by
  have hz : (n == 0) = false := by simpa using hn
  obtain ⟨xn, xo, xr⟩ := x
  obtain ⟨A1, c1, e1, hs1, _⟩ := h.n.parts
  simp only [List.length_map] at e1 hs1
  subst e1
  obtain ⟨N, hN⟩ : ∃ N, nums.length = N := ⟨_, rfl⟩
  rw [hN] at hs1 hl ⊢
  have HN := Lib.hid hN
  have hb : Below w.heap.size w (w.alloc (.cells (fltC ⟨.slice A1 N c1, xo, xr⟩) 39)) := (Below.refl _ _).alloc (Nat.le_refl _) _
  have hs2 := SlR.below hs1 hb
  have hbox : rowAt (w.alloc (.cells (fltC ⟨.slice A1 N c1, xo, xr⟩) 39)) w.heap.size 0 3 = some (fltC ⟨.slice A1 N c1, xo, xr⟩) := by simp [go_sem]
  clear h hN hs1
  go_enter Tryd.func17, Tryd.ntmps17
  go_wp2_with fail
  obtain ⟨B, hB⟩ : ∃ B, w.heap.size = B := ⟨_, rfl⟩
  have hBl := rowAt_lt hbox
  rw [hB] at hbox hBl ⊢
  clear hB
  generalize w.alloc (.cells (fltC ⟨.slice A1 N c1, xo, xr⟩) 39) = W at *
  obtain ⟨y0, y1, y2⟩ := flt_box hbox
  go_loop [5] (fun i => ∃ k : Nat, k ≤ N ∧ i = .int .i64 k ∧ Hid ((nums.take k).any (· == n) = false)) (fun i => N - (intOf i).toNat)
  case atStart => exact ⟨0, Nat.zero_le _, rfl, rfl⟩
  case round =>
    obtain ⟨k, hk, rfl, hno⟩ := hrel
    by_cases hlt : k < N
    · obtain ⟨q, o, rfl, hr⟩ := hs2.at_ hlt
      rw [List.getElem_map] at hr
      have hcell := rowAt_cell hr (j := 0) (by omega)
      have hat := any_take (e := n) k (by rw [HN.out]; exact hlt)
      obtain ⟨z, hzz⟩ : ∃ z, nums[k]'(by rw [HN.out]; exact hlt) = z := ⟨_, rfl⟩
      rw [hzz] at hcell hat
      simp only [intR, Nat.mul_one, Nat.add_zero] at hcell
      replace hcell : W.cell? ⟨q, o + k, none⟩ = some (.int .i64 z) := hcell
      rw [hno.out, Bool.false_or] at hat
      have Hat := Lib.hid hat
      clear hr hzz hat
      cases hc : (z == n) with
      | true =>
        have hall : nums.any (· == n) = true := by
          have h1 := Hat.out
          rw [hc] at h1
          rw [← List.take_append_drop (k + 1) nums, List.any_append, h1]; rfl
        have Hall := Lib.hid hall
        clear hall
        go_wp2_with fail
        go_ret
        exact ⟨ret_bool (by rw [Hall.out]), hb⟩
      | false =>
        rw [hc] at Hat
        go_wp2_with fail
        go_round
        case rel => exact ⟨k + 1, by omega, by go_num, Hat⟩
        case measure => simp [intOf]; omega
    · have hall : nums.any (· == n) = false := by
        have h1 := hno.out
        rwa [List.take_of_length_le (by rw [HN.out]; omega)] at h1
      have Hall := Lib.hid hall
      clear hall hno
      go_wp2_with fail
      go_ret
      exact ⟨ret_bool (by rw [Hall.out]), hb⟩

abbrev StrsIn (w : World) (A : Option Addr) (n : Nat) (R : List ByteArray) : Prop := SlR w A n 1 (R.map strR)
theorem strsIn_get {w : World} {A : Option Addr} {n : Nat} {R : List ByteArray} (h : StrsIn w A n R) {i : Nat} (hi : i < n) (hR : i < R.length) :
    ∃ g o, A = some ⟨g, o, none⟩ ∧ w.cell? ⟨g, o + i, none⟩ = some (.string R[i]) := by
  obtain ⟨g, o, e, hr⟩ := h.at_ hi
  rw [List.getElem_map] at hr
  have := rowAt_cell hr (j := 0) (by omega)
  simp only [Nat.mul_one, Nat.add_zero] at this
  exact ⟨g, o, e, this⟩
set_option maxHeartbeats 1000000 in
theorem rtexts (w : World) (A B : Option Addr) (n m cap cap' : Nat) (X Y : List ByteArray) (hx : StrsIn w A n X) (hy : StrsIn w B m Y) (hn : n ≤ 8589934592) (hm : m ≤ 8589934592) :
    Calls Tryd.prog 14 #[.slice A n cap, .slice B m cap'] w fun e w' => e = .returned (.bool (decide (X = Y))) ∧ Below w.heap.size w w' := by
  have hlx : X.length = n := by simpa using hx.1
  have hly : Y.length = m := by simpa using hy.1
  have Hlx := Lib.hid hlx; have Hly := Lib.hid hly
  by_cases hnm : n = m
  · subst hnm
    clear hlx hly
    go_enter Tryd.func14, Tryd.ntmps14
    go_wp2_with fail
    go_loopw [5] (fun i wr => ∃ k : Nat, k ≤ n ∧ i = .int .i64 k ∧ Hid (X.take k = Y.take k) ∧ Below w.heap.size w wr) (fun i _ => n - (intOf i).toNat)
    case atStart => exact ⟨0, Nat.zero_le _, rfl, rfl, Below.refl _ _⟩
    case round =>
      obtain ⟨k, hk, rfl, heq, hb⟩ := hrel
      by_cases hlt : k < n
      · obtain ⟨q, o, rfl, hr⟩ := strsIn_get (SlR.below hx hb) hlt (by rw [Hlx.out]; exact hlt)
        obtain ⟨q2, o2, rfl, hr2⟩ := strsIn_get (SlR.below hy hb) hlt (by rw [Hly.out]; exact hlt)
        have hX : X.take (k + 1) = X.take k ++ [X[k]'(by rw [Hlx.out]; exact hlt)] := by rw [List.take_add_one, List.getElem?_eq_getElem (by rw [Hlx.out]; exact hlt)]; rfl
        have hY : Y.take (k + 1) = Y.take k ++ [Y[k]'(by rw [Hly.out]; exact hlt)] := by rw [List.take_add_one, List.getElem?_eq_getElem (by rw [Hly.out]; exact hlt)]; rfl
        obtain ⟨x, hx'⟩ : ∃ x, X[k]'(by rw [Hlx.out]; exact hlt) = x := ⟨_, rfl⟩
        obtain ⟨y, hy'⟩ : ∃ y, Y[k]'(by rw [Hly.out]; exact hlt) = y := ⟨_, rfl⟩
        rw [hx'] at hr hX
        rw [hy'] at hr2 hY
        have HX := Lib.hid hX; have HY := Lib.hid hY
        clear hX hY
        have HX' := Lib.hid hx'; have HY' := Lib.hid hy'
        clear hx' hy'
        go_upto_region 6 with fail
        refine wp_region_lex (Bel wr) false (by kernel_rfl) (by kernel_rfl) (by kernel_rfl) (bel_drew wr) ?_
        have hne := bel_some wr
        have hS := bel_drew wr
        have b1 := sub_cell hr; have b2 := sub_cell hr2
        repeat (refine wpLx_loose ?_ ?_; (focus (simp only [chainOp]; done)); intro K hK; go_simp; refine hK _ ?_; clear hK K)
        refine wpLx_nil ?_
        intro hS
        clear hne hS b1 b2 hr hr2
        have hb' : Below w.heap.size w wr.drew := hb.drew
        cases hpe : (x.toList == y.toList) with
        | true =>
          have e : x = y := toList_inj.1 (by simpa using hpe)
          have E := Lib.hid e
          clear e
          go_wp2_with fail
          go_roundw
          case rel => exact ⟨k + 1, by omega, by go_num, (show X.take (k + 1) = Y.take (k + 1) by rw [HX.out, HY.out, heq.out, E.out]), hb'⟩
          case measure => simp [intOf]; omega
        | false =>
          have hne : X ≠ Y := by
            intro e
            subst e
            have : x = y := HX'.out.symm.trans HY'.out
            rw [this] at hpe
            simp at hpe
          have hd := Lib.hid (decide_eq_false hne)
          clear hne
          go_wp2_with fail
          go_ret
          exact ⟨ret_bool (by rw [hd.out]), hb'⟩
      · have hXY : X = Y := by
          have h1 := heq.out
          rw [List.take_of_length_le (by rw [Hlx.out]; omega), List.take_of_length_le (by rw [Hly.out]; omega)] at h1
          exact h1
        have hd := Lib.hid (decide_eq_true hXY)
        clear hXY heq
        go_wp2_with fail
        go_ret
        exact ⟨ret_bool (by rw [hd.out]), hb⟩
  · have hne : X ≠ Y := fun e => by rw [e] at hlx; omega
    have hd := Lib.hid (decide_eq_false hne)
    have hb : ((n : Int) != (m : Int)) = true := by simp; omega
    clear hne hlx hly
    go_enter Tryd.func14, Tryd.ntmps14
    go_wp2_with fail
    go_ret
    exact ⟨ret_bool (by rw [hd.out]), Below.refl _ _⟩

end Go.Proofs.YtiihicmodohaeaaDoor
