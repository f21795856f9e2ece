/- FaultTells: the walk. -/
import Derived.Test.YtiihicmodohaeaaDoorMadeX
import Derived.Deep.RegionHeld3
import Derived.Deep.DrawnRows
namespace Go.Proofs.YtiihicmodohaeaaDoor
open Go.RowKit Go.Extern.Stop Go.Stop Go.Extern

theorem rtexts_eq (w : World) (A B : Option Addr) (n m cap cap' : Nat) (X : List ByteArray) (hx : StrsIn w A n X) (hy : StrsIn w B m X) (hn : n ≤ 8589934592) (hm : m ≤ 8589934592) :
    Calls Tryd.prog 14 #[.slice A n cap, .slice B m cap'] w fun e w' => e = .returned (.bool true) ∧ Below w.heap.size w w' :=
  (rtexts w A B n m cap cap' X X hx hy hn hm).mono fun e w' ⟨he, hb⟩ => ⟨by rw [he, decide_eq_true rfl], hb⟩
theorem rsame_eq (w : World) (A B : Option Addr) (n m cap cap' : Nat) (X : List Id32) (hx : IdsIn w A n X) (hy : IdsIn w B m X) (hn : n ≤ 1000000) (hm : m ≤ 1000000) :
    Calls Tryd.prog 11 #[.slice A n cap, .slice B m cap'] w fun e w' => e = .returned (.bool true) ∧ Below w.heap.size w w' :=
  (rsame w A B n m cap cap' X X hx hy hn hm).mono fun e w' ⟨he, hb⟩ => ⟨by rw [he, decide_eq_true rfl], hb⟩

theorem nums_zero (t : ErrT) (h : 0 < (numbersOf t).length) : (numbersOf t)[0] = codeOf t := by
  have h2 := code_head t
  rw [List.head?_eq_getElem?, List.getElem?_eq_getElem h] at h2
  injection h2

set_option maxRecDepth 100000 in
set_option maxHeartbeats 40000000 in
theorem faultTells_any (w : World) (A : Option Addr) (n cap : Nat) (Q : List StepV) (e0 : Int) (h : SlR w A n 4 (Q.map stepC)) (hq : ∀ s ∈ Q, stepOk w s) (hn : n ≤ 9223372036854775807) (hg : ErrVar w) :
    Calls Tryd.prog 5 #[.slice A n cap, .int .i64 e0] w fun e w' => e = .returned (.bool true) ∧ Below w.heap.size w w' := by
  have c0 := made_any w A n cap Q h hq hn
  have Hg := Lib.hid hg
  clear h hq hg
  go_enter Tryd.func5, Tryd.ntmps5
  go_wp2_with fail
  refine c0.mono ?_; rintro e w1 ⟨o, v, x, rfl, hv, hx, hsz, hsh, hb1⟩
  clear c0
  have hst := storeFlt_run w1 w1.heap.size rfl (fltC flt0) (fltC_size _) x hx.n.one hx.o.one hx.r.one 39
  have hbx : Below w1.heap.size w1 (w1.alloc (.cells (fltC x) 39)) := (Below.refl _ _).alloc (Nat.le_refl _) _
  have hbox : rowAt (w1.alloc (.cells (fltC x) 39)) w1.heap.size 0 3 = some (fltC x) := by simp [go_sem]
  have hx2 := hx.below hbx
  have hv2 : ErrOO [] (w1.alloc (.cells (fltC x) 39)) o v := hv.kept (Keep.of_below hbx)
  have hbw := bel2 hb1 hbx
  clear hx hv hb1 hbx
  obtain ⟨xn, xo, xr⟩ := x
  obtain ⟨A1, k1, e1, s1, _⟩ := hx2.n.parts
  obtain ⟨A2, k2, e2, s2, _⟩ := hx2.o.parts
  obtain ⟨us, hu1, hu⟩ := hx2.r
  obtain ⟨A3, k3, e3, s3, _⟩ := hu1.parts
  have lu := hu.len
  simp only [List.length_map] at e1 e2 e3 s1 s2 s3
  subst e1; subst e2; subst e3
  have hln := numsO_le o
  have hlo := opsO_le o
  obtain ⟨N1, hN1⟩ : ∃ N, (numsO o).length = N := ⟨_, rfl⟩
  obtain ⟨N2, hN2⟩ : ∃ N, (opsO o).length = N := ⟨_, rfl⟩
  obtain ⟨N3, hN3⟩ : ∃ N, us.length = N := ⟨_, rfl⟩
  simp only [hN1, hN2, hN3] at hst hbox hx2 s1 s2 s3 hln hlo lu hbw hv2 hu
  rw [hN1, hN2, hN3]
  have HN1 := Lib.hid hN1; have HN2 := Lib.hid hN2; have HN3 := Lib.hid hN3; have Lu := Lib.hid lu
  clear hN1 hN2 hN3 lu
  go_upto_region 2 with fail
  obtain ⟨B6, hB6⟩ : ∃ B6, w1.heap.size = B6 := ⟨_, rfl⟩
  rw [hB6] at hbox ⊢
  clear hst hB6
  generalize w1.alloc (.cells (fltC ⟨.slice A1 N1 k1, .slice A2 N2 k2, .slice A3 N3 k3⟩) 39) = W at *
  have HgW := Lib.hid (Hg.out.below hbw)
  obtain ⟨y0, y1, y2⟩ := flt_box hbox
  cases o with
  | none =>
    have e : v = .nilIface := hv2
    subst e
    obtain rfl : N1 = 0 := HN1.out.symm
    obtain rfl : N2 = 0 := HN2.out.symm
    obtain rfl : N3 = 0 := Lu.out
    have hx2' : FltAt [] W [] [] [] ⟨.slice A1 0 k1, .slice A2 0 k2, .slice A3 0 k3⟩ := hx2
    have s2' : StrsIn W A2 0 [] := s2
    have hS0 : StrsIn W none 0 [] := SlR.nil_
    have hd0 : decide (([] : List ByteArray) = []) = true := rfl
    have hxH := Lib.hid hx2'
    have hboxH := Lib.hid hbox
    clear hx2 hx2' hv2 s1 s2 s3 hu1 hu hln hlo hsz hsh hbox HN1 HN2 HN3 Lu
    cases hz : (e0 == 0) with
    | true =>
      obtain rfl : e0 = 0 := by simpa using hz
      have hfx := fun W' (hb : Below W.heap.size W W') => ris_zero [] _ [] [] [] W' (hxH.out.below hb)
      have Hfx := Lib.hid hfx
      clear hfx hz hd0
      have mk : ∀ w' : World, Below W.heap.size W w' → w'.cell? ⟨B6, 0, none⟩ = some (.slice A1 0 k1) ∧ w'.cell? ⟨B6, 1, none⟩ = some (.slice A2 0 k2) ∧ rowAt w' B6 0 3 = some (fltC ⟨.slice A1 0 k1, .slice A2 0 k2, .slice A3 0 k3⟩) ∧ Below W.heap.size W w' := fun w' hb =>
        ⟨(hb.cell (p := ⟨B6, 0, none⟩) (rowAt_lt hboxH.out)).trans y0, (hb.cell (p := ⟨B6, 1, none⟩) (rowAt_lt hboxH.out)).trans y1, (rowAt_of_block (hb.block B6 (rowAt_lt hboxH.out)) 0 3).trans hboxH.out, hb⟩
      have Mk := Lib.hid mk
      have hB0 := bel_drew W
      clear mk
      go_region_held3 (fun w' => w'.cell? ⟨B6, 0, none⟩ = some (.slice A1 0 k1) ∧ w'.cell? ⟨B6, 1, none⟩ = some (.slice A2 0 k2) ∧ rowAt w' B6 0 3 = some (fltC ⟨.slice A1 0 k1, .slice A2 0 k2, .slice A3 0 k3⟩) ∧ Below W.heap.size W w')
        (first | exact Mk.out _ hS | exact Mk.out _ hB4 | exact Mk.out _ hB3 | exact Mk.out _ hB2 | exact Mk.out _ hB0)
        (first
          | (go_at_call 15; refine (fops_nil _).mono ?_; rintro e w2 ⟨rfl, rfl⟩)
          | (go_at_call 14; refine (rtexts_eq _ _ _ _ _ _ _ [] (SlR.below hS0 hB0) (SlR.below s2' hB0) (by omega) (by omega)).mono ?_; rintro e w3 ⟨rfl, hb3⟩; have hB3 := bel_next hB0 hb3)
          | (go_at_call 16; refine (fis_nil0 _).mono ?_; rintro e w4 ⟨rfl, rfl⟩)
          | (go_at_call 17; refine (Hfx.out _ hB3).mono ?_; rintro e w5 ⟨rfl, hb5⟩; have hS := bel_next hB3 hb5))
      have hboxE := (rowAt_of_block (hS.block B6 (rowAt_lt hboxH.out)) 0 3).trans hboxH.out
      obtain ⟨z0, z1, z2⟩ := flt_box hboxE
      have hbw5 := bel2 hbw hS
      have Hg5 := Lib.hid (HgW.out.below hS)
      have hS5 : Below W.heap.size W w5 := hS
      clear hS y0 y1 y2
      go_wp2_with fail
      refine (freport_nil _).mono ?_; rintro e w6 ⟨rfl, hb6⟩
      have hbox6 := (rowAt_of_block (hb6.block B6 (rowAt_lt hboxE)) 0 3).trans hboxE
      go_wp2_with fail
      refine (fcode_nil _).mono ?_; rintro e w7 ⟨rfl, hb7⟩
      obtain ⟨u0, u1, u2⟩ := flt_box ((rowAt_of_block (hb7.block B6 (rowAt_lt hbox6)) 0 3).trans hbox6)
      have hbw7 := bel2 (bel2 hbw5 hb6) hb7
      have Hg7 := Lib.hid ((Hg5.out.below hb6).below hb7)
      clear hboxE hbox6 hb6 hb7 hS5 hbw5 z0 z1 z2
      go_wp2_with fail
      refine (awake_any _ Hg7.out).mono ?_; rintro e w8 ⟨rfl, hb8⟩
      go_wp2_with fail
      go_ret
      exact ⟨rfl, bel2 hbw7 hb8⟩
    | false =>
      have hn0 : e0 ≠ 0 := by simpa using hz
      have hfx := fun W' (hb : Below W.heap.size W W') => ris_some [] _ [] [] [] e0 hn0 W' (hxH.out.below hb) (by simp)
      have Hfx := Lib.hid hfx
      have Hn0 := Lib.hid hn0
      clear hfx hn0 hd0
      have mk : ∀ w' : World, Below W.heap.size W w' → w'.cell? ⟨B6, 0, none⟩ = some (.slice A1 0 k1) ∧ w'.cell? ⟨B6, 1, none⟩ = some (.slice A2 0 k2) ∧ rowAt w' B6 0 3 = some (fltC ⟨.slice A1 0 k1, .slice A2 0 k2, .slice A3 0 k3⟩) ∧ Below W.heap.size W w' := fun w' hb =>
        ⟨(hb.cell (p := ⟨B6, 0, none⟩) (rowAt_lt hboxH.out)).trans y0, (hb.cell (p := ⟨B6, 1, none⟩) (rowAt_lt hboxH.out)).trans y1, (rowAt_of_block (hb.block B6 (rowAt_lt hboxH.out)) 0 3).trans hboxH.out, hb⟩
      have Mk := Lib.hid mk
      have hB0 := bel_drew W
      clear mk
      go_region_held3 (fun w' => w'.cell? ⟨B6, 0, none⟩ = some (.slice A1 0 k1) ∧ w'.cell? ⟨B6, 1, none⟩ = some (.slice A2 0 k2) ∧ rowAt w' B6 0 3 = some (fltC ⟨.slice A1 0 k1, .slice A2 0 k2, .slice A3 0 k3⟩) ∧ Below W.heap.size W w')
        (first | exact Mk.out _ hS | exact Mk.out _ hB4 | exact Mk.out _ hB3 | exact Mk.out _ hB2 | exact Mk.out _ hB0)
        (first
          | (go_at_call 15; refine (fops_nil _).mono ?_; rintro e w2 ⟨rfl, rfl⟩)
          | (go_at_call 14; refine (rtexts_eq _ _ _ _ _ _ _ [] (SlR.below hS0 hB0) (SlR.below s2' hB0) (by omega) (by omega)).mono ?_; rintro e w3 ⟨rfl, hb3⟩; have hB3 := bel_next hB0 hb3)
          | (go_at_call 16; refine (fis_nil e0 Hn0.out _).mono ?_; rintro e w4 ⟨rfl, rfl⟩)
          | (go_at_call 17; refine (Hfx.out _ hB3).mono ?_; rintro e w5 ⟨rfl, hb5⟩; have hS := bel_next hB3 hb5))
      have hboxE := (rowAt_of_block (hS.block B6 (rowAt_lt hboxH.out)) 0 3).trans hboxH.out
      obtain ⟨z0, z1, z2⟩ := flt_box hboxE
      have hbw5 := bel2 hbw hS
      have Hg5 := Lib.hid (HgW.out.below hS)
      have hS5 : Below W.heap.size W w5 := hS
      clear hS y0 y1 y2
      go_wp2_with fail
      refine (freport_nil _).mono ?_; rintro e w6 ⟨rfl, hb6⟩
      have hbox6 := (rowAt_of_block (hb6.block B6 (rowAt_lt hboxE)) 0 3).trans hboxE
      go_wp2_with fail
      refine (fcode_nil _).mono ?_; rintro e w7 ⟨rfl, hb7⟩
      obtain ⟨u0, u1, u2⟩ := flt_box ((rowAt_of_block (hb7.block B6 (rowAt_lt hbox6)) 0 3).trans hbox6)
      have hbw7 := bel2 (bel2 hbw5 hb6) hb7
      have Hg7 := Lib.hid ((Hg5.out.below hb6).below hb7)
      clear hboxE hbox6 hb6 hb7 hS5 hbw5 z0 z1 z2
      go_wp2_with fail
      refine (awake_any _ Hg7.out).mono ?_; rintro e w8 ⟨rfl, hb8⟩
      go_wp2_with fail
      go_ret
      exact ⟨rfl, bel2 hbw7 hb8⟩
  | some t =>
    have ht : ErrAt W t v := ErrOut.at_ hv2
    have htz : t.sz ≤ 4294967296 := hsz
    have hRb : ∀ R, repOf t = some R → R.length ≤ 1000000000000 := fun R hR => by
      have h1 := rep_head t
      rw [hR] at h1
      have h2 : R ∈ reportsOf t := List.mem_of_head? h1
      have := hsh R h2
      omega
    have HRb := Lib.hid hRb
    have Hsh := Lib.hid hsh
    have Ht := Lib.hid ht
    have hxH : Hid (FltAt [] W (numbersOf t) (opsOf t) (reportsOf t) ⟨.slice A1 N1 k1, .slice A2 N2 k2, .slice A3 N3 k3⟩) := hx2
    have s2' : StrsIn W A2 N2 (opsOf t) := s2
    have hboxH := Lib.hid hbox
    have Hu : Hid (AllIn [] W us (repsO (some t))) := hu
    have S3 : Hid (SlR W A3 N3 1 (us.map fun u => #[u])) := s3
    have hNe := numbersOf_ne t
    have hN1p : 0 < N1 := by rw [← HN1.out]; exact List.length_pos_iff.2 hNe
    have hN1i : (0 : Int) < (N1 : Int) := by omega
    have hN1b : ((N1 : Int) == 0) = false := by rw [beq_eq_false_iff_ne]; omega
    obtain ⟨q1, o1, rfl, hr1⟩ := s1.at_ hN1p
    have hcell1 : W.cell? ⟨q1, o1, none⟩ = some (.int .i64 (codeOf t)) := by
      have h1 := rowAt_cell hr1 (j := 0) (by omega)
      have h4 : (List.map intR (numsO (some t)))[0]'(by rw [List.length_map]; exact List.length_pos_iff.2 hNe) = intR (codeOf t) := by
        exact (List.getElem_map _).trans (congrArg intR (nums_zero t _))
      rw [h4] at h1
      simpa [intR] using h1
    have hlo' : (opsOf t).length ≤ 4294967296 := Nat.le_trans (ops_le t) htz
    have hlnn : (numbersOf t).length ≤ 4294967296 := Nat.le_trans (nums_le t) htz
    have hN2l : N2 ≤ 4294967296 := by have := HN2.out; simp only [opsO] at this; omega
    obtain ⟨d, xx, rfl⟩ := ht.iface
    have hneH := Lib.hid hNe
    clear hx2 hv2 s1 s2 s3 hu1 hu hln hlo hsz hsh hbox ht hNe hr1 hRb
    cases hz : (e0 == 0) with
    | true =>
      obtain rfl : e0 = 0 := by simpa using hz
      have hfx : ∀ W', Below W.heap.size W W' → Calls Tryd.prog 17 #[.agg (fltC ⟨.slice (some ⟨q1, o1, none⟩) N1 k1, .slice A2 N2 k2, .slice A3 N3 k3⟩), .int .i64 0] W' fun e w' => e = .returned (.bool false) ∧ Below W'.heap.size W' w' := fun W' hb =>
        (ris_zero [] _ _ _ _ W' (hxH.out.below hb)).mono fun e w' ⟨he, h⟩ => ⟨by rw [he, decide_eq_false hneH.out], h⟩
      have Hfx := Lib.hid hfx
      clear hfx hz
      have mk : ∀ w' : World, Below W.heap.size W w' → w'.cell? ⟨B6, 0, none⟩ = some (.slice (some ⟨q1, o1, none⟩) N1 k1) ∧ w'.cell? ⟨B6, 1, none⟩ = some (.slice A2 N2 k2) ∧ rowAt w' B6 0 3 = some (fltC ⟨.slice (some ⟨q1, o1, none⟩) N1 k1, .slice A2 N2 k2, .slice A3 N3 k3⟩) ∧ Below W.heap.size W w' := fun w' hb =>
        ⟨(hb.cell (p := ⟨B6, 0, none⟩) (rowAt_lt hboxH.out)).trans y0, (hb.cell (p := ⟨B6, 1, none⟩) (rowAt_lt hboxH.out)).trans y1, (rowAt_of_block (hb.block B6 (rowAt_lt hboxH.out)) 0 3).trans hboxH.out, hb⟩
      have Mk := Lib.hid mk
      have hB0 := bel_drew W
      clear mk
      go_region_held3 (fun w' => w'.cell? ⟨B6, 0, none⟩ = some (.slice (some ⟨q1, o1, none⟩) N1 k1) ∧ w'.cell? ⟨B6, 1, none⟩ = some (.slice A2 N2 k2) ∧ rowAt w' B6 0 3 = some (fltC ⟨.slice (some ⟨q1, o1, none⟩) N1 k1, .slice A2 N2 k2, .slice A3 N3 k3⟩) ∧ Below W.heap.size W w')
        (first | exact Mk.out _ hS | exact Mk.out _ hB4 | exact Mk.out _ hB3 | exact Mk.out _ hB2 | exact Mk.out _ hB0)
        (first
          | (go_at_call 15; refine (fops t _ _ (Ht.out.below hB0) (by omega)).mono ?_; rintro e w2 ⟨A5, cap5, rfl, hown5, hb2⟩; have hB2 := bel_next hB0 hb2)
          | (go_at_call 14; refine (rtexts_eq _ _ _ _ _ _ _ (opsOf t) hown5.slr (SlR.below s2' hB2) (by omega) (by omega)).mono ?_; rintro e w3 ⟨rfl, hb3⟩; have hB3 := bel_next hB2 hb3)
          | (go_at_call 16; refine (fis_zero t _ _ (Ht.out.below hB3)).mono ?_; rintro e w4 ⟨rfl, rfl⟩)
          | (go_at_call 17; refine (Hfx.out _ hB3).mono ?_; rintro e w5 ⟨rfl, hb5⟩; have hS := bel_next hB3 hb5))
      have hboxE := (rowAt_of_block (hS.block B6 (rowAt_lt hboxH.out)) 0 3).trans hboxH.out
      obtain ⟨z0, z1, z2⟩ := flt_box hboxE
      have hbw5 := bel2 hbw hS
      have Hg5 := Lib.hid (HgW.out.below hS)
      have hc1 := (hS.cell (p := ⟨q1, o1, none⟩) (World.block_lt_of_cell? W _ hcell1)).trans hcell1
      have ht5 := Lib.hid (Ht.out.below hS)
      have hS5 := Lib.hid hS
      clear y0 y1 y2
      go_wp2_with fail
      refine (freport t _ _ ht5.out Hg5.out HRb.out).mono ?_; rintro e w6 ⟨hb6, hres⟩
      have hbox6 := (rowAt_of_block (hb6.block B6 (rowAt_lt hboxE)) 0 3).trans hboxE
      have hbw6 := bel2 hbw5 hb6
      have Hg6 := Lib.hid (Hg5.out.below hb6)
      have ht6 := Lib.hid (ht5.out.below hb6)
      have hW6 := Lib.hid (bel2 hS5.out hb6)
      cases hr : repOf t with
      | none =>
        rw [hr] at hres
        obtain rfl := hres
        have h30 : N3 = 0 := by
          have h1 := rep_head t
          rw [hr] at h1
          have h2 : reportsOf t = [] := List.head?_eq_none_iff.1 h1
          have h3 : N3 = (reportsOf t).length := Lu.out
          rw [h2] at h3
          exact h3
        subst h30
        clear hr
        go_wp2_with fail
        refine (fcode t _ _ ht6.out Hg6.out).mono ?_; rintro e w7 ⟨rfl, hb7⟩
        obtain ⟨u0, u1, u2⟩ := flt_box ((rowAt_of_block (hb7.block B6 (rowAt_lt hbox6)) 0 3).trans hbox6)
        have hbw7 := bel2 hbw6 hb7
        have Hg7 := Lib.hid (Hg6.out.below hb7)
        obtain ⟨cc, hcc⟩ : ∃ cc, codeOf t = cc := ⟨_, rfl⟩
        rw [hcc]
        clear hcc hboxE hbox6 hb6 hb7 z0 z1 z2
        go_wp2_with fail
        refine (awake_any _ Hg7.out).mono ?_; rintro e w8 ⟨rfl, hb8⟩
        go_wp2_with fail
        go_ret
        exact ⟨rfl, bel2 hbw7 hb8⟩
      | some R =>
        rw [hr] at hres
        obtain ⟨A4, n4, cap4, rfl, hown4, hn4⟩ := hres
        have hl4 : R.length = n4 := by simpa using hown4.len
        obtain ⟨rs, hrs⟩ : ∃ rs, reportsOf t = R :: rs := by
          have h1 := rep_head t
          rw [hr] at h1
          cases hh : reportsOf t with
          | nil => rw [hh] at h1; cases h1
          | cons a l => rw [hh] at h1; injection h1 with h1; subst h1; exact ⟨l, rfl⟩
        have hR20 : R.length ≤ 20 := Hsh.out R (by show R ∈ reportsOf t; rw [hrs]; simp)
        have hu0 : AllIn [] W us (R :: rs) := by have h : AllIn [] W us (reportsOf t) := Hu.out; rwa [hrs] at h
        have h31 : 0 < N3 := by have h : N3 = (reportsOf t).length := Lu.out; rw [h, hrs]; exact Nat.succ_pos _
        have h32 : (0 : Int) < (N3 : Int) := by omega
        obtain ⟨u, us', rfl⟩ : ∃ u us', us = u :: us' := by
          cases us with
          | nil => exact hu0.elim
          | cons u l => exact ⟨u, l, rfl⟩
        obtain ⟨A9, c9, rfl, hs9, _⟩ := hu0.1.parts
        simp only [List.length_map] at hs9
        have s3x := S3.out
        obtain ⟨q3, o3, rfl, hr3⟩ := s3x.at_ h31
        have hcell3 : W.cell? ⟨q3, o3, none⟩ = some (.slice A9 R.length c9) := by
          have := rowAt_cell hr3 (j := 0) (by omega)
          simpa using this
        have hs9H := Lib.hid hs9
        have Hl4 := Lib.hid hl4
        subst hl4
        clear hr hrs hu0 hr3 hs9 s3x
        go_wp2_with fail
        refine (fcode t _ _ ht6.out Hg6.out).mono ?_; rintro e w7 ⟨rfl, hb7⟩
        have hbox7 := (rowAt_of_block (hb7.block B6 (rowAt_lt hbox6)) 0 3).trans hbox6
        obtain ⟨u0, u1, u2⟩ := flt_box hbox7
        have hbw7 := bel2 hbw6 hb7
        have Hg7 := Lib.hid (Hg6.out.below hb7)
        have hW7 := bel2 hW6.out hb7
        have hown7 := Lib.hid (hown4.below hb7)
        have hc7 := (hW7.cell (p := ⟨q3, o3, none⟩) (World.block_lt_of_cell? W _ hcell3)).trans hcell3
        have hs97 := Lib.hid (SlR.below hs9H.out hW7)
        obtain ⟨cc, hcc⟩ : ∃ cc, codeOf t = cc := ⟨_, rfl⟩
        rw [hcc]
        have HW7 := Lib.hid hW7
        clear hcc hboxE hbox6 hbox7 hb6 hb7 z0 z1 z2 hown4 hW7 hcell3
        go_wp2_with fail
        refine (rsame_eq _ _ _ _ _ _ _ R hown7.out.slr hs97.out (by omega) (by omega)).mono ?_; rintro e w8 ⟨rfl, hb8⟩
        have hbw8 := bel2 hbw7 hb8
        have Hg8 := Lib.hid (Hg7.out.below hb8)
        go_wp2_with fail
        refine (awake_any _ Hg8.out).mono ?_; rintro e w9 ⟨rfl, hb9⟩
        go_wp2_with fail
        go_ret
        exact ⟨rfl, bel2 hbw8 hb9⟩
    | false =>
      have hn0 : e0 ≠ 0 := by simpa using hz
      obtain ⟨b0, hb0e⟩ : ∃ b0, isOf e0 t = b0 := ⟨_, rfl⟩
      have hfx : ∀ W', Below W.heap.size W W' → Calls Tryd.prog 17 #[.agg (fltC ⟨.slice (some ⟨q1, o1, none⟩) N1 k1, .slice A2 N2 k2, .slice A3 N3 k3⟩), .int .i64 e0] W' fun e w' => e = .returned (.bool b0) ∧ Below W'.heap.size W' w' := fun W' hb =>
        (ris_some [] _ _ _ _ e0 hn0 W' (hxH.out.below hb) hlnn).mono fun e w' ⟨he, h⟩ => ⟨by rw [he, is_any_num, hb0e], h⟩
      have hfi : ∀ W', Below W.heap.size W W' → Calls Tryd.prog 16 #[.iface d xx, .int .i64 e0] W' fun e w' => e = .returned (.bool b0) ∧ Below W'.heap.size W' w' := fun W' hb =>
        (fis_some e0 hn0 t _ W' (Ht.out.below hb)).mono fun e w' ⟨he, h⟩ => ⟨by rw [he, hb0e], h⟩
      have Hfx := Lib.hid hfx
      have Hfi := Lib.hid hfi
      clear hfx hfi hn0 hb0e
      have mk : ∀ w' : World, Below W.heap.size W w' → w'.cell? ⟨B6, 0, none⟩ = some (.slice (some ⟨q1, o1, none⟩) N1 k1) ∧ w'.cell? ⟨B6, 1, none⟩ = some (.slice A2 N2 k2) ∧ rowAt w' B6 0 3 = some (fltC ⟨.slice (some ⟨q1, o1, none⟩) N1 k1, .slice A2 N2 k2, .slice A3 N3 k3⟩) ∧ Below W.heap.size W w' := fun w' hb =>
        ⟨(hb.cell (p := ⟨B6, 0, none⟩) (rowAt_lt hboxH.out)).trans y0, (hb.cell (p := ⟨B6, 1, none⟩) (rowAt_lt hboxH.out)).trans y1, (rowAt_of_block (hb.block B6 (rowAt_lt hboxH.out)) 0 3).trans hboxH.out, hb⟩
      have Mk := Lib.hid mk
      have hB0 := bel_drew W
      clear mk
      go_region_held3 (fun w' => w'.cell? ⟨B6, 0, none⟩ = some (.slice (some ⟨q1, o1, none⟩) N1 k1) ∧ w'.cell? ⟨B6, 1, none⟩ = some (.slice A2 N2 k2) ∧ rowAt w' B6 0 3 = some (fltC ⟨.slice (some ⟨q1, o1, none⟩) N1 k1, .slice A2 N2 k2, .slice A3 N3 k3⟩) ∧ Below W.heap.size W w')
        (first | exact Mk.out _ hS | exact Mk.out _ hB4 | exact Mk.out _ hB3 | exact Mk.out _ hB2 | exact Mk.out _ hB0)
        (first
          | (go_at_call 15; refine (fops t _ _ (Ht.out.below hB0) (by omega)).mono ?_; rintro e w2 ⟨A5, cap5, rfl, hown5, hb2⟩; have hB2 := bel_next hB0 hb2)
          | (go_at_call 14; refine (rtexts_eq _ _ _ _ _ _ _ (opsOf t) hown5.slr (SlR.below s2' hB2) (by omega) (by omega)).mono ?_; rintro e w3 ⟨rfl, hb3⟩; have hB3 := bel_next hB2 hb3)
          | (go_at_call 16; refine (Hfi.out _ hB3).mono ?_; rintro e w4 ⟨rfl, hb4⟩; have hB4 := bel_next hB3 hb4)
          | (go_at_call 17; refine (Hfx.out _ hB4).mono ?_; rintro e w5 ⟨rfl, hb5⟩; have hS := bel_next hB4 hb5))
      have hboxE := (rowAt_of_block (hS.block B6 (rowAt_lt hboxH.out)) 0 3).trans hboxH.out
      obtain ⟨z0, z1, z2⟩ := flt_box hboxE
      have hbw5 := bel2 hbw hS
      have Hg5 := Lib.hid (HgW.out.below hS)
      have hc1 := (hS.cell (p := ⟨q1, o1, none⟩) (World.block_lt_of_cell? W _ hcell1)).trans hcell1
      have ht5 := Lib.hid (Ht.out.below hS)
      have hS5 := Lib.hid hS
      clear y0 y1 y2
      go_wp2_with fail
      refine (freport t _ _ ht5.out Hg5.out HRb.out).mono ?_; rintro e w6 ⟨hb6, hres⟩
      have hbox6 := (rowAt_of_block (hb6.block B6 (rowAt_lt hboxE)) 0 3).trans hboxE
      have hbw6 := bel2 hbw5 hb6
      have Hg6 := Lib.hid (Hg5.out.below hb6)
      have ht6 := Lib.hid (ht5.out.below hb6)
      have hW6 := Lib.hid (bel2 hS5.out hb6)
      cases hr : repOf t with
      | none =>
        rw [hr] at hres
        obtain rfl := hres
        have h30 : N3 = 0 := by
          have h1 := rep_head t
          rw [hr] at h1
          have h2 : reportsOf t = [] := List.head?_eq_none_iff.1 h1
          have h3 : N3 = (reportsOf t).length := Lu.out
          rw [h2] at h3
          exact h3
        subst h30
        clear hr
        go_wp2_with fail
        refine (fcode t _ _ ht6.out Hg6.out).mono ?_; rintro e w7 ⟨rfl, hb7⟩
        obtain ⟨u0, u1, u2⟩ := flt_box ((rowAt_of_block (hb7.block B6 (rowAt_lt hbox6)) 0 3).trans hbox6)
        have hbw7 := bel2 hbw6 hb7
        have Hg7 := Lib.hid (Hg6.out.below hb7)
        obtain ⟨cc, hcc⟩ : ∃ cc, codeOf t = cc := ⟨_, rfl⟩
        rw [hcc]
        clear hcc hboxE hbox6 hb6 hb7 z0 z1 z2
        go_wp2_with fail
        refine (awake_any _ Hg7.out).mono ?_; rintro e w8 ⟨rfl, hb8⟩
        go_wp2_with fail
        go_ret
        exact ⟨rfl, bel2 hbw7 hb8⟩
      | some R =>
        rw [hr] at hres
        obtain ⟨A4, n4, cap4, rfl, hown4, hn4⟩ := hres
        have hl4 : R.length = n4 := by simpa using hown4.len
        obtain ⟨rs, hrs⟩ : ∃ rs, reportsOf t = R :: rs := by
          have h1 := rep_head t
          rw [hr] at h1
          cases hh : reportsOf t with
          | nil => rw [hh] at h1; cases h1
          | cons a l => rw [hh] at h1; injection h1 with h1; subst h1; exact ⟨l, rfl⟩
        have hR20 : R.length ≤ 20 := Hsh.out R (by show R ∈ reportsOf t; rw [hrs]; simp)
        have hu0 : AllIn [] W us (R :: rs) := by have h : AllIn [] W us (reportsOf t) := Hu.out; rwa [hrs] at h
        have h31 : 0 < N3 := by have h : N3 = (reportsOf t).length := Lu.out; rw [h, hrs]; exact Nat.succ_pos _
        have h32 : (0 : Int) < (N3 : Int) := by omega
        obtain ⟨u, us', rfl⟩ : ∃ u us', us = u :: us' := by
          cases us with
          | nil => exact hu0.elim
          | cons u l => exact ⟨u, l, rfl⟩
        obtain ⟨A9, c9, rfl, hs9, _⟩ := hu0.1.parts
        simp only [List.length_map] at hs9
        have s3x := S3.out
        obtain ⟨q3, o3, rfl, hr3⟩ := s3x.at_ h31
        have hcell3 : W.cell? ⟨q3, o3, none⟩ = some (.slice A9 R.length c9) := by
          have := rowAt_cell hr3 (j := 0) (by omega)
          simpa using this
        have hs9H := Lib.hid hs9
        have Hl4 := Lib.hid hl4
        subst hl4
        clear hr hrs hu0 hr3 hs9 s3x
        go_wp2_with fail
        refine (fcode t _ _ ht6.out Hg6.out).mono ?_; rintro e w7 ⟨rfl, hb7⟩
        have hbox7 := (rowAt_of_block (hb7.block B6 (rowAt_lt hbox6)) 0 3).trans hbox6
        obtain ⟨u0, u1, u2⟩ := flt_box hbox7
        have hbw7 := bel2 hbw6 hb7
        have Hg7 := Lib.hid (Hg6.out.below hb7)
        have hW7 := bel2 hW6.out hb7
        have hown7 := Lib.hid (hown4.below hb7)
        have hc7 := (hW7.cell (p := ⟨q3, o3, none⟩) (World.block_lt_of_cell? W _ hcell3)).trans hcell3
        have hs97 := Lib.hid (SlR.below hs9H.out hW7)
        obtain ⟨cc, hcc⟩ : ∃ cc, codeOf t = cc := ⟨_, rfl⟩
        rw [hcc]
        have HW7 := Lib.hid hW7
        clear hcc hboxE hbox6 hbox7 hb6 hb7 z0 z1 z2 hown4 hW7 hcell3
        go_wp2_with fail
        refine (rsame_eq _ _ _ _ _ _ _ R hown7.out.slr hs97.out (by omega) (by omega)).mono ?_; rintro e w8 ⟨rfl, hb8⟩
        have hbw8 := bel2 hbw7 hb8
        have Hg8 := Lib.hid (Hg7.out.below hb8)
        go_wp2_with fail
        refine (awake_any _ Hg8.out).mono ?_; rintro e w9 ⟨rfl, hb9⟩
        go_wp2_with fail
        go_ret
        exact ⟨rfl, bel2 hbw8 hb9⟩

end Go.Proofs.YtiihicmodohaeaaDoor
