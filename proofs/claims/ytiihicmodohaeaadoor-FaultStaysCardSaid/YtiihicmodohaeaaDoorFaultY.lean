/- FaultStays: the walk. -/
import Derived.Test.YtiihicmodohaeaaDoorFaultT
namespace Go.Proofs.YtiihicmodohaeaaDoor
open Go.RowKit Go.Extern.Stop Go.Stop Go.Extern

def wrapL : List ByteArray → ErrT → ErrT
  | [], t => t
  | op :: l, t => .wrap op (wrapL l t)
theorem wrapL_code : ∀ l t, codeOf (wrapL l t) = codeOf t
  | [], _ => rfl
  | _ :: l, t => wrapL_code l t
theorem wrapL_rep : ∀ l t, repOf (wrapL l t) = repOf t
  | [], _ => rfl
  | _ :: l, t => wrapL_rep l t
theorem wrapL_ops : ∀ l t, opsOf (wrapL l t) = l ++ opsOf t
  | [], _ => rfl
  | op :: l, t => congrArg (op :: ·) (wrapL_ops l t)
theorem map_wrapL (l : List ByteArray) (s : ByteArray) (o : Option ErrT) : (o.map (wrapL l)).map (.wrap s) = o.map (wrapL (s :: l)) := by cases o <;> rfl
theorem drop_take_full {Z : List ByteArray} {m : Nat} (h : Z.length = m) : (Z.take 30).drop m = [] := List.drop_eq_nil_of_le (by rw [List.length_take]; omega)
theorem drop_take_cons {Z : List ByteArray} {k : Nat} (h : k < Z.length) (h3 : k < 30) : (Z.take 30).drop k = Z[k] :: (Z.take 30).drop (k + 1) := by
  have hl : k < (Z.take 30).length := by rw [List.length_take]; omega
  rw [List.drop_eq_getElem_cons hl, List.getElem_take]
theorem drop_take_high {Z : List ByteArray} {k : Nat} (h3 : 30 ≤ k) : (Z.take 30).drop k = [] := List.drop_eq_nil_of_le (by rw [List.length_take]; omega)
theorem take_end {Z : List ByteArray} {k m : Nat} (hm : Z.length = m) (hk : k ≤ 30) (hkm : k ≤ m) (h : ¬ (k < m ∧ k < 30)) : Z.take k = Z.take 30 := by
  by_cases e : k = 30
  · rw [e]
  · have : k = m := by omega
    rw [List.take_of_length_le (by omega), List.take_of_length_le (by omega)]
theorem str_one (s : ByteArray) : ∀ u ∈ (strR s).toList, u.oneCell' = true := fun u hu => by simp [strR] at hu; subst hu; rfl


set_option maxRecDepth 100000 in
set_option maxHeartbeats 40000000 in
theorem faultStays_any (w : World) (A : Option Addr) (n cap : Nat) (Q : List StepV) (C : Option Addr) (m c2 : Nat) (Z : List ByteArray) (h : SlR w A n 4 (Q.map stepC)) (hq : ∀ s ∈ Q, stepOk w s) (hn : n ≤ 9223372036854775807) (hz : StrsIn w C m Z) (hm : m ≤ 9223372036854775807) (hg : ErrVar w) :
    Calls Tryd.prog 4 #[.slice A n cap, .slice C m c2] w fun e w' => e = .returned (.bool true) ∧ Below w.heap.size w w' := by
  have c0 := made_any w A n cap Q h hq hn
  have Hg := Lib.hid hg
  have Hz := Lib.hid hz
  have hzl : Z.length = m := by simpa using hz.1
  have Hzl := Lib.hid hzl
  clear h hq hg hz hzl
  go_enter Tryd.func4, Tryd.ntmps4
  go_wp2_with fail
  refine c0.mono ?_; rintro e w1 ⟨o, v, x, rfl, hv, hx, hsz, hsh, hb1⟩
  clear c0
  have hst := storeFlt_run w1 w1.heap.size rfl (fltC flt0) (fltC_size _) x hx.n.one hx.o.one hx.r.one 39
  have hbx : Below w1.heap.size w1 (w1.alloc (.cells (fltC x) 39)) := (Below.refl _ _).alloc (Nat.le_refl _) _
  have hbox : rowAt (w1.alloc (.cells (fltC x) 39)) w1.heap.size 0 3 = some (fltC x) := by simp [go_sem]
  have hx2 := hx.below hbx
  have hv2 : ErrOO [] (w1.alloc (.cells (fltC x) 39)) o v := hv.kept (Keep.of_below hbx)
  have hbw := bel2 hb1 hbx
  clear hx hv hb1 hbx
  obtain ⟨xn, xo, xr⟩ := x
  obtain ⟨A2, k2, e2, s2, hq2⟩ := hx2.o.parts
  simp only [List.length_map] at e2 s2
  subst e2
  have hlo := opsO_le o
  clear hx2
  obtain ⟨N2, hN2⟩ : ∃ N, (opsO o).length = N := ⟨_, rfl⟩
  simp only [hN2] at hst hbox s2 hlo hbw hv2
  rw [hN2]
  have HN2 := Lib.hid hN2
  clear hN2
  go_upto_region 2 with fail
  obtain ⟨B6, hB6⟩ : ∃ B6, w1.heap.size = B6 := ⟨_, rfl⟩
  rw [hB6] at hbox ⊢
  clear hst hB6
  generalize w1.alloc (.cells (fltC ⟨xn, .slice A2 N2 k2, xr⟩) 39) = W at *
  have HgW := Lib.hid (Hg.out.below hbw)
  have HzW := Lib.hid (SlR.below Hz.out hbw)
  have HV := Lib.hid hv2
  have HS2 : Hid (StrsIn W A2 N2 (opsO o)) := s2
  have Hbox := Lib.hid hbox
  have Hq2 := Lib.hid hq2
  have Hsh := Lib.hid hsh
  clear hbox s2 hv2 hq2 hsh Hz Hg
  go_wp2_with fail
  go_loopw [7, 9] (fun wv i wr => ∃ j : Nat, j ≤ m ∧ i = .int .i64 ((j:Int) - 1) ∧ Hid (ErrOO [] wr (o.map (wrapL ((Z.take 30).drop j))) wv) ∧ Below W.heap.size W wr) (fun _ i _ => (intOf i + 1).toNat)
  case atStart =>
    exact ⟨m, Nat.le_refl _, rfl, (show ErrOO [] W (o.map (wrapL ((Z.take 30).drop m))) v by rw [drop_take_full Hzl.out]; have := HV.out; cases o <;> exact this), Below.refl _ _⟩
  case round =>
    obtain ⟨j, hj, rfl, hV, hb⟩ := hrel
    cases j with
    | zero =>
      rw [show ((0 : Nat) : Int) - 1 = -1 from rfl]
      have hV0 : ErrOO [] wr (o.map (wrapL (Z.take 30))) u7 := by have h := hV.out; rwa [List.drop_zero] at h
      clear hV
      cases o with
      | none =>
        have e1 : u7 = .nilIface := hV0
        have e2 : v = .nilIface := HV.out
        subst e1; subst e2
        obtain rfl : N2 = 0 := HN2.out.symm
        have HS0 : Hid (SlR W A2 0 1 []) := HS2.out
        clear HV hV0 HN2 hlo hsz Hsh HS2
        go_wp2_with fail
        go_loopw [8, 10] (fun sv i w2 => sv = .slice none 0 0 ∧ i = .int .i64 0 ∧ Below W.heap.size W w2) (fun _ _ _ => 0)
        case atStart => exact ⟨rfl, rfl, hb⟩
        case round =>
          obtain ⟨rfl, rfl, hb2⟩ := hrel
          by_cases hm0 : 0 < m
          · have hmi : (0 : Int) < (m : Int) := by omega
            have y1 : wr.cell? ⟨B6, 1, none⟩ = some (.slice A2 0 k2) := (hb2.cell (p := ⟨B6, 1, none⟩) (rowAt_lt Hbox.out)).trans (flt_box Hbox.out).2.1
            have ho := Own.nil wr W.heap.size 9 1
            have hs2 : SlR wr A2 0 1 [] := SlR.below HS0.out hb2
            have hq2 := Hq2.out
            go_wp2_with (at_builtin; refine L_appends einfoStr rfl ho rfl hs2 hq2 (by simp) (by omega) (by omega) hb2.size ?_; intro A3 c3 w3 ho3 hk3 hsub3)
            have hb3 := hb2.trans (hk3.below hb2.size (fun y hy => (ho.at_base hy).1))
            have hwant : SlR w3 A3 0 1 (([] : List ByteArray).map strR) := ho3.slr
            have Hwant := Lib.hid hwant
            have Hg3 := Lib.hid (HgW.out.below hb3)
            clear ho hs2 hq2 ho3 hk3 hsub3 hwant y1
            refine (freport_nil _).mono ?_; rintro e w4 ⟨rfl, hb4⟩
            go_wp2_with fail
            refine (freport_nil _).mono ?_; rintro e w5 ⟨rfl, hb5⟩
            have hB1 := bel2 hb4 hb5
            go_wp2_with fail
            refine (fcode_nil _).mono ?_; rintro e wa ⟨rfl, hba⟩
            have hB2 := bel2 hB1 hba
            go_wp2_with fail
            refine (fcode_nil _).mono ?_; rintro e wb ⟨rfl, hbb⟩
            have hB3 := bel2 hB2 hbb
            go_wp2_with fail
            refine (rsame_eq _ none none 0 0 0 0 [] SlR.nil_ SlR.nil_ (by omega) (by omega)).mono ?_; rintro e wc ⟨rfl, hbc⟩
            have hB4 := bel2 hB3 hbc
            go_wp2_with fail
            refine (fops_nil _).mono ?_; rintro e wd ⟨rfl, rfl⟩
            go_wp2_with fail
            refine (rtexts_eq _ none A3 0 0 0 c3 [] SlR.nil_ (SlR.below Hwant.out hB4) (by omega) (by omega)).mono ?_; rintro e we ⟨rfl, hbe⟩
            have hB5 := bel2 hB4 hbe
            go_wp2_with fail
            refine (awake_any _ (Hg3.out.below hB5)).mono ?_; rintro e wf ⟨rfl, hbf⟩
            have hbW9 := bel2 hb3 (bel2 hB5 hbf)
            go_wp2_with fail
            go_ret
            exact ⟨rfl, bel2 hbw hbW9⟩
          · obtain rfl : m = 0 := by omega
            have y1 : wr.cell? ⟨B6, 1, none⟩ = some (.slice A2 0 k2) := (hb2.cell (p := ⟨B6, 1, none⟩) (rowAt_lt Hbox.out)).trans (flt_box Hbox.out).2.1
            have ho := Own.nil wr W.heap.size 9 1
            have hs2 : SlR wr A2 0 1 [] := SlR.below HS0.out hb2
            have hq2 := Hq2.out
            go_wp2_with (at_builtin; refine L_appends einfoStr rfl ho rfl hs2 hq2 (by simp) (by omega) (by omega) hb2.size ?_; intro A3 c3 w3 ho3 hk3 hsub3)
            have hb3 := hb2.trans (hk3.below hb2.size (fun y hy => (ho.at_base hy).1))
            have hwant : SlR w3 A3 0 1 (([] : List ByteArray).map strR) := ho3.slr
            have Hwant := Lib.hid hwant
            have Hg3 := Lib.hid (HgW.out.below hb3)
            clear ho hs2 hq2 ho3 hk3 hsub3 hwant y1
            refine (freport_nil _).mono ?_; rintro e w4 ⟨rfl, hb4⟩
            go_wp2_with fail
            refine (freport_nil _).mono ?_; rintro e w5 ⟨rfl, hb5⟩
            have hB1 := bel2 hb4 hb5
            go_wp2_with fail
            refine (fcode_nil _).mono ?_; rintro e wa ⟨rfl, hba⟩
            have hB2 := bel2 hB1 hba
            go_wp2_with fail
            refine (fcode_nil _).mono ?_; rintro e wb ⟨rfl, hbb⟩
            have hB3 := bel2 hB2 hbb
            go_wp2_with fail
            refine (rsame_eq _ none none 0 0 0 0 [] SlR.nil_ SlR.nil_ (by omega) (by omega)).mono ?_; rintro e wc ⟨rfl, hbc⟩
            have hB4 := bel2 hB3 hbc
            go_wp2_with fail
            refine (fops_nil _).mono ?_; rintro e wd ⟨rfl, rfl⟩
            go_wp2_with fail
            refine (rtexts_eq _ none A3 0 0 0 c3 [] SlR.nil_ (SlR.below Hwant.out hB4) (by omega) (by omega)).mono ?_; rintro e we ⟨rfl, hbe⟩
            have hB5 := bel2 hB4 hbe
            go_wp2_with fail
            refine (awake_any _ (Hg3.out.below hB5)).mono ?_; rintro e wf ⟨rfl, hbf⟩
            have hbW9 := bel2 hb3 (bel2 hB5 hbf)
            go_wp2_with fail
            go_ret
            exact ⟨rfl, bel2 hbw hbW9⟩
      | some t =>
        have hN2l : N2 ≤ 4294967296 := Nat.le_trans hlo hsz
        obtain ⟨d, xx, rfl⟩ := (ErrOut.at_ HV.out : ErrAt W t v).iface
        have HE : Hid (ErrAt W t (.iface d xx)) := ErrOut.at_ HV.out
        obtain ⟨dw, xw, rfl⟩ := (ErrOut.at_ hV0 : ErrAt wr (wrapL (Z.take 30) t) u7).iface
        have HW : Hid (ErrAt wr (wrapL (Z.take 30) t) (.iface dw xw)) := ErrOut.at_ hV0
        clear hV0 HV
        obtain ⟨W5, hW5⟩ : ∃ W5, wr = W5 := ⟨_, rfl⟩
        obtain ⟨B5, hB5⟩ : ∃ B5, W5.heap.size = B5 := ⟨_, rfl⟩
        rw [hW5] at hb HW ⊢
        clear hW5 wr
        have HRb : Hid (∀ R, repOf t = some R → R.length ≤ 1000000000000) := fun R hR => by
          have h1 := rep_head t
          rw [hR] at h1
          have h2 : R ∈ reportsOf t := List.mem_of_head? h1
          have := Hsh.out R h2
          omega
        have HR20 : Hid (∀ R, repOf t = some R → R.length ≤ 20) := fun R hR => by
          have h1 := rep_head t
          rw [hR] at h1
          exact Hsh.out R (List.mem_of_head? h1)
        go_wp2_with fail
        go_loopw [8, 10] (fun sv i w2 => ∃ (k : Nat) (D : Option Addr) (cd : Nat), k ≤ 30 ∧ k ≤ m ∧ i = .int .i64 k ∧ sv = .slice D k cd ∧ Hid (Own w2 B5 9 1 D k cd ((Z.take k).map strR)) ∧ Below B5 W5 w2) (fun _ i _ => 30 - (intOf i).toNat)
        case atStart => exact ⟨0, none, 0, by omega, Nat.zero_le _, rfl, rfl, (show Own _ _ _ _ _ _ _ _ from Own.nil _ _ _ _), hB5 ▸ Below.refl _ _⟩
        case round =>
          obtain ⟨k, D, cd, hk30, hkm, rfl, rfl, hO, hb2⟩ := hrel
          have hbw5 : Below W.heap.size W wr := bel2 hb (hB5.symm ▸ hb2)
          have hBs : B5 ≤ wr.heap.size := by have := hb2.size; omega
          by_cases hgo : k < m ∧ k < 30
          · obtain ⟨hlt, hlt30⟩ := hgo
            have hkz : k < Z.length := by rw [Hzl.out]; exact hlt
            obtain ⟨q, o', rfl, hr⟩ := strsIn_get (SlR.below HzW.out (hbw5)) hlt hkz
            have hZ : Z.take (k + 1) = Z.take k ++ [Z[k]] := by rw [List.take_add_one, List.getElem?_eq_getElem hkz]; rfl
            obtain ⟨s, hs⟩ : ∃ s, Z[k] = s := ⟨_, rfl⟩
            rw [hs] at hr hZ
            have HZ := Lib.hid hZ
            clear hs hZ hkz
            have hba : Below wr.heap.size wr (wr.alloc (.cells #[.string s] 9)) := (Below.refl _ _).alloc (Nat.le_refl _) _
            have ho := hO.out.below hba
            have hBa := hb2.trans (hba.mono hBs)
            have hrow : rowAt (wr.alloc (.cells #[.string s] 9)) wr.heap.size 0 1 = some (strR s) := by simp [go_sem, strR]
            go_wp2_with (at_builtin; refine L_append einfoStr rfl ho rfl hrow (str_one s) (by omega) (by omega) (by simp; omega) ?_; intro A' cap' w3 ho3 hk3 hsub3)
            have hB3 : Below B5 W5 w3 := hBa.trans (hk3.below (by simp; omega) (fun y hy => (ho.at_base hy).1))
            have Ho3 : Hid (Own w3 B5 9 1 A' (k + 1) cap' ((Z.take (k + 1)).map strR)) := by
              show Own _ _ _ _ _ _ _ _
              rw [HZ.out, List.map_append]; exact ho3
            clear ho3 ho hba hBa hrow hk3 hsub3
            go_wp2_with fail
            go_roundw
            case rel => exact ⟨k + 1, A', cap', by omega, by omega, by go_num, rfl, Ho3, hB3⟩
            case measure => (simp [intOf]; try omega)
          · have hb2' : Below B5 W5 wr := hb2
            have Hte := Lib.hid (take_end Hzl.out hk30 hkm hgo)
            by_cases hkn3 : k < m
            · have hk31 : ¬ k < 30 := by omega
              clear hgo
              have y1 : wr.cell? ⟨B6, 1, none⟩ = some (.slice A2 N2 k2) := (hbw5.cell (p := ⟨B6, 1, none⟩) (rowAt_lt Hbox.out)).trans (flt_box Hbox.out).2.1
              have ho := hO.out
              have hs2 : SlR wr A2 N2 1 ((opsOf t).map strR) := SlR.below HS2.out hbw5
              have hq2 := Hq2.out
              go_wp2_with (at_builtin; refine L_appends einfoStr rfl ho rfl hs2 hq2 strs_one (by omega) (by omega) hBs ?_; intro A3 c3 w3 ho3 hk3 hsub3)
              have hb3 : Below B5 W5 w3 := hb2'.trans (hk3.below hBs (fun y hy => (ho.at_base hy).1))
              have hb3' : Below W5.heap.size W5 w3 := hB5.symm ▸ hb3
              have hbW3 := bel2 hb hb3'
              have Hg3 := Lib.hid (HgW.out.below hbW3)
              have ht3 := Lib.hid (HE.out.below hbW3)
              have hw3 := Lib.hid (HW.out.below hb3')
              rw [← List.map_append, Hte.out, ← wrapL_ops] at ho3
              have hlen3 : (opsOf (wrapL (Z.take 30) t)).length = k + N2 := by have := ho3.len; simpa using this
              have Ho3 := Lib.hid ho3
              clear y1 ho hs2 hq2 ho3 hk3 hsub3
              obtain ⟨tw, htw⟩ : ∃ tw, wrapL (Z.take 30) t = tw := ⟨_, rfl⟩
              have hcw : codeOf tw = codeOf t := by rw [← htw, wrapL_code]
              have hrw : repOf tw = repOf t := by rw [← htw, wrapL_rep]
              obtain ⟨N5, hN5⟩ : ∃ N5, k + N2 = N5 := ⟨_, rfl⟩
              have hN5l : N5 ≤ 4294967326 := by omega
              rw [htw] at hw3 hlen3 Ho3
              rw [hN5] at hlen3 Ho3 ⊢
              have Hlen := Lib.hid hlen3
              have Hcw := Lib.hid hcw
              have Hrw := Lib.hid hrw
              clear hlen3 hcw hrw htw hN5
              go_wp2_with fail
              refine (freport t _ _ ht3.out Hg3.out HRb.out).mono ?_; rintro e w4 ⟨hb4, hres⟩
              have Hg4 := Lib.hid (Hg3.out.below hb4)
              have ht4 := Lib.hid (ht3.out.below hb4)
              have hw4 := Lib.hid (hw3.out.below hb4)
              have Ho4 := Lib.hid (Ho3.out.below hb4)
              have hbW4 := bel2 hbW3 hb4
              have cr : Calls Tryd.prog 10 #[.iface dw xw] w4 (RepRes w4 (repOf t)) := Hrw.out ▸ freport tw _ _ hw4.out Hg4.out (Hrw.out.symm ▸ HRb.out)
              cases hr : repOf t with
              | none =>
                rw [hr] at hres cr
                obtain rfl := hres
                clear hr
                go_wp2_with fail
                refine cr.mono ?_; rintro e w5 ⟨hb5, hres⟩
                obtain rfl := hres
                clear cr
                have Hg5 := Lib.hid (Hg4.out.below hb5)
                have ht5 := Lib.hid (ht4.out.below hb5)
                have hw5 := Lib.hid (hw4.out.below hb5)
                have Ho5 := Lib.hid (Ho4.out.below hb5)
                have hbW5 := bel2 hbW4 hb5
                have hsm : ∀ W', Below w5.heap.size w5 W' → Calls Tryd.prog 11 #[.slice none 0 0, .slice none 0 0] W' fun e w' => e = .returned (.bool true) ∧ Below W'.heap.size W' w' := fun W' hb =>
                  rsame_eq W' none none 0 0 0 0 [] SlR.nil_ SlR.nil_ (by omega) (by omega)
                have Hsm := Lib.hid hsm
                clear hsm
                go_upto_region 16 with fail
                obtain ⟨cc, hcc⟩ : ∃ cc, codeOf t = cc := ⟨_, rfl⟩
                have hcW : ∀ W', Below w5.heap.size w5 W' → Calls Tryd.prog 13 #[.iface dw xw] W' fun e w' => e = .returned (.int .i64 cc) ∧ Below W'.heap.size W' w' := fun W' hb =>
                  (fcode tw _ W' (hw5.out.below hb) (Hg5.out.below hb)).mono fun e w' ⟨he, h⟩ => ⟨by rw [he, Hcw.out, hcc], h⟩
                have hcE : ∀ W', Below w5.heap.size w5 W' → Calls Tryd.prog 13 #[.iface d xx] W' fun e w' => e = .returned (.int .i64 cc) ∧ Below W'.heap.size W' w' := fun W' hb =>
                  (fcode t _ W' (ht5.out.below hb) (Hg5.out.below hb)).mono fun e w' ⟨he, h⟩ => ⟨by rw [he, hcc], h⟩
                have hoP : ∀ W', Below w5.heap.size w5 W' → Calls Tryd.prog 15 #[.iface dw xw] W' fun e w' => ∃ A8 cap8, e = .returned (.slice A8 N5 cap8) ∧ SlR w' A8 N5 1 ((opsOf tw).map strR) ∧ Below W'.heap.size W' w' := fun W' hb =>
                  (fops tw _ W' (hw5.out.below hb) (by rw [Hlen.out]; omega)).mono fun e w' ⟨A8, cap8, he, h, hb'⟩ => ⟨A8, cap8, by rw [he, Hlen.out], by have := h.slr; rwa [Hlen.out] at this, hb'⟩
                have HcW := Lib.hid hcW; have HcE := Lib.hid hcE; have HoP := Lib.hid hoP
                have Hwant := Lib.hid Ho5.out.slr
                clear hcW hcE hoP hcc
                go_wp2_with fail
                refine (HcW.out _ (Below.refl _ _)).mono ?_; rintro e wa ⟨rfl, hB1⟩
                go_wp2_with fail
                refine (HcE.out _ hB1).mono ?_; rintro e wb ⟨rfl, hbb⟩
                have hB2 := bel2 hB1 hbb
                go_wp2_with fail
                refine (Hsm.out _ hB2).mono ?_; rintro e wc ⟨rfl, hbc⟩
                have hB3 := bel2 hB2 hbc
                go_wp2_with fail
                refine (HoP.out _ hB3).mono ?_; rintro e wd ⟨A8, cap8, rfl, hown8, hbd⟩
                have hB4 := bel2 hB3 hbd
                go_wp2_with fail
                refine (rtexts_eq _ _ _ _ _ _ _ _ hown8 (SlR.below Hwant.out hB4) (by omega) (by omega)).mono ?_; rintro e we ⟨rfl, hbe⟩
                have hB5' := bel2 hB4 hbe
                go_wp2_with fail
                refine (awake_any _ (Hg5.out.below hB5')).mono ?_; rintro e wf ⟨rfl, hbf⟩
                have hbW9 := bel2 hbW5 (bel2 hB5' hbf)
                go_wp2_with fail
                go_ret
                exact ⟨rfl, bel2 hbw hbW9⟩
              | some R =>
                rw [hr] at hres cr
                obtain ⟨A4, n4, cap4, rfl, hown4, hn4⟩ := hres
                have hl4 : R.length = n4 := by simpa using hown4.len
                have hR20 := HR20.out R hr
                have hids4 := hown4.slr
                clear hr
                have hl4H := Lib.hid hl4
                clear hl4
                go_wp2_with fail
                refine cr.mono ?_; rintro e w5 ⟨hb5, hres⟩
                obtain ⟨A6, n6, cap6, rfl, hown6, hn6⟩ := hres
                have hl6 : R.length = n6 := by simpa using hown6.len
                have hl6H := Lib.hid hl6
                clear cr hl6
                have Hg5 := Lib.hid (Hg4.out.below hb5)
                have ht5 := Lib.hid (ht4.out.below hb5)
                have hw5 := Lib.hid (hw4.out.below hb5)
                have Ho5 := Lib.hid (Ho4.out.below hb5)
                have hbW5 := bel2 hbW4 hb5
                have hids5 := SlR.below hids4 hb5
                have hids6 := hown6.slr
                have hsm : ∀ W', Below w5.heap.size w5 W' → Calls Tryd.prog 11 #[.slice A4 n4 cap4, .slice A6 n6 cap6] W' fun e w' => e = .returned (.bool true) ∧ Below W'.heap.size W' w' := fun W' hb =>
                  rsame_eq W' _ _ _ _ _ _ R (SlR.below hids5 hb) (SlR.below hids6 hb) (by rw [← hl4H.out]; omega) (by rw [← hl6H.out]; omega)
                have Hsm := Lib.hid hsm
                clear hsm hids4 hids5 hids6 hown4 hown6
                go_upto_region 16 with fail
                obtain ⟨cc, hcc⟩ : ∃ cc, codeOf t = cc := ⟨_, rfl⟩
                have hcW : ∀ W', Below w5.heap.size w5 W' → Calls Tryd.prog 13 #[.iface dw xw] W' fun e w' => e = .returned (.int .i64 cc) ∧ Below W'.heap.size W' w' := fun W' hb =>
                  (fcode tw _ W' (hw5.out.below hb) (Hg5.out.below hb)).mono fun e w' ⟨he, h⟩ => ⟨by rw [he, Hcw.out, hcc], h⟩
                have hcE : ∀ W', Below w5.heap.size w5 W' → Calls Tryd.prog 13 #[.iface d xx] W' fun e w' => e = .returned (.int .i64 cc) ∧ Below W'.heap.size W' w' := fun W' hb =>
                  (fcode t _ W' (ht5.out.below hb) (Hg5.out.below hb)).mono fun e w' ⟨he, h⟩ => ⟨by rw [he, hcc], h⟩
                have hoP : ∀ W', Below w5.heap.size w5 W' → Calls Tryd.prog 15 #[.iface dw xw] W' fun e w' => ∃ A8 cap8, e = .returned (.slice A8 N5 cap8) ∧ SlR w' A8 N5 1 ((opsOf tw).map strR) ∧ Below W'.heap.size W' w' := fun W' hb =>
                  (fops tw _ W' (hw5.out.below hb) (by rw [Hlen.out]; omega)).mono fun e w' ⟨A8, cap8, he, h, hb'⟩ => ⟨A8, cap8, by rw [he, Hlen.out], by have := h.slr; rwa [Hlen.out] at this, hb'⟩
                have HcW := Lib.hid hcW; have HcE := Lib.hid hcE; have HoP := Lib.hid hoP
                have Hwant := Lib.hid Ho5.out.slr
                clear hcW hcE hoP hcc
                go_wp2_with fail
                refine (HcW.out _ (Below.refl _ _)).mono ?_; rintro e wa ⟨rfl, hB1⟩
                go_wp2_with fail
                refine (HcE.out _ hB1).mono ?_; rintro e wb ⟨rfl, hbb⟩
                have hB2 := bel2 hB1 hbb
                go_wp2_with fail
                refine (Hsm.out _ hB2).mono ?_; rintro e wc ⟨rfl, hbc⟩
                have hB3 := bel2 hB2 hbc
                go_wp2_with fail
                refine (HoP.out _ hB3).mono ?_; rintro e wd ⟨A8, cap8, rfl, hown8, hbd⟩
                have hB4 := bel2 hB3 hbd
                go_wp2_with fail
                refine (rtexts_eq _ _ _ _ _ _ _ _ hown8 (SlR.below Hwant.out hB4) (by omega) (by omega)).mono ?_; rintro e we ⟨rfl, hbe⟩
                have hB5' := bel2 hB4 hbe
                go_wp2_with fail
                refine (awake_any _ (Hg5.out.below hB5')).mono ?_; rintro e wf ⟨rfl, hbf⟩
                have hbW9 := bel2 hbW5 (bel2 hB5' hbf)
                go_wp2_with fail
                go_ret
                exact ⟨rfl, bel2 hbw hbW9⟩
            · clear hgo
              have y1 : wr.cell? ⟨B6, 1, none⟩ = some (.slice A2 N2 k2) := (hbw5.cell (p := ⟨B6, 1, none⟩) (rowAt_lt Hbox.out)).trans (flt_box Hbox.out).2.1
              have ho := hO.out
              have hs2 : SlR wr A2 N2 1 ((opsOf t).map strR) := SlR.below HS2.out hbw5
              have hq2 := Hq2.out
              go_wp2_with (at_builtin; refine L_appends einfoStr rfl ho rfl hs2 hq2 strs_one (by omega) (by omega) hBs ?_; intro A3 c3 w3 ho3 hk3 hsub3)
              have hb3 : Below B5 W5 w3 := hb2'.trans (hk3.below hBs (fun y hy => (ho.at_base hy).1))
              have hb3' : Below W5.heap.size W5 w3 := hB5.symm ▸ hb3
              have hbW3 := bel2 hb hb3'
              have Hg3 := Lib.hid (HgW.out.below hbW3)
              have ht3 := Lib.hid (HE.out.below hbW3)
              have hw3 := Lib.hid (HW.out.below hb3')
              rw [← List.map_append, Hte.out, ← wrapL_ops] at ho3
              have hlen3 : (opsOf (wrapL (Z.take 30) t)).length = k + N2 := by have := ho3.len; simpa using this
              have Ho3 := Lib.hid ho3
              clear y1 ho hs2 hq2 ho3 hk3 hsub3
              obtain ⟨tw, htw⟩ : ∃ tw, wrapL (Z.take 30) t = tw := ⟨_, rfl⟩
              have hcw : codeOf tw = codeOf t := by rw [← htw, wrapL_code]
              have hrw : repOf tw = repOf t := by rw [← htw, wrapL_rep]
              obtain ⟨N5, hN5⟩ : ∃ N5, k + N2 = N5 := ⟨_, rfl⟩
              have hN5l : N5 ≤ 4294967326 := by omega
              rw [htw] at hw3 hlen3 Ho3
              rw [hN5] at hlen3 Ho3 ⊢
              have Hlen := Lib.hid hlen3
              have Hcw := Lib.hid hcw
              have Hrw := Lib.hid hrw
              clear hlen3 hcw hrw htw hN5
              go_wp2_with fail
              refine (freport t _ _ ht3.out Hg3.out HRb.out).mono ?_; rintro e w4 ⟨hb4, hres⟩
              have Hg4 := Lib.hid (Hg3.out.below hb4)
              have ht4 := Lib.hid (ht3.out.below hb4)
              have hw4 := Lib.hid (hw3.out.below hb4)
              have Ho4 := Lib.hid (Ho3.out.below hb4)
              have hbW4 := bel2 hbW3 hb4
              have cr : Calls Tryd.prog 10 #[.iface dw xw] w4 (RepRes w4 (repOf t)) := Hrw.out ▸ freport tw _ _ hw4.out Hg4.out (Hrw.out.symm ▸ HRb.out)
              cases hr : repOf t with
              | none =>
                rw [hr] at hres cr
                obtain rfl := hres
                clear hr
                go_wp2_with fail
                refine cr.mono ?_; rintro e w5 ⟨hb5, hres⟩
                obtain rfl := hres
                clear cr
                have Hg5 := Lib.hid (Hg4.out.below hb5)
                have ht5 := Lib.hid (ht4.out.below hb5)
                have hw5 := Lib.hid (hw4.out.below hb5)
                have Ho5 := Lib.hid (Ho4.out.below hb5)
                have hbW5 := bel2 hbW4 hb5
                have hsm : ∀ W', Below w5.heap.size w5 W' → Calls Tryd.prog 11 #[.slice none 0 0, .slice none 0 0] W' fun e w' => e = .returned (.bool true) ∧ Below W'.heap.size W' w' := fun W' hb =>
                  rsame_eq W' none none 0 0 0 0 [] SlR.nil_ SlR.nil_ (by omega) (by omega)
                have Hsm := Lib.hid hsm
                clear hsm
                go_upto_region 16 with fail
                obtain ⟨cc, hcc⟩ : ∃ cc, codeOf t = cc := ⟨_, rfl⟩
                have hcW : ∀ W', Below w5.heap.size w5 W' → Calls Tryd.prog 13 #[.iface dw xw] W' fun e w' => e = .returned (.int .i64 cc) ∧ Below W'.heap.size W' w' := fun W' hb =>
                  (fcode tw _ W' (hw5.out.below hb) (Hg5.out.below hb)).mono fun e w' ⟨he, h⟩ => ⟨by rw [he, Hcw.out, hcc], h⟩
                have hcE : ∀ W', Below w5.heap.size w5 W' → Calls Tryd.prog 13 #[.iface d xx] W' fun e w' => e = .returned (.int .i64 cc) ∧ Below W'.heap.size W' w' := fun W' hb =>
                  (fcode t _ W' (ht5.out.below hb) (Hg5.out.below hb)).mono fun e w' ⟨he, h⟩ => ⟨by rw [he, hcc], h⟩
                have hoP : ∀ W', Below w5.heap.size w5 W' → Calls Tryd.prog 15 #[.iface dw xw] W' fun e w' => ∃ A8 cap8, e = .returned (.slice A8 N5 cap8) ∧ SlR w' A8 N5 1 ((opsOf tw).map strR) ∧ Below W'.heap.size W' w' := fun W' hb =>
                  (fops tw _ W' (hw5.out.below hb) (by rw [Hlen.out]; omega)).mono fun e w' ⟨A8, cap8, he, h, hb'⟩ => ⟨A8, cap8, by rw [he, Hlen.out], by have := h.slr; rwa [Hlen.out] at this, hb'⟩
                have HcW := Lib.hid hcW; have HcE := Lib.hid hcE; have HoP := Lib.hid hoP
                have Hwant := Lib.hid Ho5.out.slr
                clear hcW hcE hoP hcc
                go_wp2_with fail
                refine (HcW.out _ (Below.refl _ _)).mono ?_; rintro e wa ⟨rfl, hB1⟩
                go_wp2_with fail
                refine (HcE.out _ hB1).mono ?_; rintro e wb ⟨rfl, hbb⟩
                have hB2 := bel2 hB1 hbb
                go_wp2_with fail
                refine (Hsm.out _ hB2).mono ?_; rintro e wc ⟨rfl, hbc⟩
                have hB3 := bel2 hB2 hbc
                go_wp2_with fail
                refine (HoP.out _ hB3).mono ?_; rintro e wd ⟨A8, cap8, rfl, hown8, hbd⟩
                have hB4 := bel2 hB3 hbd
                go_wp2_with fail
                refine (rtexts_eq _ _ _ _ _ _ _ _ hown8 (SlR.below Hwant.out hB4) (by omega) (by omega)).mono ?_; rintro e we ⟨rfl, hbe⟩
                have hB5' := bel2 hB4 hbe
                go_wp2_with fail
                refine (awake_any _ (Hg5.out.below hB5')).mono ?_; rintro e wf ⟨rfl, hbf⟩
                have hbW9 := bel2 hbW5 (bel2 hB5' hbf)
                go_wp2_with fail
                go_ret
                exact ⟨rfl, bel2 hbw hbW9⟩
              | some R =>
                rw [hr] at hres cr
                obtain ⟨A4, n4, cap4, rfl, hown4, hn4⟩ := hres
                have hl4 : R.length = n4 := by simpa using hown4.len
                have hR20 := HR20.out R hr
                have hids4 := hown4.slr
                clear hr
                have hl4H := Lib.hid hl4
                clear hl4
                go_wp2_with fail
                refine cr.mono ?_; rintro e w5 ⟨hb5, hres⟩
                obtain ⟨A6, n6, cap6, rfl, hown6, hn6⟩ := hres
                have hl6 : R.length = n6 := by simpa using hown6.len
                have hl6H := Lib.hid hl6
                clear cr hl6
                have Hg5 := Lib.hid (Hg4.out.below hb5)
                have ht5 := Lib.hid (ht4.out.below hb5)
                have hw5 := Lib.hid (hw4.out.below hb5)
                have Ho5 := Lib.hid (Ho4.out.below hb5)
                have hbW5 := bel2 hbW4 hb5
                have hids5 := SlR.below hids4 hb5
                have hids6 := hown6.slr
                have hsm : ∀ W', Below w5.heap.size w5 W' → Calls Tryd.prog 11 #[.slice A4 n4 cap4, .slice A6 n6 cap6] W' fun e w' => e = .returned (.bool true) ∧ Below W'.heap.size W' w' := fun W' hb =>
                  rsame_eq W' _ _ _ _ _ _ R (SlR.below hids5 hb) (SlR.below hids6 hb) (by rw [← hl4H.out]; omega) (by rw [← hl6H.out]; omega)
                have Hsm := Lib.hid hsm
                clear hsm hids4 hids5 hids6 hown4 hown6
                go_upto_region 16 with fail
                obtain ⟨cc, hcc⟩ : ∃ cc, codeOf t = cc := ⟨_, rfl⟩
                have hcW : ∀ W', Below w5.heap.size w5 W' → Calls Tryd.prog 13 #[.iface dw xw] W' fun e w' => e = .returned (.int .i64 cc) ∧ Below W'.heap.size W' w' := fun W' hb =>
                  (fcode tw _ W' (hw5.out.below hb) (Hg5.out.below hb)).mono fun e w' ⟨he, h⟩ => ⟨by rw [he, Hcw.out, hcc], h⟩
                have hcE : ∀ W', Below w5.heap.size w5 W' → Calls Tryd.prog 13 #[.iface d xx] W' fun e w' => e = .returned (.int .i64 cc) ∧ Below W'.heap.size W' w' := fun W' hb =>
                  (fcode t _ W' (ht5.out.below hb) (Hg5.out.below hb)).mono fun e w' ⟨he, h⟩ => ⟨by rw [he, hcc], h⟩
                have hoP : ∀ W', Below w5.heap.size w5 W' → Calls Tryd.prog 15 #[.iface dw xw] W' fun e w' => ∃ A8 cap8, e = .returned (.slice A8 N5 cap8) ∧ SlR w' A8 N5 1 ((opsOf tw).map strR) ∧ Below W'.heap.size W' w' := fun W' hb =>
                  (fops tw _ W' (hw5.out.below hb) (by rw [Hlen.out]; omega)).mono fun e w' ⟨A8, cap8, he, h, hb'⟩ => ⟨A8, cap8, by rw [he, Hlen.out], by have := h.slr; rwa [Hlen.out] at this, hb'⟩
                have HcW := Lib.hid hcW; have HcE := Lib.hid hcE; have HoP := Lib.hid hoP
                have Hwant := Lib.hid Ho5.out.slr
                clear hcW hcE hoP hcc
                go_wp2_with fail
                refine (HcW.out _ (Below.refl _ _)).mono ?_; rintro e wa ⟨rfl, hB1⟩
                go_wp2_with fail
                refine (HcE.out _ hB1).mono ?_; rintro e wb ⟨rfl, hbb⟩
                have hB2 := bel2 hB1 hbb
                go_wp2_with fail
                refine (Hsm.out _ hB2).mono ?_; rintro e wc ⟨rfl, hbc⟩
                have hB3 := bel2 hB2 hbc
                go_wp2_with fail
                refine (HoP.out _ hB3).mono ?_; rintro e wd ⟨A8, cap8, rfl, hown8, hbd⟩
                have hB4 := bel2 hB3 hbd
                go_wp2_with fail
                refine (rtexts_eq _ _ _ _ _ _ _ _ hown8 (SlR.below Hwant.out hB4) (by omega) (by omega)).mono ?_; rintro e we ⟨rfl, hbe⟩
                have hB5' := bel2 hB4 hbe
                go_wp2_with fail
                refine (awake_any _ (Hg5.out.below hB5')).mono ?_; rintro e wf ⟨rfl, hbf⟩
                have hbW9 := bel2 hbW5 (bel2 hB5' hbf)
                go_wp2_with fail
                go_ret
                exact ⟨rfl, bel2 hbw hbW9⟩
    | succ k =>
      have hk : k < m := hj
      have e : ((k + 1 : Nat) : Int) - 1 = (k : Int) := by omega
      rw [e]
      clear e
      by_cases h30 : k < 30
      · have hkz : k < Z.length := by rw [Hzl.out]; exact hk
        obtain ⟨q, o', rfl, hr⟩ := strsIn_get (SlR.below HzW.out hb) hk hkz
        have hZ := drop_take_cons hkz h30
        obtain ⟨s, hs⟩ : ∃ s, Z[k] = s := ⟨_, rfl⟩
        rw [hs] at hr hZ
        have HZ := Lib.hid hZ
        clear hs hZ hkz
        go_wp2_with fail
        refine (wrap_oo [] s _ _ wr hV.out (by simp)).mono ?_; rintro e w2 ⟨v', rfl, hv', hb2⟩
        have hv3 : Hid (ErrOO [] w2 (o.map (wrapL ((Z.take 30).drop k))) v') := by
          rw [HZ.out, ← map_wrapL]; exact hv'
        clear hv'
        go_wp2_with fail
        go_roundw
        case rel => exact ⟨k, by omega, by go_num, hv3, bel2 hb hb2⟩
        case measure => (simp [intOf]; try omega)
      · have hv3 : Hid (ErrOO [] wr (o.map (wrapL ((Z.take 30).drop k))) u7) := by
          have h := hV.out
          rw [drop_take_high (by omega)] at h
          show ErrOO _ _ _ _
          rw [drop_take_high (by omega)]; exact h
        go_wp2_with fail
        go_roundw
        case rel => exact ⟨k, by omega, by go_num, hv3, hb⟩
        case measure => (simp [intOf]; try omega)

end Go.Proofs.YtiihicmodohaeaaDoor
