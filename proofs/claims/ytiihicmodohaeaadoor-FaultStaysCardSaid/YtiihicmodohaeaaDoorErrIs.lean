/- Package errors: Is, asked for a number; package fault: Is. -/
import Derived.Test.YtiihicmodohaeaaDoorFaultN
namespace Go.Proofs.YtiihicmodohaeaaDoor
open Go.RowKit Go.Extern.Stop Go.Stop Go.Extern

@[go_sem ↓] theorem eqErr_n (a b : Int) (w : World) : (binOp .eql 26 (.iface 42 (.int .i64 a)) (.iface 42 (.int .i64 b))).run Tryd.prog w = .ok (.bool (a == b)) w := by
  have hi : (Tryd.prog.info? 42).map (·.comparable) = some true := by kernel_rfl
  obtain ⟨i, hi, hc⟩ := Option.map_eq_some_iff.1 hi
  have h : ∀ d : Nat, (Op.equalIn (d + 2) 26 (.iface 42 (.int .i64 a)) (.iface 42 (.int .i64 b))).run Tryd.prog w = .ok (a == b) w := fun d => by
    simp [Op.equalIn, run_underlying Tryd.underlying26, run_underlying Tryd.underlying42, typeInfo, hi, hc]
  simp only [binOp]
  simp [Op.equal, Op.maxDepth, h 9998]
theorem eqErr_o (d : TypeId) (hd : d ≠ 42) (v u : Value) (w : World) : (binOp .eql 26 (.iface d v) (.iface 42 u)).run Tryd.prog w = .ok (.bool false) w :=
  run_eql_iface_types (P := Tryd.prog) d 42 v u Tryd.underlying26 hd w
def compF : Array Value → Sem Value := ReflectliteType.method fun t => do Rtype.noPackHeld "Comparable" t; pure (.bool (← typeInfo t).comparable)
theorem compN (w : World) : (compF #[.agg #[.pointer (some ⟨1, 42, none⟩)]]).run Tryd.prog w = .ok (.bool true) w := by kernel_rfl

set_option maxRecDepth 100000 in
set_option maxHeartbeats 4000000 in
theorem is_any (n : Int) : ∀ (sz : Nat) (t : ErrT), t.sz ≤ sz → ∀ (v : Value) (w : World), ErrAt w t v →
    Calls Tryd.prog 32 #[v, .iface 42 (.int .i64 n), .bool true] w fun e w' => e = .returned (.bool (isOf n t)) ∧ Below w.heap.size w w'
  | 0, t, hsz, v, w, ht => by cases t <;> simp [ErrT.sz] at hsz
  | sz + 1, t, hsz, v, w, ht => by
    have ih := is_any n sz
    have Hih := Lib.hid ih
    have Hsz := Lib.hid hsz
    clear ih hsz
    go_enter Tryd.func32, Tryd.ntmps32
    go_wp2_with fail
    go_loopg [0] t.sz (fun k v' wr => ∃ t', t'.sz ≤ k ∧ t'.sz ≤ t.sz ∧ ErrAt wr t' v' ∧ Hid (isOf n t' = isOf n t) ∧ Below w.heap.size w wr)
    case atStart => exact ⟨t, Nat.le_refl _, Nat.le_refl _, ht, (show _ = _ from rfl), (Below.refl _ _)⟩
    case round =>
      clear ht
      obtain ⟨t', hk, hkt, ht', hrt, hbw⟩ := hrel
      cases t' with
      | num e =>
        obtain ⟨he, rfl⟩ := ht'
        have n1 := noIs_n; have n2 := noU_n; have n3 := noUs_n
        have hi : isOf n t = (e == n) := hrt.out.symm
        cases heb : (e == n) with
        | true =>
          rw [heb] at hi
          have Hi := Lib.hid hi
          clear hi hrt
          go_wp2_with fail
          go_ret
          exact ⟨ret_bool (by rw [Hi.out]), hbw⟩
        | false =>
          rw [heb] at hi
          have Hi := Lib.hid hi
          clear hi hrt
          go_wp2_with fail
          go_ret
          exact ⟨ret_bool (by rw [Hi.out]), hbw⟩
      | rep ids =>
        obtain ⟨g, A, m, cap, rfl, hg, hs, hn⟩ := ht'
        have eo := eqErr_o 53 (by decide)
        have n1 := noIs_r; have n2 := hasU_r; have mU := methUr
        clear hg hs hn
        go_wp2_with fail
        refine (unwrap_r g _).mono ?_; rintro e w2 ⟨rfl, rfl⟩
        go_wp2_with fail
        have hk2 : 2 ≤ gk := hk
        have hkt2 : 2 ≤ t.sz := hkt
        go_roundg 1
        case measure => omega
        case rel => exact ⟨.num 16, Nat.le_refl _, by show 1 ≤ t.sz; omega, ⟨by decide, rfl⟩, hrt, hbw⟩
      | wrap op t2 =>
        obtain ⟨g, u, rfl, hg, hu⟩ := ht'
        obtain ⟨d, x, rfl⟩ := hu.iface
        have eo := eqErr_o 57 (by decide)
        have n1 := noIs_w; have n2 := hasU_w; have mU := methUw
        go_wp2_with fail
        refine (unwrap_w g op _ ⟨d, x, rfl⟩ _ hg).mono ?_; rintro e w2 ⟨rfl, rfl⟩
        go_wp2_with fail
        have hk2 : t2.sz + 1 ≤ gk := hk
        have hkt2 : t2.sz + 1 ≤ t.sz := hkt
        go_roundg t2.sz
        case measure => omega
        case rel => exact ⟨t2, Nat.le_refl _, by omega, hu, hrt, hbw⟩
      | both a b =>
        obtain ⟨g, u1, u2, rfl, hg, hu1, hu2⟩ := ht'
        obtain ⟨d1, x1, rfl⟩ := hu1.iface
        obtain ⟨d2, x2, rfl⟩ := hu2.iface
        have eo := eqErr_o 71 (by decide)
        have n1 := noIs_b; have n2 := noU_b; have n3 := hasUs_b; have mU := methUb
        go_wp2_with fail
        refine (unwrap_b g _ _ ⟨d1, x1, rfl⟩ ⟨d2, x2, rfl⟩ _ hg).mono ?_; rintro e w2 ⟨g2, rfl, k1, k2, hb2⟩
        have hsz3 : a.sz + b.sz + 1 ≤ sz + 1 := Nat.le_trans hkt Hsz.out
        have hrt2 : (isOf n a || isOf n b) = isOf n t := hrt.out
        have Hrt := Lib.hid hrt2
        clear hrt2 hrt
        have hbw2 := bel2 hbw hb2
        have ha2 := hu1.below hb2
        have hb2' := hu2.below hb2
        clear hu1 hu2 hb2 hbw eo
        go_wp2_with fail
        refine wp_loop_rounds 3 ?_
        rw [rounds_succ]
        go_wp2_with fail
        refine (Hih.out a (by omega) _ _ ha2).mono ?_; rintro e w3 ⟨rfl, hb3⟩
        have hb3' := hb2'.below hb3
        have k2' := (hb3.cell (p := ⟨g2, 1, none⟩) (World.block_lt_of_cell? w2 _ k2)).trans k2
        have hbw3 := bel2 hbw2 hb3
        cases hra : isOf n a with
        | true =>
          have hrt3 : isOf n t = true := by rw [← Hrt.out, hra]; rfl
          have Hrt3 := Lib.hid hrt3
          clear hrt3 hra
          go_wp2_with fail
          go_ret
          exact ⟨ret_bool (by rw [Hrt3.out]), hbw3⟩
        | false =>
          have hrt3 : isOf n t = isOf n b := by rw [← Hrt.out, hra]; rfl
          have Hrt3 := Lib.hid hrt3
          clear hrt3 hra hb2' ha2 k1 k2 hbw2 hb3
          go_wp2_with fail
          rw [rounds_succ]
          go_wp2_with fail
          refine (Hih.out b (by omega) _ _ hb3').mono ?_; rintro e w4 ⟨rfl, hb4⟩
          have hbw4 := bel2 hbw3 hb4
          cases hrb : isOf n b with
          | true =>
            have hrt4 : isOf n t = true := by rw [Hrt3.out, hrb]
            have Hrt4 := Lib.hid hrt4
            clear hrt4 hrb
            go_wp2_with fail
            go_ret
            exact ⟨ret_bool (by rw [Hrt4.out]), hbw4⟩
          | false =>
            have hrt4 : isOf n t = false := by rw [Hrt3.out, hrb]
            have Hrt4 := Lib.hid hrt4
            clear hrt4 hrb
            go_wp2_with fail
            rw [rounds_succ]
            go_wp2_with fail
            go_ret
            exact ⟨ret_bool (by rw [Hrt4.out]), hbw4⟩

set_option maxRecDepth 100000 in
theorem eIs_any (n : Int) (t : ErrT) (v : Value) (w : World) (ht : ErrAt w t v) : Calls Tryd.prog 26 #[v, .iface 42 (.int .i64 n)] w fun e w' => e = .returned (.bool (isOf n t)) ∧ Below w.heap.size w w' := by
  have hTO := @run_callFunc_extern Tryd.prog 31 _ ReflectliteType.typeOf Tryd.func31 (by kernel_rfl) (by kernel_rfl) (by kernel_rfl) (by kernel_rfl)
  have hCO := @run_callFunc_extern Tryd.prog 64 _ compF Tryd.func64 (by kernel_rfl) (by kernel_rfl) (by kernel_rfl) (by kernel_rfl)
  have tO := typeOf_n
  have mC := methComp
  have cN := compN
  have c0 := is_any n t.sz t (Nat.le_refl _) v w ht
  obtain ⟨d, x, rfl⟩ := ht.iface
  clear ht
  go_enter Tryd.func26, Tryd.ntmps26
  go_wp2_with fail
  refine c0.mono ?_; rintro e w1 ⟨rfl, hb1⟩
  go_wp2_with fail
  go_ret
  exact ⟨rfl, hb1⟩
theorem fis_zero (t : ErrT) (v : Value) (w : World) (ht : ErrAt w t v) : Calls Tryd.prog 16 #[v, .int .i64 0] w fun e w' => e = .returned (.bool false) ∧ w = w' := by
  obtain ⟨d, x, rfl⟩ := ht.iface
  clear ht
  go_enter Tryd.func16, Tryd.ntmps16
  go_wp2_with fail
  go_ret
  exact ⟨rfl, rfl⟩
theorem fis_some (n : Int) (hn : n ≠ 0) (t : ErrT) (v : Value) (w : World) (ht : ErrAt w t v) : Calls Tryd.prog 16 #[v, .int .i64 n] w fun e w' => e = .returned (.bool (isOf n t)) ∧ Below w.heap.size w w' := by
  have h : (n == 0) = false := by simpa using hn
  have c0 := eIs_any n t v w ht
  obtain ⟨d, x, rfl⟩ := ht.iface
  clear ht
  go_enter Tryd.func16, Tryd.ntmps16
  go_wp2_with fail
  refine c0.mono ?_; rintro e w' ⟨rfl, hb⟩
  go_wp2_with fail
  go_ret
  exact ⟨rfl, hb⟩

end Go.Proofs.YtiihicmodohaeaaDoor
