/- Package errors: As, asked for a number. -/
import Derived.Test.YtiihicmodohaeaaDoorErrS
namespace Go.Proofs.YtiihicmodohaeaaDoor
open Go.RowKit Go.Extern.Stop Go.Stop Go.Extern

/-- What errors.as leaves, asked for a number. -/
def AsN (w : World) (p : Nat) (t : ErrT) (e : Ending) (w' : World) : Prop :=
  e = .returned (.bool true) ∧ Keep [p] w w' ∧ w'.heap[p]? = some (.cells #[.int .i64 (codeOf t)] 42 (0, 0))

set_option maxRecDepth 100000 in
set_option maxHeartbeats 4000000 in
theorem as_num : ∀ (sz : Nat) (t : ErrT), t.sz ≤ sz → ∀ (v : Value) (w : World) (bx p : Nat), ErrAt w t v → w.cell? ⟨bx, 0, none⟩ = some (.pointer (some ⟨p, 0, none⟩)) → w.heap[p]? = some (.cells #[.int .i64 0] 42 (0, 0)) →
    Calls Tryd.prog 30 #[v, .iface 70 (.pointer (some ⟨p, 0, none⟩)), .agg #[.pointer (some ⟨1, 70, none⟩), .pointer (some ⟨bx, 0, none⟩), .int .u64 150], .iface 90 (.agg #[.pointer (some ⟨1, 42, none⟩)])] w (AsN w p t)
  | 0, t, hsz, v, w, bx, p, ht, hbx, hp => by cases t <;> simp [ErrT.sz] at hsz
  | sz + 1, t, hsz, v, w, bx, p, ht, hbx, hp => by
    have ih := as_num sz
    have hTO := @run_callFunc_extern Tryd.prog 31 _ ReflectliteType.typeOf Tryd.func31 (by kernel_rfl) (by kernel_rfl) (by kernel_rfl) (by kernel_rfl)
    have hAT := @run_callFunc_extern Tryd.prog 63 _ (ReflectliteType.relation "AssignableTo" ReflectliteType.assignableTo) Tryd.func63 (by kernel_rfl) (by kernel_rfl) (by kernel_rfl) (by kernel_rfl)
    have hVO := @run_callFunc_extern Tryd.prog 27 _ (fun args => ReflectliteValue.unpack (args.getD 0 (.tuple #[]))) Tryd.func27 (by kernel_rfl) (by kernel_rfl) (by kernel_rfl) (by kernel_rfl)
    have hEL := @run_callFunc_extern Tryd.prog 33 _ (ReflectliteValue.method (ReflectliteValue.valueError "reflectlite.Value.Elem" 0) ReflectliteValue.elem) Tryd.func33 (by kernel_rfl) (by kernel_rfl) (by kernel_rfl) (by kernel_rfl)
    have hST := @run_callFunc_extern Tryd.prog 34 _ ReflectliteValue.set Tryd.func34 (by kernel_rfl) (by kernel_rfl) (by kernel_rfl) (by kernel_rfl)
    have mA := methAssign
    have hW : Below w.heap.size w (w.alloc (.cells #[.pointer (some ⟨1, 70, none⟩), .pointer (some ⟨bx, 0, none⟩), .int .u64 150] 78)) := (Below.refl _ _).alloc (Nat.le_refl _) _
    have ht1 := ht.below hW
    have hp1 := (hW.block p (heap_lt hp)).trans hp
    have hbx1 := (hW.cell (p := ⟨bx, 0, none⟩) (World.block_lt_of_cell? w _ hbx)).trans hbx
    have hrow : rowAt (w.alloc (.cells #[.pointer (some ⟨1, 70, none⟩), .pointer (some ⟨bx, 0, none⟩), .int .u64 150] 78)) w.heap.size 0 3 = some #[.pointer (some ⟨1, 70, none⟩), .pointer (some ⟨bx, 0, none⟩), .int .u64 150] := by simp [go_sem]
    have Hih := Lib.hid ih
    have Hsz := Lib.hid hsz
    clear ih hsz
    go_enter Tryd.func30, Tryd.ntmps30
    go_wp2_with fail
    go_loopg [0] t.sz (fun k v' wr => ∃ t', t'.sz ≤ k ∧ t'.sz ≤ t.sz ∧ ErrAt wr t' v' ∧ Hid (codeOf t' = codeOf t) ∧ Below (w.heap.size + 1) (w.alloc (.cells #[.pointer (some ⟨1, 70, none⟩), .pointer (some ⟨bx, 0, none⟩), .int .u64 150] 78)) wr)
    case atStart => exact ⟨t, Nat.le_refl _, Nat.le_refl _, ht1, (show _ = _ from rfl), (Below.refl _ _)⟩
    case round =>
      obtain ⟨t', hk, hkt, ht', hrt, hb⟩ := hrel
      have hs1 : (w.alloc (.cells #[.pointer (some ⟨1, 70, none⟩), .pointer (some ⟨bx, 0, none⟩), .int .u64 150] 78)).heap.size = w.heap.size + 1 := by simp
      have hp2 := (hb.block p (by have := heap_lt hp; omega)).trans hp1
      have hbx2 := (hb.cell (p := ⟨bx, 0, none⟩) (by have := World.block_lt_of_cell? w _ hbx; simp only at this ⊢; omega)).trans hbx1
      have hrow2 := (rowAt_of_block (hb.block w.heap.size (by omega)) 0 3).trans hrow
      have hbw : Below w.heap.size w wr := hW.trans (hb.mono (by omega))
      have hsz2 := hb.size
      clear ht1 hp1 hbx1 hrow
      cases t' with
      | num e =>
        obtain ⟨he, rfl⟩ := ht'
        have tO := typeOf_n
        have aA := assignN_n
        have vO := valueE_n
        obtain ⟨x0, x1, x2⟩ := box3 hrow2
        have el := elemV_n ⟨bx, 0, none⟩ ⟨p, 0, none⟩ wr hbx2
        have hpl := heap_lt hp2
        have hc1 : (wr.alloc (.cells #[.int .i64 e] 42)).cell? ⟨p, 0, none⟩ = some (.int .i64 0) := (World.cell?_alloc_lt wr _ _ hpl).trans (by rw [cell_of_row wr p _ _ _ _ hp2]; rfl)
        have hf1 : (wr.alloc (.cells #[.int .i64 e] 42)).frozen? ⟨p, 0, none⟩ = false := by
          rw [World.frozen?_alloc_old _ _ ⟨p, 0, none⟩ (Nat.ne_of_lt hpl)]; simp [World.frozen?, hp2]
        have st := set_n ⟨p, 0, none⟩ ⟨wr.heap.size, 0, none⟩ (.int .i64 e) (.int .i64 0) rfl rfl (wr.alloc (.cells #[.int .i64 e] 42)) (by simp) hc1 hf1
        have hfin : AsN w p t (.returned (.bool true)) ((wr.setCell ⟨p, 0, none⟩ (.int .i64 e)).alloc (.cells #[.int .i64 e] 42)) := by
          have hsc := Keep.setCell wr ⟨p, 0, none⟩ (.int .i64 e)
          have hba := Keep.alloc (wr.setCell ⟨p, 0, none⟩ (.int .i64 e)) (.cells #[.int .i64 e] 42)
          have hk2 : Keep [p] wr ((wr.setCell ⟨p, 0, none⟩ (.int .i64 e)).alloc (.cells #[.int .i64 e] 42)) := Keep.trans hsc hba (by simp)
          refine ⟨rfl, Keep.trans ((Keep.of_below hbw).mono (S' := [p]) (by simp)) hk2 (fun x hx => .inl hx), ?_⟩
          have h1 := heap_set_row hp2 0 (.int .i64 e)
          rw [hba.block p (by have := hsc.size; omega) (by simp), h1, ← hrt.out]; rfl
        have Hfin := Lib.hid hfin
        clear hfin
        go_wp2_with fail
        go_ret
        exact Hfin.out
      | rep ids =>
        obtain ⟨g, A, n, cap, rfl, hg, hs, hn⟩ := ht'
        have tO := typeOf_r
        have aA := assignN_r
        have n1 := noAs_r; have n2 := hasU_r; have mU := methUr
        clear hg hs hn
        go_wp2_with fail
        refine (unwrap_r g _).mono ?_; rintro e w2 ⟨rfl, rfl⟩
        go_wp2_with fail
        have hk2 : 2 ≤ gk := hk
        have hkt2 : 2 ≤ t.sz := hkt
        go_roundg 1
        case measure => omega
        case rel => exact ⟨.num 16, Nat.le_refl _, by show 1 ≤ t.sz; omega, ⟨by decide, rfl⟩, hrt, hb⟩
      | wrap op t2 =>
        obtain ⟨g, u, rfl, hg, hu⟩ := ht'
        obtain ⟨d, x, rfl⟩ := hu.iface
        have tO := typeOf_w
        have aA := assignN_w
        have n1 := noAs_w; have n2 := hasU_w; have mU := methUw
        go_wp2_with fail
        refine (unwrap_w g op _ ⟨d, x, rfl⟩ _ hg).mono ?_; rintro e w2 ⟨rfl, rfl⟩
        go_wp2_with fail
        have hk2 : t2.sz + 1 ≤ gk := hk
        have hkt2 : t2.sz + 1 ≤ t.sz := hkt
        go_roundg t2.sz
        case measure => omega
        case rel => exact ⟨t2, Nat.le_refl _, by omega, hu, hrt, hb⟩
      | both a b =>
        obtain ⟨g, u1, u2, rfl, hg, hu1, hu2⟩ := ht'
        obtain ⟨d1, x1, rfl⟩ := hu1.iface
        obtain ⟨d2, x2, rfl⟩ := hu2.iface
        have tO := typeOf_b
        have aA := assignN_b
        have n1 := noAs_b; have n2 := noU_b; have n3 := hasUs_b; have mU := methUb
        go_wp2_with fail
        refine (unwrap_b g _ _ ⟨d1, x1, rfl⟩ ⟨d2, x2, rfl⟩ _ hg).mono ?_; rintro e w2 ⟨g2, rfl, k1, k2, hb2⟩
        have hsz3 : a.sz + b.sz + 1 ≤ sz + 1 := Nat.le_trans hkt Hsz.out
        have hrt2 : codeOf a = codeOf t := hrt.out
        have Hrt := Lib.hid hrt2
        clear hrt2 hrt
        have hbw2 := bel2 hbw hb2
        have ha2 := hu1.below hb2
        have hpl2 := heap_lt hp2
        have hp3 := (hb2.block p hpl2).trans hp2
        have hbx3 := (hb2.cell (p := ⟨bx, 0, none⟩) (World.block_lt_of_cell? wr _ hbx2)).trans hbx2
        have hrow3 := (rowAt_of_block (hb2.block w.heap.size (rowAt_lt hrow2)) 0 3).trans hrow2
        obtain ⟨y0, y1, y2⟩ := box3 hrow3
        clear hu1 hu2 hp2 hbx2 hb2 hb hbw
        go_wp2_with fail
        refine wp_loop_rounds 1 ?_
        rw [rounds_succ]
        go_wp2_with fail
        refine (Hih.out a (by omega) _ _ bx p ha2 hbx3 hp3).mono ?_; rintro e w3 ⟨rfl, hk3, hx3⟩
        have hfin : AsN w p t (.returned (.bool true)) w3 := ⟨rfl, Keep.trans ((Keep.of_below hbw2).mono (S' := [p]) (by simp)) hk3 (fun x hx => .inl hx), by rw [← Hrt.out]; exact hx3⟩
        have Hfin := Lib.hid hfin
        clear hfin hx3
        go_wp2_with fail
        go_ret
        exact Hfin.out

end Go.Proofs.YtiihicmodohaeaaDoor
