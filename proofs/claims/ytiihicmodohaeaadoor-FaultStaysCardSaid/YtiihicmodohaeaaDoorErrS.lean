/- Package errors: As, at a report and at a number: what it finds in a tree. -/
import Derived.Test.YtiihicmodohaeaaDoorErr
namespace Go.Proofs.YtiihicmodohaeaaDoor
open Go.RowKit Go.Extern.Stop Go.Stop Go.Extern

theorem unwrap_r (g : Nat) (w : World) : Calls Tryd.prog 54 #[.pointer (some ⟨g, 0, none⟩)] w fun e w' => e = .returned (.iface 42 (.int .i64 16)) ∧ w = w' := by
  go_enter Tryd.func54, Tryd.ntmps54
  go_wp2_with fail
  go_ret
  exact ⟨rfl, rfl⟩
theorem unwrap_w (g : Nat) (op : ByteArray) (u : Value) (hu : ∃ d x, u = .iface d x) (w : World) (h : w.heap[g]? = some (.cells #[.string op, u] 59 (0, 0))) : Calls Tryd.prog 56 #[.pointer (some ⟨g, 0, none⟩)] w fun e w' => e = .returned u ∧ w = w' := by
  obtain ⟨d, x, rfl⟩ := hu
  have c : w.cell? ⟨g, 1, none⟩ = some (.iface d x) := by rw [cell_of_row w g _ _ _ _ h]; rfl
  clear h
  go_enter Tryd.func56, Tryd.ntmps56
  go_wp2_with fail
  go_ret
  exact ⟨rfl, rfl⟩
def BothRes (w : World) (u v : Value) (e : Ending) (w' : World) : Prop := ∃ g', e = .returned (.slice (some ⟨g', 0, none⟩) 2 2) ∧ w'.cell? ⟨g', 0, none⟩ = some u ∧ w'.cell? ⟨g', 1, none⟩ = some v ∧ Below w.heap.size w w'
theorem unwrap_b (g : Nat) (u v : Value) (hu : ∃ d x, u = .iface d x) (hv : ∃ d x, v = .iface d x) (w : World) (h : w.heap[g]? = some (.cells #[u, v] 73 (0, 0))) : Calls Tryd.prog 58 #[.pointer (some ⟨g, 0, none⟩)] w (BothRes w u v) := by
  obtain ⟨d, x, rfl⟩ := hu
  obtain ⟨d', x', rfl⟩ := hv
  have c : w.cell? ⟨g, 0, none⟩ = some (.iface d x) := by rw [cell_of_row w g _ _ _ _ h]; rfl
  have c' : w.cell? ⟨g, 1, none⟩ = some (.iface d' x') := by rw [cell_of_row w g _ _ _ _ h]; rfl
  clear h
  go_enter Tryd.func58, Tryd.ntmps58
  go_upto_region 1 with fail
  refine wp_region_lex (Bel w) false (by kernel_rfl) (by kernel_rfl) (by kernel_rfl) (bel_drew w) ?_
  have hne := bel_some w
  have hS := bel_drew w
  have b1 := sub_cell c
  have b2 := sub_cell c'
  repeat (refine wpLx_loose ?_ ?_; (focus (simp only [chainOp]; done)); intro K hK; go_simp; refine hK _ ?_; clear hK K)
  refine wpLx_chain ?_ ?_ ?_
  focus (exact hS)
  focus (simp only [chainOp]; done)
  intro K hK
  go_simp
  refine step_keep (bel_alloc hS _) (fun hS => ?_)
  refine hK _ _ ?_
  clear hK K
  repeat (refine wpLx_loose ?_ ?_; (focus (simp only [chainOp]; done)); intro K hK; go_simp; refine hK _ ?_; clear hK K)
  refine wpLx_nil ?_
  intro hS
  go_wp2_with fail
  go_ret
  exact ⟨_, rfl, by simp, by simp, hS⟩

/-- What errors.as leaves, asked for a report. -/
def AsR (w : World) (p : Nat) (t : ErrT) (e : Ending) (w' : World) : Prop :=
  match repOf t with
  | none => e = .returned (.bool false) ∧ Below w.heap.size w w'
  | some ids => e = .returned (.bool true) ∧ Keep [p] w w' ∧ ∃ g A n cap, w'.heap[p]? = some (.cells #[.pointer (some ⟨g, 0, none⟩)] 53 (0, 0)) ∧ w'.heap[g]? = some (.cells #[.slice A n cap] 56 (0, 0)) ∧ SlR w' A n 32 (ids.map idC) ∧ 0 < n

theorem heap_set_row {w : World} {g : Nat} {c : Array Value} {T : TypeId} {fr : Nat × Nat} (h : w.heap[g]? = some (.cells c T fr)) (j : Nat) (u : Value) : (w.setCell ⟨g, j, none⟩ u).heap[g]? = some (.cells (c.setIfInBounds j u) T fr) := by
  obtain ⟨hlt, hg⟩ := Array.getElem?_eq_some_iff.1 h
  show (w.heap.modify g _)[g]? = _
  rw [Array.getElem?_modify]
  simp [h]
theorem box3 {W : World} {g : Nat} {a b c : Value} (h : rowAt W g 0 3 = some #[a, b, c]) : W.cell? ⟨g, 0, none⟩ = some a ∧ W.cell? ⟨g, 1, none⟩ = some b ∧ W.cell? ⟨g, 2, none⟩ = some c :=
  ⟨by simpa using rowAt_cell h (j := 0) (by omega), by simpa using rowAt_cell h (j := 1) (by omega), by simpa using rowAt_cell h (j := 2) (by omega)⟩
theorem AsR.no {w w' : World} {p : Nat} {t : ErrT} (h : repOf t = none) (hb : Below w.heap.size w w') : AsR w p t (.returned (.bool false)) w' := by
  unfold AsR; rw [h]; exact ⟨rfl, hb⟩
theorem AsR.yes {w w' : World} {p : Nat} {t : ErrT} {ids : List Id32} (h : repOf t = some ids) (hk : Keep [p] w w') (hx : ∃ g A n cap, w'.heap[p]? = some (.cells #[.pointer (some ⟨g, 0, none⟩)] 53 (0, 0)) ∧ w'.heap[g]? = some (.cells #[.slice A n cap] 56 (0, 0)) ∧ SlR w' A n 32 (ids.map idC) ∧ 0 < n) : AsR w p t (.returned (.bool true)) w' := by
  unfold AsR; rw [h]; exact ⟨rfl, hk, hx⟩

set_option maxRecDepth 100000 in
set_option maxHeartbeats 4000000 in
theorem as_rep : ∀ (sz : Nat) (t : ErrT), t.sz ≤ sz → ∀ (v : Value) (w : World) (bx p : Nat), ErrAt w t v → w.cell? ⟨bx, 0, none⟩ = some (.pointer (some ⟨p, 0, none⟩)) → w.heap[p]? = some (.cells #[.pointer none] 53 (0, 0)) →
    Calls Tryd.prog 30 #[v, .iface 61 (.pointer (some ⟨p, 0, none⟩)), .agg #[.pointer (some ⟨1, 61, none⟩), .pointer (some ⟨bx, 0, none⟩), .int .u64 150], .iface 90 (.agg #[.pointer (some ⟨1, 53, none⟩)])] w (AsR w p t)
  | 0, t, hsz, v, w, bx, p, ht, hbx, hp => by cases t <;> simp [ErrT.sz] at hsz
  | sz + 1, t, hsz, v, w, bx, p, ht, hbx, hp => by
    have ih := as_rep sz
    have hTO := @run_callFunc_extern Tryd.prog 31 _ ReflectliteType.typeOf Tryd.func31 (by kernel_rfl) (by kernel_rfl) (by kernel_rfl) (by kernel_rfl)
    have hAT := @run_callFunc_extern Tryd.prog 63 _ (ReflectliteType.relation "AssignableTo" ReflectliteType.assignableTo) Tryd.func63 (by kernel_rfl) (by kernel_rfl) (by kernel_rfl) (by kernel_rfl)
    have hVO := @run_callFunc_extern Tryd.prog 27 _ (fun args => ReflectliteValue.unpack (args.getD 0 (.tuple #[]))) Tryd.func27 (by kernel_rfl) (by kernel_rfl) (by kernel_rfl) (by kernel_rfl)
    have hEL := @run_callFunc_extern Tryd.prog 33 _ (ReflectliteValue.method (ReflectliteValue.valueError "reflectlite.Value.Elem" 0) ReflectliteValue.elem) Tryd.func33 (by kernel_rfl) (by kernel_rfl) (by kernel_rfl) (by kernel_rfl)
    have hST := @run_callFunc_extern Tryd.prog 34 _ ReflectliteValue.set Tryd.func34 (by kernel_rfl) (by kernel_rfl) (by kernel_rfl) (by kernel_rfl)
    have mA := methAssign
    have hW : Below w.heap.size w (w.alloc (.cells #[.pointer (some ⟨1, 61, none⟩), .pointer (some ⟨bx, 0, none⟩), .int .u64 150] 78)) := (Below.refl _ _).alloc (Nat.le_refl _) _
    have ht1 := ht.below hW
    have hp1 := (hW.block p (heap_lt hp)).trans hp
    have hbx1 := (hW.cell (p := ⟨bx, 0, none⟩) (World.block_lt_of_cell? w _ hbx)).trans hbx
    have hrow : rowAt (w.alloc (.cells #[.pointer (some ⟨1, 61, none⟩), .pointer (some ⟨bx, 0, none⟩), .int .u64 150] 78)) w.heap.size 0 3 = some #[.pointer (some ⟨1, 61, none⟩), .pointer (some ⟨bx, 0, none⟩), .int .u64 150] := by simp [go_sem]
    have Hih := Lib.hid ih
    have Hsz := Lib.hid hsz
    clear ih hsz
    go_enter Tryd.func30, Tryd.ntmps30
    go_wp2_with fail
    go_loopg [0] t.sz (fun k v' wr => ∃ t', t'.sz ≤ k ∧ t'.sz ≤ t.sz ∧ ErrAt wr t' v' ∧ Hid (repOf t' = repOf t) ∧ Below (w.heap.size + 1) (w.alloc (.cells #[.pointer (some ⟨1, 61, none⟩), .pointer (some ⟨bx, 0, none⟩), .int .u64 150] 78)) wr)
    case atStart => exact ⟨t, Nat.le_refl _, Nat.le_refl _, ht1, (show _ = _ from rfl), (Below.refl _ _)⟩
    case round =>
      obtain ⟨t', hk, hkt, ht', hrt, hb⟩ := hrel
      have hs1 : (w.alloc (.cells #[.pointer (some ⟨1, 61, none⟩), .pointer (some ⟨bx, 0, none⟩), .int .u64 150] 78)).heap.size = w.heap.size + 1 := by simp
      have hp2 := (hb.block p (by have := heap_lt hp; omega)).trans hp1
      have hbx2 := (hb.cell (p := ⟨bx, 0, none⟩) (by have := World.block_lt_of_cell? w _ hbx; simp only at this ⊢; omega)).trans hbx1
      have hrow2 := (rowAt_of_block (hb.block w.heap.size (by omega)) 0 3).trans hrow
      have hbw : Below w.heap.size w wr := hW.trans (hb.mono (by omega))
      have hsz2 := hb.size
      clear ht1 hp1 hbx1 hrow
      cases t' with
      | num e =>
        obtain ⟨he, rfl⟩ := ht'
        have tO := typeOf_n
        have aA := assignR_n
        have n1 := noAs_n; have n2 := noU_n; have n3 := noUs_n
        go_wp2_with fail
        go_ret
        exact AsR.no hrt.out.symm hbw
      | rep ids =>
        obtain ⟨g, A, n, cap, rfl, hg, hs, hn⟩ := ht'
        have tO := typeOf_r
        have aA := assignR_r
        have vO := valueE_r
        obtain ⟨x0, x1, x2⟩ := box3 hrow2
        have el := elemV_r ⟨bx, 0, none⟩ ⟨p, 0, none⟩ wr hbx2
        have hpl := heap_lt hp2
        have hgl := heap_lt hg
        have hpg : p ≠ g := by
          rintro rfl
          rw [hp2] at hg; cases hg
        have hc1 : (wr.alloc (.cells #[.pointer (some ⟨g, 0, none⟩)] 53)).cell? ⟨p, 0, none⟩ = some (.pointer none) := (World.cell?_alloc_lt wr _ _ hpl).trans (by rw [cell_of_row wr p _ _ _ _ hp2]; rfl)
        have hf1 : (wr.alloc (.cells #[.pointer (some ⟨g, 0, none⟩)] 53)).frozen? ⟨p, 0, none⟩ = false := by
          rw [World.frozen?_alloc_old _ _ ⟨p, 0, none⟩ (Nat.ne_of_lt hpl)]; simp [World.frozen?, hp2]
        have st := set_r ⟨p, 0, none⟩ ⟨wr.heap.size, 0, none⟩ (.pointer (some ⟨g, 0, none⟩)) (.pointer none) rfl rfl (wr.alloc (.cells #[.pointer (some ⟨g, 0, none⟩)] 53)) (by simp) hc1 hf1
        have hfin : AsR w p t (.returned (.bool true)) ((wr.setCell ⟨p, 0, none⟩ (.pointer (some ⟨g, 0, none⟩))).alloc (.cells #[.pointer (some ⟨g, 0, none⟩)] 53)) := by
          have hsc := Keep.setCell wr ⟨p, 0, none⟩ (.pointer (some ⟨g, 0, none⟩))
          have hba := Keep.alloc (wr.setCell ⟨p, 0, none⟩ (.pointer (some ⟨g, 0, none⟩))) (.cells #[.pointer (some ⟨g, 0, none⟩)] 53)
          have hk2 : Keep [p] wr ((wr.setCell ⟨p, 0, none⟩ (.pointer (some ⟨g, 0, none⟩))).alloc (.cells #[.pointer (some ⟨g, 0, none⟩)] 53)) := Keep.trans hsc hba (by simp)
          refine AsR.yes hrt.out.symm (Keep.trans ((Keep.of_below hbw).mono (S' := [p]) (by simp)) hk2 (fun x hx => .inl hx)) ⟨g, A, n, cap, ?_, ?_, ?_, hn⟩
          · have h1 := heap_set_row hp2 0 (.pointer (some ⟨g, 0, none⟩))
            rw [hba.block p (by have := hsc.size; omega) (by simp), h1]; rfl
          · exact (hk2.block g hgl (by simp; exact fun e => hpg e.symm)).trans hg
          · refine hs.kept hk2 (fun x hx hxp => ?_)
            simp at hxp
            subst hxp
            obtain ⟨q, o, e, hr⟩ := hs.at_ hn
            have hqx : x = q := by rw [e] at hx; simpa [blk] using hx
            subst hqx
            have hr0 := rowAt_size hr
            unfold rowAt at hr
            rw [hp2] at hr
            simp at hr
        have Hfin := Lib.hid hfin
        clear hfin
        go_wp2_with fail
        go_ret
        exact Hfin.out
      | wrap op t2 =>
        obtain ⟨g, u, rfl, hg, hu⟩ := ht'
        obtain ⟨d, x, rfl⟩ := hu.iface
        have tO := typeOf_w
        have aA := assignR_w
        have n1 := noAs_w; have n2 := hasU_w; have mU := methUw
        go_wp2_with fail
        refine (unwrap_w g op _ ⟨d, x, rfl⟩ _ hg).mono ?_; rintro e w2 ⟨rfl, rfl⟩
        go_wp2_with fail
        have hk2 : t2.sz + 1 ≤ gk := hk
        have hkt2 : t2.sz + 1 ≤ t.sz := hkt
        go_roundg t2.sz
        case measure => omega
        case rel => exact ⟨t2, Nat.le_refl _, by omega, hu, hrt, hb⟩
      | both a b =>
        obtain ⟨g, u1, u2, rfl, hg, hu1, hu2⟩ := ht'
        obtain ⟨d1, x1, rfl⟩ := hu1.iface
        obtain ⟨d2, x2, rfl⟩ := hu2.iface
        have tO := typeOf_b
        have aA := assignR_b
        have n1 := noAs_b; have n2 := noU_b; have n3 := hasUs_b; have mU := methUb
        go_wp2_with fail
        refine (unwrap_b g _ _ ⟨d1, x1, rfl⟩ ⟨d2, x2, rfl⟩ _ hg).mono ?_; rintro e w2 ⟨g2, rfl, k1, k2, hb2⟩
        have hsz3 : a.sz + b.sz + 1 ≤ sz + 1 := Nat.le_trans hkt Hsz.out
        have hrt2 : (match repOf a with | some l => some l | none => repOf b) = repOf t := hrt.out
        have Hrt := Lib.hid hrt2
        clear hrt2 hrt
        have hbw2 := bel2 hbw hb2
        have ha2 := hu1.below hb2
        have hb2' := hu2.below hb2
        have hpl2 := heap_lt hp2
        have hp3 := (hb2.block p hpl2).trans hp2
        have hbx3 := (hb2.cell (p := ⟨bx, 0, none⟩) (World.block_lt_of_cell? wr _ hbx2)).trans hbx2
        have hrow3 := (rowAt_of_block (hb2.block w.heap.size (rowAt_lt hrow2)) 0 3).trans hrow2
        obtain ⟨y0, y1, y2⟩ := box3 hrow3
        clear hu1 hu2 hp2 hbx2 hb2 hb hbw
        go_wp2_with fail
        refine wp_loop_rounds 3 ?_
        rw [rounds_succ]
        go_wp2_with fail
        refine (Hih.out a (by omega) _ _ bx p ha2 hbx3 hp3).mono ?_; rintro e w3 has
        cases hra : repOf a with
        | some ids =>
          unfold AsR at has
          rw [hra] at has
          obtain ⟨rfl, hk3, hx3⟩ := has
          have hrt3 := Hrt.out
          rw [hra] at hrt3
          have hfin : AsR w p t (.returned (.bool true)) w3 := AsR.yes hrt3.symm (Keep.trans ((Keep.of_below hbw2).mono (S' := [p]) (by simp)) hk3 (fun x hx => .inl hx)) hx3
          have Hfin := Lib.hid hfin
          clear hfin hrt3 hx3 hra
          go_wp2_with fail
          go_ret
          exact Hfin.out
        | none =>
          unfold AsR at has
          rw [hra] at has
          obtain ⟨rfl, hb3⟩ := has
          have hrt3 : repOf b = repOf t := by have := Hrt.out; rwa [hra] at this
          have Hrt3 := Lib.hid hrt3
          have hb3' := hb2'.below hb3
          have hpl3 := heap_lt hp3
          have hp4 := (hb3.block p hpl3).trans hp3
          have hbx4 := (hb3.cell (p := ⟨bx, 0, none⟩) (World.block_lt_of_cell? w2 _ hbx3)).trans hbx3
          have k2' := (hb3.cell (p := ⟨g2, 1, none⟩) (World.block_lt_of_cell? w2 _ k2)).trans k2
          have hbw3 := bel2 hbw2 hb3
          have hrow4 := (rowAt_of_block (hb3.block w.heap.size (rowAt_lt hrow3)) 0 3).trans hrow3
          obtain ⟨z0, z1, z2⟩ := box3 hrow4
          clear hrt3 hra Hrt hb2' hp3 hbx3 k1 k2 hbw2 hb3 ha2 y0 y1 y2
          go_wp2_with fail
          rw [rounds_succ]
          go_wp2_with fail
          refine (Hih.out b (by omega) _ _ bx p hb3' hbx4 hp4).mono ?_; rintro e w4 has
          cases hrb : repOf b with
          | some ids =>
            unfold AsR at has
            rw [hrb] at has
            obtain ⟨rfl, hk4, hx4⟩ := has
            have hfin : AsR w p t (.returned (.bool true)) w4 := AsR.yes (Hrt3.out.symm.trans hrb) (Keep.trans ((Keep.of_below hbw3).mono (S' := [p]) (by simp)) hk4 (fun x hx => .inl hx)) hx4
            have Hfin := Lib.hid hfin
            clear hfin hx4 hrb
            go_wp2_with fail
            go_ret
            exact Hfin.out
          | none =>
            unfold AsR at has
            rw [hrb] at has
            obtain ⟨rfl, hb4⟩ := has
            have hfin : AsR w p t (.returned (.bool false)) w4 := AsR.no (Hrt3.out.symm.trans hrb) (bel2 hbw3 hb4)
            have Hfin := Lib.hid hfin
            clear hfin hrb
            go_wp2_with fail
            rw [rounds_succ]
            go_wp2_with fail
            go_ret
            exact Hfin.out

end Go.Proofs.YtiihicmodohaeaaDoor
