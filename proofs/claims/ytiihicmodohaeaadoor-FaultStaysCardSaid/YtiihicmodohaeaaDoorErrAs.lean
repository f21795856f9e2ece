/- Package errors: As and Is of a tree; package fault: what is told of it. -/
import Derived.Test.YtiihicmodohaeaaDoorErrN
namespace Go.Proofs.YtiihicmodohaeaaDoor
open Go.RowKit Go.Extern.Stop Go.Stop Go.Extern

theorem AsR.back {w W w' : World} {p : Nat} {t : ErrT} {e : Ending} (hb : Below w.heap.size w W) (h : AsR W p t e w') : AsR w p t e w' := by
  unfold AsR at h ⊢
  cases hr : repOf t with
  | none => rw [hr] at h; exact ⟨h.1, bel2 hb h.2⟩
  | some ids => rw [hr] at h; exact ⟨h.1, Keep.trans ((Keep.of_below hb).mono (S' := [p]) (by simp)) h.2.1 (fun x hx => .inl hx), h.2.2⟩
theorem AsN.back {w W w' : World} {p : Nat} {t : ErrT} {e : Ending} (hb : Below w.heap.size w W) (h : AsN W p t e w') : AsN w p t e w' :=
  ⟨h.1, Keep.trans ((Keep.of_below hb).mono (S' := [p]) (by simp)) h.2.1 (fun x hx => .inl hx), h.2.2⟩
theorem AsR.bool {w w' : World} {p : Nat} {t : ErrT} {e : Ending} (h : AsR w p t e w') : ∃ b, e = .returned (.bool b) ∧ AsR w p t (.returned (.bool b)) w' := by
  unfold AsR at h
  cases hr : repOf t with
  | none => rw [hr] at h; exact ⟨false, h.1, AsR.no hr h.2⟩
  | some ids => rw [hr] at h; exact ⟨true, h.1, AsR.yes hr h.2.1 h.2.2⟩
theorem AsN.bool {w w' : World} {p : Nat} {t : ErrT} {e : Ending} (h : AsN w p t e w') : ∃ b, e = .returned (.bool b) ∧ AsN w p t (.returned (.bool b)) w' :=
  ⟨true, h.1, rfl, h.2.1, h.2.2⟩
/-- The one variable of package errors. -/
def ErrVar (w : World) : Prop := w.cell? ⟨0, 0, none⟩ = some (.iface 90 (.agg #[.pointer (some ⟨1, 26, none⟩)]))
theorem ErrVar.below {w w' : World} (h : ErrVar w) (hb : Below w.heap.size w w') : ErrVar w' := (hb.cell (p := ⟨0, 0, none⟩) (World.block_lt_of_cell? w _ h)).trans h
theorem ErrVar.kept {w w' : World} {S : List Nat} (h : ErrVar w) (hk : Keep S w w') (h0 : 0 ∉ S) : ErrVar w' := (hk.cell (p := ⟨0, 0, none⟩) (World.block_lt_of_cell? w _ h) h0).trans h

theorem eAs_nil (t : Value) (w : World) : Calls Tryd.prog 21 #[.nilIface, t] w fun e w' => e = .returned (.bool false) ∧ w = w' := by
  go_enter Tryd.func21, Tryd.ntmps21
  go_wp2_with fail
  go_ret
  exact ⟨rfl, rfl⟩

set_option maxRecDepth 100000 in
set_option maxHeartbeats 4000000 in
theorem eAs_rep (t : ErrT) (v : Value) (w : World) (p : Nat) (ht : ErrAt w t v) (hg : ErrVar w) (hp : w.heap[p]? = some (.cells #[.pointer none] 53 (0, 0))) :
    Calls Tryd.prog 21 #[v, .iface 61 (.pointer (some ⟨p, 0, none⟩))] w (AsR w p t) := by
  have hVO := @run_callFunc_extern Tryd.prog 27 _ (fun args => ReflectliteValue.unpack (args.getD 0 (.tuple #[]))) Tryd.func27 (by kernel_rfl) (by kernel_rfl) (by kernel_rfl) (by kernel_rfl)
  have hTY := @run_callFunc_extern Tryd.prog 28 _ (ReflectliteValue.methodAny (ReflectliteValue.valueError "reflectlite.Value.Type" 0) (fun t _ _ _ => ReflectliteType.toType t)) Tryd.func28 (by kernel_rfl) (by kernel_rfl) (by kernel_rfl) (by kernel_rfl)
  have hIN := @run_callFunc_extern Tryd.prog 29 _ (ReflectliteValue.method (ReflectliteValue.valueError "reflectlite.Value.IsNil" 0) ReflectliteValue.isNil) Tryd.func29 (by kernel_rfl) (by kernel_rfl) (by kernel_rfl) (by kernel_rfl)
  have hKI := @run_callFunc_extern Tryd.prog 49 _ (ReflectliteType.abiMethod fun t => do pure (.int .u8 (← Rtype.kind t))) Tryd.func49 (by kernel_rfl) (by kernel_rfl) (by kernel_rfl) (by kernel_rfl)
  have hEL := @run_callFunc_extern Tryd.prog 65 _ (ReflectliteType.method ReflectliteType.elem) Tryd.func65 (by kernel_rfl) (by kernel_rfl) (by kernel_rfl) (by kernel_rfl)
  have hIM := @run_callFunc_extern Tryd.prog 66 _ (ReflectliteType.relation "Implements" ReflectliteType.implements_) Tryd.func66 (by kernel_rfl) (by kernel_rfl) (by kernel_rfl) (by kernel_rfl)
  have hb0 : Below w.heap.size w ((w.alloc (.cells #[.pointer (some ⟨p, 0, none⟩)] 61)).alloc (.cells #[.pointer (some ⟨1, 61, none⟩), .pointer (some ⟨w.heap.size, 0, none⟩), .int .u64 150] 78)) := ((Below.refl _ _).alloc (Nat.le_refl _) _).alloc (by simp) _
  have ht1 := ht.below hb0
  have hg1 : _ = _ := hg.below hb0
  have hp1 := (hb0.block p (heap_lt hp)).trans hp
  have hv := valueOf_r
  have ty := type_r
  have mK := methKind; have mE := methElem; have mI := methImpl
  have kP := kindP_r; have kE := kindE_r; have eT := elemT_r; have im := impl_r
  have hbx1 : ((w.alloc (.cells #[.pointer (some ⟨p, 0, none⟩)] 61)).alloc (.cells #[.pointer (some ⟨1, 61, none⟩), .pointer (some ⟨w.heap.size, 0, none⟩), .int .u64 150] 78)).cell? ⟨w.heap.size, 0, none⟩ = some (.pointer (some ⟨p, 0, none⟩)) := by simp
  have hn := isNil_r ⟨w.heap.size, 0, none⟩ ⟨p, 0, none⟩ _ hbx1
  obtain ⟨d, x, rfl⟩ := ht.iface
  have c0 := as_rep t.sz t (Nat.le_refl _) _ _ w.heap.size p ht1 hbx1 hp1
  have C0 := Lib.hid c0
  have Hb0 := Lib.hid hb0
  clear c0 ht ht1 hp hp1 hg hb0
  go_enter Tryd.func21, Tryd.ntmps21
  go_wp2_with fail
  refine C0.out.mono ?_; rintro e w1 h1
  obtain ⟨b, rfl, h2⟩ := (AsR.back Hb0.out h1).bool
  have H2 := Lib.hid h2
  clear h1 h2
  go_wp2_with fail
  go_ret
  exact H2.out
set_option maxRecDepth 100000 in
set_option maxHeartbeats 4000000 in
theorem eAs_num (t : ErrT) (v : Value) (w : World) (p : Nat) (ht : ErrAt w t v) (hg : ErrVar w) (hp : w.heap[p]? = some (.cells #[.int .i64 0] 42 (0, 0))) :
    Calls Tryd.prog 21 #[v, .iface 70 (.pointer (some ⟨p, 0, none⟩))] w (AsN w p t) := by
  have hVO := @run_callFunc_extern Tryd.prog 27 _ (fun args => ReflectliteValue.unpack (args.getD 0 (.tuple #[]))) Tryd.func27 (by kernel_rfl) (by kernel_rfl) (by kernel_rfl) (by kernel_rfl)
  have hTY := @run_callFunc_extern Tryd.prog 28 _ (ReflectliteValue.methodAny (ReflectliteValue.valueError "reflectlite.Value.Type" 0) (fun t _ _ _ => ReflectliteType.toType t)) Tryd.func28 (by kernel_rfl) (by kernel_rfl) (by kernel_rfl) (by kernel_rfl)
  have hIN := @run_callFunc_extern Tryd.prog 29 _ (ReflectliteValue.method (ReflectliteValue.valueError "reflectlite.Value.IsNil" 0) ReflectliteValue.isNil) Tryd.func29 (by kernel_rfl) (by kernel_rfl) (by kernel_rfl) (by kernel_rfl)
  have hKI := @run_callFunc_extern Tryd.prog 49 _ (ReflectliteType.abiMethod fun t => do pure (.int .u8 (← Rtype.kind t))) Tryd.func49 (by kernel_rfl) (by kernel_rfl) (by kernel_rfl) (by kernel_rfl)
  have hEL := @run_callFunc_extern Tryd.prog 65 _ (ReflectliteType.method ReflectliteType.elem) Tryd.func65 (by kernel_rfl) (by kernel_rfl) (by kernel_rfl) (by kernel_rfl)
  have hIM := @run_callFunc_extern Tryd.prog 66 _ (ReflectliteType.relation "Implements" ReflectliteType.implements_) Tryd.func66 (by kernel_rfl) (by kernel_rfl) (by kernel_rfl) (by kernel_rfl)
  have hb0 : Below w.heap.size w ((w.alloc (.cells #[.pointer (some ⟨p, 0, none⟩)] 70)).alloc (.cells #[.pointer (some ⟨1, 70, none⟩), .pointer (some ⟨w.heap.size, 0, none⟩), .int .u64 150] 78)) := ((Below.refl _ _).alloc (Nat.le_refl _) _).alloc (by simp) _
  have ht1 := ht.below hb0
  have hg1 : _ = _ := hg.below hb0
  have hp1 := (hb0.block p (heap_lt hp)).trans hp
  have hv := valueOf_n
  have ty := type_n
  have mK := methKind; have mE := methElem; have mI := methImpl
  have kP := kindP_n; have kE := kindE_n; have eT := elemT_n; have im := impl_n
  have hbx1 : ((w.alloc (.cells #[.pointer (some ⟨p, 0, none⟩)] 70)).alloc (.cells #[.pointer (some ⟨1, 70, none⟩), .pointer (some ⟨w.heap.size, 0, none⟩), .int .u64 150] 78)).cell? ⟨w.heap.size, 0, none⟩ = some (.pointer (some ⟨p, 0, none⟩)) := by simp
  have hn := isNil_n ⟨w.heap.size, 0, none⟩ ⟨p, 0, none⟩ _ hbx1
  obtain ⟨d, x, rfl⟩ := ht.iface
  have c0 := as_num t.sz t (Nat.le_refl _) _ _ w.heap.size p ht1 hbx1 hp1
  have C0 := Lib.hid c0
  have Hb0 := Lib.hid hb0
  clear c0 ht ht1 hp hp1 hg hb0
  go_enter Tryd.func21, Tryd.ntmps21
  go_wp2_with fail
  refine C0.out.mono ?_; rintro e w1 h1
  obtain ⟨b, rfl, h2⟩ := (AsN.back Hb0.out h1).bool
  have H2 := Lib.hid h2
  clear h1 h2
  go_wp2_with fail
  go_ret
  exact H2.out

end Go.Proofs.YtiihicmodohaeaaDoor
