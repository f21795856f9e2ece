/- Package fault: Ops. -/
import Derived.Test.YtiihicmodohaeaaDoorFault
import Derived.Deep.RegionHeld3
import Derived.Deep.DrawnRows
namespace Go.Proofs.YtiihicmodohaeaaDoor
open Go.RowKit Go.Extern.Stop Go.Stop Go.Extern

theorem Lx_appends {P : Program} {ops : Array Oper} {S : World → Prop} {cv fb : Bool} {Q : Act → World → Prop} {a : Act} {w : World} {rest : List Oper} {dst : Option Tmp} {s x : Operand} {ty : TypeId} {pos : String} {after : Array Edge} {T E : TypeId} {k bytes : Nat} (I : ElemInfo P T E k bytes)
    {B : Nat} {A : Option Addr} {n cap : Nat} {L : List (Array Value)} (hs : a.eval s = .slice A n cap) (hown : Own w B E k A n cap L)
    {A2 : Option Addr} {m c : Nat} {R : List (Array Value)} (hx : a.eval x = .slice A2 m c) (hsrc : SlR w A2 m k R) (hform : A2 = none → c = 0) (hone : ∀ r ∈ R, ∀ u ∈ r.toList, u.oneCell' = true) (hbytes : (n + m) * bytes ≤ 140737488355328) (hn : n + m ≤ 9223372036854775807) (hB : B ≤ w.heap.size)
    (h : ∀ A' cap' w', Own w' B E k A' (n + m) cap' (L ++ R) → Keep (blk A) w w' → (∀ x ∈ blk A', x ∈ blk A ∨ w.heap.size ≤ x) → S w' ∧ wpLx P ops S cv fb Q rest (a.put dst (.slice A' (n + m) cap')) w') :
    wpLx P ops S cv fb Q ({ dst := dst, op := .call { callee := .builtin .append, args := #[s, x], argTypes := #[T, T] }, type := ty, pos := pos, after := after, guard := none } :: rest) a w := by
  obtain ⟨A', cap', w', hrun, h1, h2, h3⟩ := append_rows I hown hsrc hform hone hbytes hn hB ty
  obtain ⟨k1, k2⟩ := h A' cap' w' h1 h2 h3
  exact wpLx_append hs hx hrun k1 k2
/-- The same at a step of a region that draws its order. -/
theorem step_appends {P : Program} {ops : Array Oper} {o : Oper} {a : Act} {w : World} {K : Act → World → Prop} {Q : Exit → Act → World → Prop} {E' : Prop} (hgd : o.guard = none) (s x : Operand) (T : TypeId)
    (ho : o.op = .call { callee := .builtin .append, args := #[s, x], argTypes := #[T, T] }) {E : TypeId} {k bytes : Nat} (I : ElemInfo P T E k bytes)
    {B : Nat} {A : Option Addr} {n cap : Nat} {L : List (Array Value)} (hs : a.eval s = .slice A n cap) (hown : Own w B E k A n cap L)
    {A2 : Option Addr} {m c : Nat} {R : List (Array Value)} (hx : a.eval x = .slice A2 m c) (hsrc : SlR w A2 m k R) (hform : A2 = none → c = 0) (hone : ∀ r ∈ R, ∀ u ∈ r.toList, u.oneCell' = true) (hbytes : (n + m) * bytes ≤ 140737488355328) (hn : n + m ≤ 9223372036854775807) (hB : B ≤ w.heap.size)
    (h : ∀ A' cap' w', Own w' B E k A' (n + m) cap' (L ++ R) → Keep (blk A) w w' → (∀ x ∈ blk A', x ∈ blk A ∨ w.heap.size ≤ x) → K (a.put o.dst (.slice A' (n + m) cap')) w') :
    if Region.wanted o (yielded ops a.tmps) = true then Oper.wp P o a w K Q else E' := by
  have hw : Region.wanted o (yielded ops a.tmps) = true := by simp [Region.wanted, hgd]
  rw [if_pos hw]
  obtain ⟨A', cap', w', hrun, h1, h2, h3⟩ := append_rows I hown hsrc hform hone hbytes hn hB o.type
  unfold Oper.wp
  simp [execOp, ho, resolve, invoke, builtin, hs, hx, hrun, Result.andThen]
  exact h A' cap' w' h1 h2 h3
theorem Own.single (w : World) (B : Nat) (E : TypeId) (cs : Array Value) (hB : B ≤ w.heap.size) : Own (w.alloc (.cells cs E)) B E cs.size (some ⟨w.heap.size, 0, none⟩) 1 1 [cs] :=
  ⟨⟨by simp, .inr ⟨w.heap.size, 1, cs, rfl, hB, heap_alloc_new w _, Nat.le_refl _, by decide, by simp, by
    rw [Nat.one_mul, List.take_of_length_le (by simp)]; simp⟩⟩, rfl, by simp⟩

def strR (s : ByteArray) : Array Value := #[.string s]
theorem einfoStr : ElemInfo Tryd.prog 35 9 1 16 :=
  .of (z := .string ⟨#[]⟩) Tryd.underlying35 (by kernel_rfl) (by kernel_rfl) (by kernel_rfl) rfl (by omega)
theorem strs_one {L : List ByteArray} : ∀ r ∈ L.map strR, ∀ u ∈ r.toList, u.oneCell' = true := fun r hr u hu => by
  obtain ⟨x, _, rfl⟩ := List.mem_map.1 hr
  simp [strR] at hu; subst hu; rfl
def OpsRes (w : World) (L : List ByteArray) (e : Ending) (w' : World) : Prop :=
  ∃ A cap, e = .returned (.slice A L.length cap) ∧ Own w' w.heap.size 9 1 A L.length cap (L.map strR) ∧ Below w.heap.size w w'
@[go_sem ↓] theorem asC_w_0 (w : World) : (Instr.typeAssert .nilIface 26 57 true).run Tryd.prog w = .ok (.tuple #[.pointer none, .bool false]) w := by kernel_rfl
@[go_sem ↓] theorem asC_w_n (v : Value) (w : World) : (Instr.typeAssert (.iface 42 v) 26 57 true).run Tryd.prog w = .ok (.tuple #[.pointer none, .bool false]) w := by kernel_rfl
@[go_sem ↓] theorem asC_w_r (v : Value) (w : World) : (Instr.typeAssert (.iface 53 v) 26 57 true).run Tryd.prog w = .ok (.tuple #[.pointer none, .bool false]) w := by kernel_rfl
@[go_sem ↓] theorem asC_w_w (v : Value) (w : World) : (Instr.typeAssert (.iface 57 v) 26 57 true).run Tryd.prog w = .ok (.tuple #[v, .bool true]) w := by kernel_rfl
@[go_sem ↓] theorem asC_w_b (v : Value) (w : World) : (Instr.typeAssert (.iface 71 v) 26 57 true).run Tryd.prog w = .ok (.tuple #[.pointer none, .bool false]) w := by kernel_rfl
@[go_sem ↓] theorem asC_b_0 (w : World) : (Instr.typeAssert .nilIface 26 71 true).run Tryd.prog w = .ok (.tuple #[.pointer none, .bool false]) w := by kernel_rfl
@[go_sem ↓] theorem asC_b_n (v : Value) (w : World) : (Instr.typeAssert (.iface 42 v) 26 71 true).run Tryd.prog w = .ok (.tuple #[.pointer none, .bool false]) w := by kernel_rfl
@[go_sem ↓] theorem asC_b_r (v : Value) (w : World) : (Instr.typeAssert (.iface 53 v) 26 71 true).run Tryd.prog w = .ok (.tuple #[.pointer none, .bool false]) w := by kernel_rfl
@[go_sem ↓] theorem asC_b_w (v : Value) (w : World) : (Instr.typeAssert (.iface 57 v) 26 71 true).run Tryd.prog w = .ok (.tuple #[.pointer none, .bool false]) w := by kernel_rfl
@[go_sem ↓] theorem asC_b_b (v : Value) (w : World) : (Instr.typeAssert (.iface 71 v) 26 71 true).run Tryd.prog w = .ok (.tuple #[v, .bool true]) w := by kernel_rfl
set_option maxRecDepth 100000 in
theorem fops_nil (w : World) : Calls Tryd.prog 15 #[.nilIface] w fun e w' => e = .returned (.slice none 0 0) ∧ w = w' := by
  go_enter Tryd.func15, Tryd.ntmps15
  go_wp2_with fail
  go_ret
  exact ⟨rfl, rfl⟩

set_option maxRecDepth 100000 in
set_option maxHeartbeats 2000000 in
theorem fops (t : ErrT) : ∀ (v : Value) (w : World), ErrAt w t v → (opsOf t).length ≤ 8589934592 → Calls Tryd.prog 15 #[v] w (OpsRes w (opsOf t)) := by
  induction t with
  | num e =>
    intro v w h _
    obtain ⟨_, rfl⟩ := h
    go_enter Tryd.func15, Tryd.ntmps15
    go_wp2_with fail
    go_ret
    exact ⟨none, 0, rfl, Own.nil _ _ _ _, Below.refl _ _⟩
  | rep ids =>
    intro v w h _
    obtain ⟨g, A, n, cap, rfl, _⟩ := h
    go_enter Tryd.func15, Tryd.ntmps15
    go_wp2_with fail
    go_ret
    exact ⟨none, 0, rfl, Own.nil _ _ _ _, Below.refl _ _⟩
  | wrap op t ih =>
    intro v w h hl
    obtain ⟨g, u, rfl, hg, hu⟩ := h
    have hl2 : (opsOf t).length + 1 ≤ 8589934592 := hl
    obtain ⟨d, x, rfl⟩ := hu.iface
    have c0 : w.cell? ⟨g, 0, none⟩ = some (.string op) := by rw [cell_of_row w g _ _ _ _ hg]; rfl
    have c1 : w.cell? ⟨g, 1, none⟩ = some (.iface d x) := by rw [cell_of_row w g _ _ _ _ hg]; rfl
    clear hg hl
    have Hu := Lib.hid hu
    clear hu
    go_enter Tryd.func15, Tryd.ntmps15
    have mk : ∀ w' : World, Below w.heap.size w w' → w'.cell? ⟨g, 0, none⟩ = some (.string op) ∧ w'.cell? ⟨g, 1, none⟩ = some (.iface d x) ∧ Below w.heap.size w w' := fun w' hb =>
      ⟨(hb.cell (p := ⟨g, 0, none⟩) (World.block_lt_of_cell? w _ c0)).trans c0, (hb.cell (p := ⟨g, 1, none⟩) (World.block_lt_of_cell? w _ c1)).trans c1, hb⟩
    have Mk := Lib.hid mk
    clear mk
    go_upto_region 4 with fail
    go_region_held3 (fun w' => w'.cell? ⟨g, 0, none⟩ = some (.string op) ∧ w'.cell? ⟨g, 1, none⟩ = some (.iface d x) ∧ Below w.heap.size w w')
      (first | exact Mk.out _ (bel_drew w) | exact Mk.out _ hB3 | exact Mk.out _ hB | exact Mk.out _ ((Below.refl _ _).alloc (Nat.le_refl _) _).drew | exact Mk.out _ (hB.alloc hB.size _))
      (first
        | (go_at_call 15; refine (ih _ _ (Hu.out.below (‹_ ∧ _ ∧ Below w.heap.size w _›).2.2) (by omega)).mono ?_; rintro e w2 ⟨A2, cap2, rfl, hown2, hb2⟩; have hB := bel_next (‹_ ∧ _ ∧ Below w.heap.size w _›).2.2 hb2; replace hown2 := hown2.mono (‹_ ∧ _ ∧ Below w.heap.size w _›).2.2.size)
        | (have hown1 := ((Own.single w w.heap.size 9 (strR op) (Nat.le_refl _)).kept (Keep.drew _) (by simp)).below hb2; refine step_appends (by rfl) _ _ _ (by rfl) einfoStr (by rfl) hown1 (by rfl) hown2.slr (fun e => (hown2.cap_le.2 e).2) strs_one (by omega) (by omega) hB.size ?_; intro A3 cap3 w3 hown3 hk3 hsub3; have hB3 := hB.trans (hk3.below hB.size (fun y hy => (hown1.at_base hy).1)))
        | (have hown1 := Own.single w2 w.heap.size 9 (strR op) hB.size; have hba := (Below.refl w2.heap.size w2).alloc (Nat.le_refl _) (.cells (strR op) 9); have hown2' := hown2.below hba; have hBa := hB.trans (hba.mono hB.size); refine step_appends (by rfl) _ _ _ (by rfl) einfoStr (by rfl) hown1 (by rfl) hown2'.slr (fun e => (hown2'.cap_le.2 e).2) strs_one (by omega) (by omega) hBa.size ?_; intro A3 cap3 w3 hown3 hk3 hsub3; have hB3 := hBa.trans (hk3.below hBa.size (fun y hy => (hown1.at_base hy).1))))
    all_goals
      have hlen : 1 + (opsOf t).length = (opsOf (.wrap op t)).length := by show _ = (opsOf t).length + 1; omega
      have Hlen := Lib.hid hlen
      have Hown3 := Lib.hid hown3
      have HB3 := Lib.hid hB3
      clear hlen hown3 hB3 hB hk3 hsub3
      go_wp2_with fail
      go_ret
      refine ⟨A3, cap3, ?_, ?_, HB3.out⟩
      · rw [← Hlen.out]; rfl
      · rw [← Hlen.out]; exact Hown3.out
  | both a b ih1 ih2 =>
    intro v w h hl
    obtain ⟨g, u1, u2, rfl, hg, hu1, hu2⟩ := h
    have hl2 : (opsOf a).length + (opsOf b).length ≤ 8589934592 := by have : (opsOf a ++ opsOf b).length ≤ 8589934592 := hl; rwa [List.length_append] at this
    obtain ⟨d1, x1, rfl⟩ := hu1.iface
    obtain ⟨d2, x2, rfl⟩ := hu2.iface
    have c0 : w.cell? ⟨g, 0, none⟩ = some (.iface d1 x1) := by rw [cell_of_row w g _ _ _ _ hg]; rfl
    have c1 : w.cell? ⟨g, 1, none⟩ = some (.iface d2 x2) := by rw [cell_of_row w g _ _ _ _ hg]; rfl
    clear hg hl
    have Hu1 := Lib.hid hu1
    have Hu2 := Lib.hid hu2
    clear hu1 hu2
    go_enter Tryd.func15, Tryd.ntmps15
    have mk : ∀ w' : World, Below w.heap.size w w' → w'.cell? ⟨g, 0, none⟩ = some (.iface d1 x1) ∧ w'.cell? ⟨g, 1, none⟩ = some (.iface d2 x2) ∧ Below w.heap.size w w' := fun w' hb =>
      ⟨(hb.cell (p := ⟨g, 0, none⟩) (World.block_lt_of_cell? w _ c0)).trans c0, (hb.cell (p := ⟨g, 1, none⟩) (World.block_lt_of_cell? w _ c1)).trans c1, hb⟩
    have Mk := Lib.hid mk
    clear mk
    go_upto_region 7 with fail
    go_region_held3 (fun w' => w'.cell? ⟨g, 0, none⟩ = some (.iface d1 x1) ∧ w'.cell? ⟨g, 1, none⟩ = some (.iface d2 x2) ∧ Below w.heap.size w w')
      (first | exact Mk.out _ (bel_drew w) | exact Mk.out _ hB3 | exact Mk.out _ hB2 | exact Mk.out _ hB)
      (first
        | (go_at_call 15; have hfirst : w.heap.size ≤ w.drew.heap.size := Nat.le_refl _; (with_reducible refine (ih1 (.iface d1 x1) _ ?_ (by omega)).mono ?_); exact Hu1.out.below (‹_ ∧ _ ∧ Below w.heap.size w _›).2.2; rintro e w1 ⟨A1, cap1, rfl, hown1, hb1⟩; have hB := bel_next (‹_ ∧ _ ∧ Below w.heap.size w _›).2.2 hb1; replace hown1 := hown1.mono (‹_ ∧ _ ∧ Below w.heap.size w _›).2.2.size; try replace hown2 := hown2.below hb1; try (have hB2 := hB))
        | (go_at_call 15; (with_reducible refine (ih2 (.iface d2 x2) _ ?_ (by omega)).mono ?_); exact Hu2.out.below (‹_ ∧ _ ∧ Below w.heap.size w _›).2.2; rintro e w2 ⟨A2, cap2, rfl, hown2, hb2⟩; have hB := bel_next (‹_ ∧ _ ∧ Below w.heap.size w _›).2.2 hb2; replace hown2 := hown2.mono (‹_ ∧ _ ∧ Below w.heap.size w _›).2.2.size; try replace hown1 := hown1.below hb2; try (have hB2 := hB))
        | (refine step_appends (by rfl) _ _ _ (by rfl) einfoStr (by rfl) hown1 (by rfl) hown2.slr (fun e => (hown2.cap_le.2 e).2) strs_one (by omega) (by omega) hB2.size ?_; intro A3 cap3 w3 hown3 hk3 hsub3; have hB3 := hB2.trans (hk3.below hB2.size (fun y hy => (hown1.at_base hy).1))))
    all_goals
      have hlen : (opsOf a).length + (opsOf b).length = (opsOf (.both a b)).length := by show _ = (opsOf a ++ opsOf b).length; rw [List.length_append]
      have hmap : (opsOf a).map strR ++ (opsOf b).map strR = (opsOf (.both a b)).map strR := by show _ = (opsOf a ++ opsOf b).map strR; rw [List.map_append]
      rw [hmap] at hown3
      have Hlen := Lib.hid hlen
      have Hown3 := Lib.hid hown3
      have HB3 := Lib.hid hB3
      clear hlen hown1 hown2 hown3 hB3 hB2 hB hk3 hsub3 hmap
      go_wp2_with fail
      go_ret
      refine ⟨A3, cap3, ?_, ?_, HB3.out⟩
      · rw [← Hlen.out]; rfl
      · rw [← Hlen.out]; exact Hown3.out

end Go.Proofs.YtiihicmodohaeaaDoor
