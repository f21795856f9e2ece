/- Bytes, written: package octet's Writer. -/
import Derived.Test.YtlonihfhgfmplaaLex
import Derived.Test.YtlonihfhgfmplaaSlice
import Derived.Test.YtlonihfhgfmplaaIds
import Derived.Lib.AppendStr
import Derived.Laws.BytesString
import Derived.Lib.BufferRead
import Derived.Defers
namespace Go.Proofs.Ytlonihfhgfmplaa
open Go.RowKit

/-! ### Appending a text to bytes of one's own -/
def byteR (c : UInt8) : Array Value := #[byteC c]
def bytesR (bs : List UInt8) : List (Array Value) := bs.map byteR
theorem bytesR_flat (bs : List UInt8) : (bytesR bs).flatMap Array.toList = bs.map byteC := by
  induction bs with
  | nil => rfl
  | cons b bs ih => simp only [bytesR, List.map_cons, List.flatMap_cons] at ih ⊢; rw [ih]; rfl
theorem strCells_eq (s : ByteArray) : Go.Lib.strCells s = s.data.toList.map byteC := rfl

theorem append_str {P : Program} {T U E : TypeId} {i : TypeInfo} (ht : P.underlying T = some (.slice E)) (hu : P.underlying U = some .string) (hi : P.info? E = some i) (hz : i.zero = some (.int .u8 0)) (hsize : i.size = 1) (hby : i.bytes = 1)
    {w : World} {B : Nat} {A : Option Addr} {n cap : Nat} {bs : List UInt8} (hown : Own w B E 1 A n cap (bytesR bs)) (s : ByteArray) (hbytes : n + s.size ≤ 140737488355328) (hB : B ≤ w.heap.size) (ty : TypeId) :
    ∃ A' cap' w', (Builtin.append_ #[T, U] ty #[.slice A n cap, .string s]).run P w = .ok (.slice A' (n + s.size) cap') w' ∧ Own w' B E 1 A' (n + s.size) cap' (bytesR (bs ++ s.data.toList)) ∧ Keep (blk A) w w' ∧ (∀ x ∈ blk A', x ∈ blk A ∨ w.heap.size ≤ x) := by
  have hrow := hown.row
  rw [bytesR_flat] at hrow
  have hml : n + s.size ≤ maxLen := by simp only [maxLen]; omega
  obtain ⟨v', w', hr, h2, h3, h4⟩ := Go.Lib.run_append_own_string (P := P) w B T U ty E i ht hu hi hz hsize hby _ n _ hrow s hml hbytes hB
  have hform : ∃ A' cap', v' = .slice A' (n + s.size) cap' := by
    rcases h2.2 with ⟨h0, h00⟩ | ⟨g, c', cur, hv, _⟩
    · exact ⟨none, 0, by rw [h0, h00]⟩
    · exact ⟨_, _, hv⟩
  obtain ⟨A', cap', rfl⟩ := hform
  have hb : (Value.slice A n cap).ownBlock = (A.map (·.block)) := by cases A <;> rfl
  have hk := Keep.grown h3
  rw [hb] at hk
  refine ⟨A', cap', w', hr, ⟨?_, ?_, ?_⟩, hk, ?_⟩
  · rw [bytesR_flat, List.map_append]
    rw [strCells_eq] at h2
    exact h2
  · have := hown.len
    simp only [bytesR, List.length_map, List.length_append] at this ⊢
    rw [this]; rfl
  · intro c hc
    simp only [bytesR, List.mem_map] at hc
    obtain ⟨b, _, rfl⟩ := hc
    rfl
  · rcases hrow.2 with ⟨h0, h00⟩ | ⟨g, c, cur, hv, hbg, hg, hnc, hcm, hcs, htake⟩
    · intro x hx
      right
      have hr1 : w.ownsRow w.heap.size E 1 (.slice A n cap) n (bs.map byteC) := ⟨hrow.1, .inl ⟨h0, h00⟩⟩
      obtain ⟨v2, w2, hr2, g2, _, _⟩ := Go.Lib.run_append_own_string (P := P) w w.heap.size T U ty E i ht hu hi hz hsize hby _ n _ hr1 s hml hbytes (Nat.le_refl _)
      rw [hr] at hr2
      injection hr2 with e1 e2
      subst e1; subst e2
      rcases g2.2 with ⟨k0, _⟩ | ⟨g, c', cur, hv, hbg, _⟩
      · injection k0 with k0; subst k0; simp [blk] at hx
      · injection hv with hv; subst hv
        have : x = g := by simpa [blk] using hx
        omega
    · injection hv with hA hc1 hc2
      subst hA; subst hc2
      by_cases hroom : n + s.size ≤ cap
      · have hcs' : cur.size = cap := by simpa using hcs
        have hr2 := Go.Lib.run_append_room_string (P := P) w T U ty E i ht hu hi hsize g n cap cur hg s hroom (by omega)
        rw [hr] at hr2
        injection hr2 with e1 e2
        injection e1 with e1
        subst e1
        intro x hx; exact .inl hx
      · have hxl : (bs.map byteC).length = n := by simpa using hrow.1
        have holds : ∀ j u, (bs.map byteC)[j]? = some u → w.cell? ((⟨g, 0, none⟩ : Addr).add j) = some u := hrow.cells (g := g) rfl
        have hr2 := Go.Lib.run_append_grow_string (P := P) w T U ty E i (.int .u8 0) ht hu hi hz ⟨g, 0, none⟩ n cap _ (by rw [hsize]; simpa using hxl) holds s (by omega) (by omega) (by rw [hby]; exact growslice_fits (by omega) (by omega))
        rw [hr] at hr2
        injection hr2 with e1 e2
        injection e1 with e1
        subst e1
        intro x hx
        right
        have : x = w.heap.size := by simpa [blk] using hx
        omega

theorem L_append_str {P : Program} {ops : Array Oper} {Q : Exit → Act → World → Prop} {a : Act} {w : World} {rest : List Oper} {dst : Option Tmp} {sl x : Operand} {ty : TypeId} {pos : String} {after : Array Edge} {T U E : TypeId} {i : TypeInfo} (ht : P.underlying T = some (.slice E)) (hu : P.underlying U = some .string) (hi : P.info? E = some i) (hz : i.zero = some (.int .u8 0)) (hsize : i.size = 1) (hby : i.bytes = 1)
    {B : Nat} {A : Option Addr} {n cap : Nat} {bs : List UInt8} {s : ByteArray} (hs : a.eval sl = .slice A n cap) (hown : Own w B E 1 A n cap (bytesR bs)) (hx : a.eval x = .string s) (hbytes : n + s.size ≤ 140737488355328) (hB : B ≤ w.heap.size)
    (h : ∀ A' cap' w', Own w' B E 1 A' (n + s.size) cap' (bytesR (bs ++ s.data.toList)) → Keep (blk A) w w' → (∀ x ∈ blk A', x ∈ blk A ∨ w.heap.size ≤ x) → wpList P ops Q rest (a.put dst (.slice A' (n + s.size) cap')) w') :
    wpList P ops Q ({ dst := dst, op := .call { callee := .builtin .append, args := #[sl, x], argTypes := #[T, U] }, type := ty, pos := pos, after := after, guard := none } :: rest) a w := by
  obtain ⟨A', cap', w', hr, h1, h2, h3⟩ := append_str ht hu hi hz hsize hby hown s hbytes hB ty
  exact L_of_append hs hx hr (h A' cap' w' h1 h2 h3)

structure Wr where
  b : Value
  bad : Int
  made : Bool
/-- Its cells. -/
def wrC (x : Wr) : Array Value := #[x.b] ++ #[.int .i64 x.bad] ++ #[.bool x.made]
@[simp] theorem wrC_size (x : Wr) : (wrC x).size = 3 := by simp [wrC]
@[go_sem] theorem wrC_g0 (x : Wr) : (wrC x)[0]? = some (x.b) := by first | (simp [wrC, Array.getElem?_append]; done) | (rw [show wrC x = ((#[] : Array Value)) ++ #[x.b] ++ (#[.int .i64 x.bad] ++ #[.bool x.made]) from by apply Array.ext'; simp [wrC]]; exact arr_at _ _ _ _ (by simp))
@[go_sem] theorem wrC_gg0 (x : Wr) (h : 0 < (wrC x).size) : (wrC x)[0]'h = x.b := Option.some.inj ((Array.getElem?_eq_getElem h).symm.trans (wrC_g0 x))
@[go_sem] theorem wrC_g1 (x : Wr) : (wrC x)[1]? = some (.int .i64 x.bad) := by first | (simp [wrC, Array.getElem?_append]; done) | (rw [show wrC x = (#[x.b]) ++ #[.int .i64 x.bad] ++ (#[.bool x.made]) from by apply Array.ext'; simp [wrC]]; exact arr_at _ _ _ _ (by simp))
@[go_sem] theorem wrC_gg1 (x : Wr) (h : 1 < (wrC x).size) : (wrC x)[1]'h = .int .i64 x.bad := Option.some.inj ((Array.getElem?_eq_getElem h).symm.trans (wrC_g1 x))
@[go_sem] theorem wrC_g2 (x : Wr) : (wrC x)[2]? = some (.bool x.made) := by first | (simp [wrC, Array.getElem?_append]; done) | (rw [show wrC x = (#[x.b] ++ #[.int .i64 x.bad]) ++ #[.bool x.made] ++ ((#[] : Array Value)) from by apply Array.ext'; simp [wrC]]; exact arr_at _ _ _ _ (by simp))
@[go_sem] theorem wrC_gg2 (x : Wr) (h : 2 < (wrC x).size) : (wrC x)[2]'h = .bool x.made := Option.some.inj ((Array.getElem?_eq_getElem h).symm.trans (wrC_g2 x))
@[go_sem] theorem wrC_all (x : Wr) : (wrC x).extract 0 3 = wrC x := by have := Array.extract_size (xs := wrC x); rwa [wrC_size] at this
theorem wrC_inj {x y : Wr} (h : wrC x = wrC y) : x = y := by
  have h0 := congrArg (fun a => a[0]?) h
  simp only [wrC_g0, Option.some.injEq] at h0
  have h1 := congrArg (fun a => a[1]?) h
  simp only [wrC_g1, Option.some.injEq, Value.int.injEq, true_and] at h1
  have h2 := congrArg (fun a => a[2]?) h
  simp only [wrC_g2, Option.some.injEq, Value.bool.injEq] at h2
  cases x; cases y; simp_all
theorem wrC_one (x : Wr) (hb : x.b.oneCell' = true) : ∀ u ∈ (wrC x).toList, u.oneCell' = true := by
  intro u hu
  simp only [wrC, Array.toList_append, List.mem_append] at hu
  rcases hu with (hu | hu) | hu
  · simp at hu; subst hu; exact hb
  · simp at hu; subst hu; rfl
  · simp at hu; subst hu; rfl
def wr0 : Wr := ⟨(.slice none 0 0), 0, false⟩
theorem infoWr : (Try.prog.info? 151).map (·.size) = some 3 := by kernel_rfl
@[go_sem ↓] theorem zeroWr_run (w : World) : (zeroValue 151).run Try.prog w = .ok (.agg (wrC wr0)) w := by
  have h : (Try.prog.info? 151).bind (·.zero) = some (.agg (wrC wr0)) := by kernel_rfl
  cases hi : Try.prog.info? 151 with
  | none => rw [hi] at h; cases h
  | some i =>
    rw [hi] at h
    have hz : i.zero = some (.agg (wrC wr0)) := h
    simp [zeroValue, typeInfo, hi, hz]
@[go_sem ↓] theorem loadWr_rw (a : Addr) : loadVar 151 a = ldS 151 a := rfl
@[go_sem ↓] theorem storeWr_rw (a : Addr) (v : Value) : storeVar 151 a v = stS 151 a v := rfl
@[go_sem] theorem loadWr_run (w : World) (g o : Nat) : (ldS 151 ⟨g, o, none⟩).run Try.prog w = match rowAt w g o 3 with | some cs => .ok (.agg cs) w | none => (loadVar 151 ⟨g, o, none⟩).run Try.prog w :=
  run_ldS Try.underlying151 rfl infoWr w g o
@[go_sem] theorem storeWr_run (w : World) (g : Nat) (hg : g = w.heap.size) (z : Array Value) (hz : z.size = 3) (x : Wr) (hb : x.b.oneCell' = true) (e : TypeId) : (stS 151 ⟨g, 0, none⟩ (.agg (wrC x))).run Try.prog (w.alloc (.cells z e)) = .ok () (w.alloc (.cells (wrC x) e)) :=
  hg ▸ run_stS_new infoWr w z (wrC x) hz (wrC_size x) (wrC_one x hb)
theorem fieldsWr : Try.prog.underlying 151 = some (.struct (Try.prog.fieldsOf 151)) := by kernel_rfl
theorem placesWr (w : World) : ((Try.prog.fieldsOf 151).mapM fun (f : Field) => do pure (f.offset, ← sizeOf f.type)).run Try.prog w = .ok #[(0, 1), (1, 1), (2, 1)] w := by kernel_rfl
@[go_sem ↓] theorem buildWr_rw (parts : Array (Nat × Value)) : Instr.build 151 parts = bdS 151 parts := rfl
@[go_sem] theorem buildWr (a0 : Value) (a1 : Int) (a2 : Bool) (k0 : (a0).cells = #[a0]) (w : World) : (bdS 151 #[(0, a0), (1, .int .i64 a1), (2, .bool a2)]).run Try.prog w = .ok (.agg (wrC ⟨a0, a1, a2⟩)) w := by
  refine run_build w fieldsWr _ (zeroWr_run w) _ (placesWr w) [(0, a0), (1, .int .i64 a1), (2, .bool a2)] _ ?_
  rw [show wrC wr0 = (#[] : Array Value) ++ #[(.slice none 0 0)] ++ (#[.int .i64 0] ++ (#[.bool false])) from by first | (simp [wrC, wr0, Array.append_assoc]; done) | (apply Array.ext'; simp [wrC, wr0])]
  rw [fill_step (off := 0) (size := 1) rfl (by simp) (by simp) (by simp [k0])]
  rw [show (#[] : Array Value) ++ (a0).cells ++ (#[.int .i64 0] ++ (#[.bool false])) = (#[a0]) ++ #[.int .i64 0] ++ (#[.bool false]) from by first | (simp [k0, Array.append_assoc]; done) | (apply Array.ext'; simp [k0]; done) | (apply Array.ext'; simp only [Array.toList_append, k0]; simp [Value.cells])]
  rw [fill_step (off := 1) (size := 1) rfl (by simp) (by simp) (by simp [Value.cells])]
  rw [show (#[a0]) ++ (Value.int .i64 a1).cells ++ (#[.bool false]) = (#[a0] ++ (#[.int .i64 a1])) ++ #[.bool false] ++ (#[] : Array Value) from by first | (simp [k0, Array.append_assoc]; done) | (apply Array.ext'; simp [k0]; done) | (apply Array.ext'; simp only [Array.toList_append, k0]; simp [Value.cells])]
  rw [fill_step (off := 2) (size := 1) rfl (by simp) (by simp) (by simp [Value.cells])]
  first | (simp [Instr.fill, wrC, Array.append_assoc, Value.cells]; done) | (simp only [Instr.fill, wrC, k0]; congr 1; apply Array.ext'; simp [Value.cells, k0]; done) | (simp only [Instr.fill, wrC, k0]; congr 1; done) | (simp only [Instr.fill, wrC, k0]; done)
@[go_sem] theorem buildWr_2 (a2 : Bool) (w : World) : (bdS 151 #[(2, .bool a2)]).run Try.prog w = .ok (.agg (wrC ⟨(.slice none 0 0), 0, a2⟩)) w := by
  refine run_build w fieldsWr _ (zeroWr_run w) _ (placesWr w) [(2, .bool a2)] _ ?_
  rw [show wrC wr0 = (#[(.slice none 0 0)] ++ (#[.int .i64 0])) ++ #[.bool false] ++ (#[] : Array Value) from by first | (simp [wrC, wr0, Array.append_assoc]; done) | (apply Array.ext'; simp [wrC, wr0])]
  rw [fill_step (off := 2) (size := 1) rfl (by simp) (by simp) (by simp [Value.cells])]
  first | (simp [Instr.fill, wrC, Array.append_assoc, Value.cells]; done) | (simp only [Instr.fill, wrC]; congr 1; apply Array.ext'; simp [Value.cells]; done) | (simp only [Instr.fill, wrC]; congr 1; done) | (simp only [Instr.fill, wrC]; done)

theorem einfoByte : ElemInfo Try.prog 100 5 1 1 :=
  .of (z := .int .u8 0) Try.underlying100 (by kernel_rfl) (by kernel_rfl) (by kernel_rfl) rfl (by omega)

theorem byteInfo : ∃ i, Try.prog.info? 5 = some i ∧ i.zero = some (.int .u8 0) ∧ i.size = 1 ∧ i.bytes = 1 := by
  have hz : (Try.prog.info? 5).bind (·.zero) = some (.int .u8 0) := by kernel_rfl
  have hs : (Try.prog.info? 5).map (·.size) = some 1 := by kernel_rfl
  have hb : (Try.prog.info? 5).map (·.bytes) = some 1 := by kernel_rfl
  cases hi : Try.prog.info? 5 with
  | none => rw [hi] at hz; cases hz
  | some i =>
    rw [hi] at hz hs hb
    exact ⟨i, rfl, hz, by simpa using hs, by simpa using hb⟩
/-- A writer that has the bytes bs, and no fault. -/
structure WrAt (w : World) (B g : Nat) (A : Option Addr) (cap : Nat) (bs : List UInt8) : Prop where
  heap : w.heap[g]? = some (.cells (wrC ⟨.slice A bs.length cap, 0, true⟩) 151 (0, 0))
  own : Own w B 5 1 A bs.length cap (bytesR bs)
  ne : g ∉ blk A
  base : B ≤ w.heap.size
theorem WrAt.lt {w : World} {B g : Nat} {A : Option Addr} {cap : Nat} {bs : List UInt8} (h : WrAt w B g A cap bs) : g < w.heap.size := (Array.getElem?_eq_some_iff.1 h.heap).1
theorem WrAt.cell {w : World} {B g : Nat} {A : Option Addr} {cap : Nat} {bs : List UInt8} (h : WrAt w B g A cap bs) :
    w.cell? ⟨g, 0, none⟩ = some (.slice A bs.length cap) ∧ w.cell? ⟨g, 1, none⟩ = some (.int .i64 0) ∧ w.cell? ⟨g, 2, none⟩ = some (.bool true) := by
  refine ⟨?_, ?_, ?_⟩ <;> rw [cell_of_row w g _ _ _ _ h.heap] <;> simp [go_sem]
theorem WrAt.kept {w w' : World} {B g : Nat} {A : Option Addr} {cap : Nat} {bs : List UInt8} {S : List Nat} (h : WrAt w B g A cap bs) (k : Keep S w w') (hg : g ∉ S) (hn : ∀ x ∈ blk A, x ∉ S) : WrAt w' B g A cap bs :=
  ⟨(k.block g h.lt hg).trans h.heap, h.own.kept k hn, h.ne, Nat.le_trans h.base k.size⟩
theorem WrAt.below {w w' : World} {B g : Nat} {A : Option Addr} {cap : Nat} {bs : List UInt8} (h : WrAt w B g A cap bs) (k : Below w.heap.size w w') : WrAt w' B g A cap bs := h.kept (Keep.of_below k) (by simp) (by simp)
/-- What a step of writing leaves. -/
def WStep (w : World) (B g : Nat) (A : Option Addr) (bs : List UInt8) (w' : World) : Prop :=
  ∃ A' cap', WrAt w' B g A' cap' bs ∧ Keep (g :: blk A) w w' ∧ ∀ x ∈ blk A', x ∈ blk A ∨ w.heap.size ≤ x

theorem wnew (w : World) : Calls Try.prog 49 #[] w fun e w' => e = .returned (.pointer (some ⟨w.heap.size, 0, none⟩)) ∧ WrAt w' (w.heap.size + 1) w.heap.size none 0 [] ∧ Below w.heap.size w w' := by
  go_enter Try.func49, Try.ntmps49
  go_wp2_with fail
  go_ret
  refine ⟨rfl, ⟨heap_alloc_new w _, Own.nil _ _ _ _, by simp [blk], by simp⟩, (Below.refl _ _).alloc (Nat.le_refl _) _⟩
theorem wnone (w : World) (g : Nat) (h : w.cell? ⟨g, 2, none⟩ = some (.bool true)) : Calls Try.prog 88 #[.pointer (some ⟨g, 0, none⟩)] w fun e w' => e = .returned (.bool false) ∧ w = w' := by
  go_enter Try.func88, Try.ntmps88
  go_wp2_with fail
  go_ret
  exact ⟨rfl, rfl⟩

theorem heap_setCell_same {w : World} {g : Nat} {c : Array Value} {T : TypeId} {fr : Nat × Nat} (h : w.heap[g]? = some (.cells c T fr)) (j : Nat) (u : Value) : (w.setCell ⟨g, j, none⟩ u).heap[g]? = some (.cells (c.setIfInBounds j u) T fr) := by
  obtain ⟨hlt, hg⟩ := Array.getElem?_eq_some_iff.1 h
  show (w.heap.modify g _)[g]? = _
  rw [Array.getElem?_modify]
  simp [h]
theorem wr_store {w w1 : World} {B g : Nat} {A A' : Option Addr} {cap cap' : Nat} {bs bs' : List UInt8} (h : WrAt w B g A cap bs) (hk : Keep (blk A) w w1) (hown : Own w1 B 5 1 A' bs'.length cap' (bytesR bs')) (hsub : ∀ x ∈ blk A', x ∈ blk A ∨ w.heap.size ≤ x) :
    WStep w B g A bs' (w1.setCell ⟨g, 0, none⟩ (.slice A' bs'.length cap')) := by
  have hg : w1.heap[g]? = some (.cells (wrC ⟨.slice A bs.length cap, 0, true⟩) 151 (0, 0)) := (hk.block g h.lt h.ne).trans h.heap
  have hne : g ∉ blk A' := not_later h.ne h.lt hsub
  have hs : Keep [g] w1 (w1.setCell ⟨g, 0, none⟩ (.slice A' bs'.length cap')) := Keep.setCell w1 ⟨g, 0, none⟩ _
  refine ⟨A', cap', ⟨?_, hown.kept hs (fun x hx e => hne (by simp at e; rw [← e]; exact hx)), hne, ?_⟩, ?_, hsub⟩
  · rw [heap_setCell_same hg]
    simp [wrC]
  · have h1 := hk.size; have h2 := hs.size; have h3 := h.base; omega
  · exact Keep.trans (hk.mono (S' := g :: blk A) (fun x hx => .inl (by simp [hx]))) hs (fun x hx => .inl (by simp at hx; simp [hx]))
theorem wr_facts {w w1 : World} {B g : Nat} {A : Option Addr} {cap : Nat} {bs : List UInt8} (h : WrAt w B g A cap bs) (hk : Keep (blk A) w w1) :
    (∀ j, w1.frozen? ⟨g, j, none⟩ = false) ∧ w1.cell? ⟨g, 0, none⟩ = some (.slice A bs.length cap) ∧ w1.cell? ⟨g, 1, none⟩ = some (.int .i64 0) := by
  have hg : w1.heap[g]? = some (.cells (wrC ⟨.slice A bs.length cap, 0, true⟩) 151 (0, 0)) := (hk.block g h.lt h.ne).trans h.heap
  refine ⟨fun j => by simp [World.frozen?, hg], ?_, ?_⟩ <;> rw [cell_of_row w1 g _ _ _ _ hg] <;> simp [go_sem]

set_option maxRecDepth 100000 in
set_option maxHeartbeats 1000000 in
theorem wraw (w : World) (B g : Nat) (A : Option Addr) (cap : Nat) (bs : List UInt8) (h : WrAt w B g A cap bs) (s : ByteArray) (hs : bs.length + s.size ≤ 1000000000) :
    Calls Try.prog 51 #[.pointer (some ⟨g, 0, none⟩), .string s] w fun e w' => e = .returned (.pointer (some ⟨g, 0, none⟩)) ∧ WStep w B g A (bs ++ s.data.toList) w' := by
  obtain ⟨c0, c1, c2⟩ := h.cell
  go_enter Try.func51, Try.ntmps51
  go_wp2_with fail
  refine (wnone _ _ c2).mono ?_; rintro e w' ⟨rfl, rfl⟩
  obtain ⟨i, i1, i2, i3, i4⟩ := byteInfo
  have hown := h.own
  have hb := h.base
  go_wp2_with (at_builtin; refine L_append_str Try.underlying100 Try.underlying9 i1 i2 i3 i4 rfl hown rfl (by omega) hb ?_; intro A' cap' w' hown' hk hsub; obtain ⟨f0, d0, _⟩ := wr_facts h hk; have f0 := f0 0)
  go_ret
  have e : (bs ++ s.data.toList).length = bs.length + s.size := by rw [List.length_append]; rfl
  have hw := wr_store h hk (bs' := bs ++ s.data.toList) (cap' := cap') (by rw [e]; exact hown') hsub
  rw [e] at hw
  exact ⟨rfl, hw⟩

theorem wfail_d (g e : Nat) (u : FrameMode) (w : World) (hb : w.cell? ⟨g, 1, none⟩ = some (.int .i64 0)) (he : w.cell? ⟨e, 0, none⟩ = some (.int .i64 0)) (hz : w.frozen? ⟨g, 1, none⟩ = false) :
    CallsD Try.prog 89 #[.pointer (some ⟨g, 0, none⟩), .pointer (some ⟨e, 0, none⟩)] u w fun en u' w' => u' = u ∧ (en = .returned (.tuple #[]) ∧ w' = w.setCell ⟨g, 1, none⟩ (.int .i64 0)) := by
  go_enter_d Try.func89, Try.ntmps89
  go_wp2
  go_end0
  exact ⟨rfl, rfl⟩

theorem obits (n : Int) (w : World) (hn : n = 1 ∨ n = 2 ∨ n = 4) : Calls Try.prog 90 #[.int .i64 n] w fun e w' => e = .returned (.int .i64 (8 * n)) ∧ w = w' := by
  rcases hn with rfl | rfl | rfl
  · go_enter Try.func90, Try.ntmps90
    go_wp2_with fail
    go_ret
    exact ⟨rfl, rfl⟩
  · go_enter Try.func90, Try.ntmps90
    go_wp2_with fail
    go_ret
    exact ⟨rfl, rfl⟩
  · go_enter Try.func90, Try.ntmps90
    go_wp2_with fail
    go_ret
    exact ⟨rfl, rfl⟩

/-- A number's bytes, the greatest first. -/
def beL : Nat → Nat → List UInt8
  | 0, _ => []
  | m + 1, n => UInt8.ofNat (n / 256 ^ m) :: beL m n
theorem beL_length : ∀ m n, (beL m n).length = m
  | 0, _ => rfl
  | m + 1, n => by simp [beL, beL_length m n]
theorem wstep_trans {w w1 w2 : World} {B g : Nat} {A A1 : Option Addr} {cap1 : Nat} {bs1 bs2 : List UInt8} (h1 : WrAt w1 B g A1 cap1 bs1) (hk : Keep (g :: blk A) w w1) (hsub : ∀ x ∈ blk A1, x ∈ blk A ∨ w.heap.size ≤ x) (h : WStep w1 B g A1 bs2 w2) : WStep w B g A bs2 w2 := by
  obtain ⟨A2, cap2, h2, hk2, hsub2⟩ := h
  refine ⟨A2, cap2, h2, Keep.trans hk hk2 (fun x hx => ?_), fun x hx => ?_⟩
  · rcases List.mem_cons.1 hx with rfl | hx
    · left; simp
    · rcases hsub x hx with h | h
      · left; simp [h]
      · right; exact h
  · rcases hsub2 x hx with h | h
    · exact hsub x h
    · right; have := hk.size; omega

theorem wr_bad {w : World} {B g : Nat} {A : Option Addr} {cap : Nat} {bs : List UInt8} (h : WrAt w B g A cap bs) : WStep w B g A bs (w.setCell ⟨g, 1, none⟩ (.int .i64 0)) := by
  have hs : Keep [g] w (w.setCell ⟨g, 1, none⟩ (.int .i64 0)) := Keep.setCell w ⟨g, 1, none⟩ _
  refine ⟨A, cap, ⟨?_, h.own.kept hs (fun x hx e => h.ne (by simp at e; rw [← e]; exact hx)), h.ne, Nat.le_trans h.base hs.size⟩, hs.mono (fun x hx => .inl (by simp at hx; simp [hx])), fun x hx => .inl hx⟩
  rw [heap_setCell_same h.heap]
  simp [wrC]

set_option maxRecDepth 100000 in
set_option maxHeartbeats 4000000 in
theorem wnum (w : World) (B g : Nat) (A : Option Addr) (cap : Nat) (bs : List UInt8) (h : WrAt w B g A cap bs) (n M : Nat) (hM : M = 1 ∨ M = 2 ∨ M = 4) (hn : n < 256 ^ M) (hs : bs.length + M ≤ 1000000000) :
    Calls Try.prog 50 #[.pointer (some ⟨g, 0, none⟩), .int .i64 n, .int .i64 M] w fun e w' => e = .returned (.pointer (some ⟨g, 0, none⟩)) ∧ WStep w B g A (bs ++ beL M n) w' := by
  obtain ⟨c0, c1, c2⟩ := h.cell
  have hp : (256 : Nat) ^ M = 2 ^ (8 * M) := by rw [show (256 : Nat) = 2 ^ 8 from rfl, ← Nat.pow_mul]
  have hsh : ((n : Int) / 2 ^ (8 * M) != 0) = false := by
    have h1 : n / 2 ^ (8 * M) = 0 := Nat.div_eq_of_lt (by rw [← hp]; exact hn)
    have h2 : ((n / 2 ^ (8 * M) : Nat) : Int) = (n : Int) / 2 ^ (8 * M) := by simp
    rw [← h2, h1]; rfl
  have hbw : Below w.heap.size w (w.alloc (.cells #[.int .i64 0] 29)) := (Below.refl _ _).alloc (Nat.le_refl _) _
  have hw1 := h.below hbw
  have hA : ∀ x ∈ blk A, x < w.heap.size := fun x hx => (h.own.at_base hx).2
  have hgl := h.lt
  have hz : (8 * (M : Int) == 0) = false := by rw [beq_eq_false_iff_ne]; omega
  go_enter_defers Try.func50, Try.ntmps50
  go_wp2_with fail
  refine (wnone _ _ c2).mono ?_; rintro e w' ⟨rfl, rfl⟩
  go_wp2_with fail
  refine (obits M _ (by omega)).mono ?_; rintro e w' ⟨rfl, rfl⟩
  go_wp2_with fail
  have he0 : (w.alloc (.cells #[.int .i64 0] 29)).cell? ⟨w.heap.size, 0, none⟩ = some (.int .i64 0) := by simp [go_sem]
  clear hsh hbw c0 c1 c2 hn
  generalize hW : w.alloc (.cells #[.int .i64 0] 29) = W at *
  go_loopw [8] (fun kv wr => ∃ (j : Nat) (pre : List UInt8), j ≤ M ∧ pre.length + j = M ∧ kv = .int .i64 (8 * (j : Int)) ∧ Hid (pre ++ beL j n = beL M n) ∧ WStep W B g A (bs ++ pre) wr) (fun kv _ => (intOf kv).toNat)
  case atStart => exact ⟨M, [], Nat.le_refl _, by simp, rfl, rfl, A, cap, by simpa using hw1, Keep.refl _ _, fun x hx => .inl hx⟩
  case round =>
    obtain ⟨j, pre, hj, hpl, rfl, hpre, A1, cap1, hwr, hk, hsub⟩ := hrel
    have Hsub := Lib.hid hsub
    by_cases hj0 : j = 0
    · subst hj0
      have he1 : wr.cell? ⟨w.heap.size, 0, none⟩ = some (.int .i64 0) := (hk.cell (p := ⟨w.heap.size, 0, none⟩) (by rw [← hW]; simp) (by
        simp only [List.mem_cons, not_or]
        exact ⟨by omega, fun hx => by have := hA _ hx; omega⟩)).trans he0
      obtain ⟨f1, _, d1⟩ := wr_facts hwr (Keep.refl _ _)
      have f1 := f1 1
      have hpe : pre = beL M n := by have := hpre.out; simpa [beL] using this
      subst hpe
      go_wp2_with fail
      refine leaves_cons (f := 89) (args := #[.pointer (some ⟨g, 0, none⟩), .pointer (some ⟨w.heap.size, 0, none⟩)]) (by simp) (by simp [go_sem]) ?_
      refine (wfail_d g w.heap.size .returning _ d1 he1 f1).mono ?_
      rintro e u' w'' ⟨rfl, rfl, rfl⟩
      refine ⟨_, results_tmp rfl _ _ _, rfl, ?_⟩
      have h0 : Keep [] w W := by rw [← hW]; exact Keep.alloc _ _
      exact wstep_trans hw1 (h0.mono (by simp)) (fun x hx => .inl hx) (wstep_trans hwr hk Hsub.out (wr_bad hwr))
    · obtain ⟨j, rfl⟩ : ∃ j', j = j' + 1 := ⟨j - 1, by omega⟩
      have e8 : 8 * ((j : Int) + 1) - 8 = ((8 * j : Nat) : Int) := by omega
      obtain ⟨c0, _, _⟩ := hwr.cell
      have hwlt := hwr.lt
      obtain ⟨c, hc⟩ : ∃ c, UInt8.ofNat (n / 256 ^ j) = c := ⟨_, rfl⟩
      have eb : IntKind.u8.wrap ((n : Int) / 2 ^ (8 * (j : Int)).toNat) = ((c.toNat : Nat) : Int) := by
        rw [← hc]
        have h1 : (8 * (j : Int)).toNat = 8 * j := by omega
        have h2 : (256 : Nat) ^ j = 2 ^ (8 * j) := by rw [show (256 : Nat) = 2 ^ 8 from rfl, ← Nat.pow_mul]
        have h3 : ((n / 2 ^ (8 * j) : Nat) : Int) = (n : Int) / 2 ^ (8 * j) := by simp
        rw [h1, ← h3, h2]
        simp [IntKind.wrap, IntKind.signed, IntKind.bits]
      go_upto_region 8 with fail

      refine wp_region_lexf (Kp (blk A1) wr) false (by kernel_rfl) (by kernel_rfl) (by kernel_rfl) (by kernel_rfl) (kp_drew (blk A1) wr) ?_
      have hne := kp_some (blk A1) wr
      have hS := kp_drew (blk A1) wr
      have b1 := ksub_cell c0 hwr.ne
      repeat (refine wpLx_loose ?_ ?_; (focus (simp only [chainOp]; done)); intro K hK; go_simp; refine hK _ ?_; clear hK K)
      refine wpLx_chain ?_ ?_ ?_
      focus (exact hS)
      focus (simp only [chainOp]; done)
      intro K hK
      go_simp
      refine step_keep (Keep.trans (Keep.trans (Keep.refl (blk A1) wr) (Keep.alloc wr _) (by simp)) (Keep.drew _) (by simp)) (fun hS2 => ?_)
      refine hK _ _ ?_
      clear hK K
      have hk0 : Keep [] wr (wr.alloc (.cells #[.int .u8 c.toNat] 5)).drew := Keep.trans (Keep.alloc wr _) (Keep.drew _) (by simp)
      have hownr := hwr.own.kept hk0 (by simp)
      have hrow2 : rowAt (wr.alloc (.cells #[.int .u8 c.toNat] 5)).drew wr.heap.size 0 1 = some (byteR c) := by simp [go_sem, byteR, byteC]
      have hlen0 : (bs ++ pre).length = bs.length + pre.length := List.length_append
      rw [hlen0] at hownr
      have hB1 := hwr.base
      refine Lx_append einfoByte rfl hownr rfl hrow2 (by simp [byteR, byteC]; rfl) (by omega) (by omega) (by simp; omega) ?_
      intro A2 cap2 w2 hown2 hk2 hsub2
      have hk3 : Keep (blk A1) wr w2 := Keep.trans (hk0.mono (S' := blk A1) (by simp)) hk2 (fun x hx => .inl hx)
      refine step_keep hk3 (fun hS3 => ?_)
      repeat (refine wpLx_loose ?_ ?_; (focus (simp only [chainOp]; done)); intro K hK; go_simp; refine hK _ ?_; clear hK K)
      obtain ⟨f0, d0, _⟩ := wr_facts hwr hk3
      have f0 := f0 0
      refine wpLx_end ?_ ?_
      focus (simp only [chainOp]; done)
      intro K hK
      go_simp
      refine hK _ _ ?_
      clear hK K
      have hl2 : (bs ++ (pre ++ [c])).length = bs.length + pre.length + 1 := by simp [Nat.add_assoc]
      have hst := wr_store hwr hk3 (bs' := bs ++ (pre ++ [c])) (A' := A2) (cap' := cap2) (by rw [hl2, ← List.append_assoc]; simpa [bytesR] using hown2) (fun x hx => by
        rcases hsub2 x hx with h | h
        · exact .inl h
        · right; simp at h; omega)
      rw [hl2] at hst
      have hst2 := wstep_trans hwr hk Hsub.out hst
      have Hst := Lib.hid hst2
      clear hst hst2 hS hS2 hS3 b1 hne f0 d0
      go_wp2_with fail
      go_roundw
      case rel => exact ⟨j, pre ++ [c], by omega, by simp; omega, by go_num, (show (pre ++ [c]) ++ beL j n = beL M n by rw [← hpre.out]; simp [beL, hc]), Hst.out⟩
      case measure => simp [intOf]; omega

theorem own_string {w : World} {B : Nat} {A : Option Addr} {n cap : Nat} {bs : List UInt8} (h : Own w B 5 1 A n cap (bytesR bs)) (hn : n = bs.length) :
    (convert 100 9 (.slice A n cap)).run Try.prog w = .ok (.string ⟨bs.toArray⟩) w := by
  subst hn
  rcases h.addr with rfl | ⟨g, rfl⟩
  · have h0 : bs = [] := by
      rcases h.row.2 with ⟨_, h0⟩ | ⟨g, c, cur, hv, _⟩
      · exact List.eq_nil_of_length_eq_zero h0
      · cases hv
    subst h0
    exact Go.Lib.run_convert_nil_bytes w _ _ _ _ Try.underlying100 Try.underlying5 Try.underlying9
  · refine run_convert_bytes_back w _ _ _ _ _ _ Try.underlying100 Try.underlying5 Try.underlying9 (fun j hj => ?_)
    have hrow := h.row
    rw [bytesR_flat] at hrow
    have := hrow.cells (g := g) rfl j (byteC bs[j]) (by simp [hj])
    exact this

set_option maxHeartbeats 1000000 in
theorem wdone (w : World) (B g : Nat) (A : Option Addr) (cap : Nat) (bs : List UInt8) (h : WrAt w B g A cap bs) :
    Calls Try.prog 52 #[.pointer (some ⟨g, 0, none⟩)] w fun e w' => e = .returned (.tuple #[.string ⟨bs.toArray⟩, .int .i64 0]) ∧ w = w' := by
  obtain ⟨c0, c1, c2⟩ := h.cell
  have hs := own_string h.own rfl
  go_enter Try.func52, Try.ntmps52
  go_wp2_with fail
  refine (wnone _ _ c2).mono ?_; rintro e w' ⟨rfl, rfl⟩
  go_wp2_with fail
  go_ret2
  exact ⟨rfl, rfl⟩

end Go.Proofs.Ytlonihfhgfmplaa
