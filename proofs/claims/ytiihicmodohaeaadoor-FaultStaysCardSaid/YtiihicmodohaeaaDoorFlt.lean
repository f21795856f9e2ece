/- The reference's errors (petrelref04.Fault): three lists; New, Missing, Wrap, Join, Is. -/
import Derived.Test.YtiihicmodohaeaaDoorErrIs
import Derived.Test.YtiihicmodohaeaaDoorFaultW
namespace Go.Proofs.YtiihicmodohaeaaDoor
open Go.RowKit

structure Flt where
  nums : Value
  ops : Value
  reps : Value
/-- Its cells. -/
def fltC (x : Flt) : Array Value := #[x.nums] ++ #[x.ops] ++ #[x.reps]
@[simp] theorem fltC_size (x : Flt) : (fltC x).size = 3 := by simp [fltC]
@[go_sem] theorem fltC_g0 (x : Flt) : (fltC x)[0]? = some (x.nums) := by simp [fltC, Array.getElem?_append]
@[go_sem] theorem fltC_gg0 (x : Flt) (h : 0 < (fltC x).size) : (fltC x)[0]'h = x.nums := Option.some.inj ((Array.getElem?_eq_getElem h).symm.trans (fltC_g0 x))
@[go_sem] theorem fltC_g1 (x : Flt) : (fltC x)[1]? = some (x.ops) := by simp [fltC, Array.getElem?_append]
@[go_sem] theorem fltC_gg1 (x : Flt) (h : 1 < (fltC x).size) : (fltC x)[1]'h = x.ops := Option.some.inj ((Array.getElem?_eq_getElem h).symm.trans (fltC_g1 x))
@[go_sem] theorem fltC_g2 (x : Flt) : (fltC x)[2]? = some (x.reps) := by simp [fltC, Array.getElem?_append]
@[go_sem] theorem fltC_gg2 (x : Flt) (h : 2 < (fltC x).size) : (fltC x)[2]'h = x.reps := Option.some.inj ((Array.getElem?_eq_getElem h).symm.trans (fltC_g2 x))
@[go_sem] theorem fltC_all (x : Flt) : (fltC x).extract 0 3 = fltC x := by have := Array.extract_size (xs := fltC x); rwa [fltC_size] at this
theorem fltC_inj {x y : Flt} (h : fltC x = fltC y) : x = y := by
  have h0 := congrArg (fun a => a[0]?) h
  simp only [fltC_g0, Option.some.injEq] at h0
  have h1 := congrArg (fun a => a[1]?) h
  simp only [fltC_g1, Option.some.injEq] at h1
  have h2 := congrArg (fun a => a[2]?) h
  simp only [fltC_g2, Option.some.injEq] at h2
  cases x; cases y; simp_all
theorem fltC_one (x : Flt) (hnums : x.nums.oneCell' = true) (hops : x.ops.oneCell' = true) (hreps : x.reps.oneCell' = true) : ∀ u ∈ (fltC x).toList, u.oneCell' = true := by
  intro u hu
  simp only [fltC, Array.toList_append, List.mem_append] at hu
  rcases hu with (hu | hu) | hu
  · simp at hu; subst hu; exact hnums
  · simp at hu; subst hu; exact hops
  · simp at hu; subst hu; exact hreps
def flt0 : Flt := ⟨(.slice none 0 0), (.slice none 0 0), (.slice none 0 0)⟩
theorem infoFlt : (Tryd.prog.info? 39).map (·.size) = some 3 := by kernel_rfl
@[go_sem ↓] theorem zeroFlt_run (w : World) : (zeroValue 39).run Tryd.prog w = .ok (.agg (fltC flt0)) w := by
  have h : (Tryd.prog.info? 39).bind (·.zero) = some (.agg (fltC flt0)) := by kernel_rfl
  cases hi : Tryd.prog.info? 39 with
  | none => rw [hi] at h; cases h
  | some i =>
    rw [hi] at h
    have hz : i.zero = some (.agg (fltC flt0)) := h
    simp [zeroValue, typeInfo, hi, hz]
@[go_sem ↓] theorem loadFlt_rw (a : Addr) : loadVar 39 a = ldS 39 a := rfl
@[go_sem ↓] theorem storeFlt_rw (a : Addr) (v : Value) : storeVar 39 a v = stS 39 a v := rfl
@[go_sem] theorem loadFlt_run (w : World) (g o : Nat) : (ldS 39 ⟨g, o, none⟩).run Tryd.prog w = match rowAt w g o 3 with | some cs => .ok (.agg cs) w | none => (loadVar 39 ⟨g, o, none⟩).run Tryd.prog w :=
  run_ldS Tryd.underlying39 rfl infoFlt w g o
@[go_sem] theorem storeFlt_run (w : World) (g : Nat) (hg : g = w.heap.size) (z : Array Value) (hz : z.size = 3) (x : Flt) (hnums : x.nums.oneCell' = true) (hops : x.ops.oneCell' = true) (hreps : x.reps.oneCell' = true) (e : TypeId) : (stS 39 ⟨g, 0, none⟩ (.agg (fltC x))).run Tryd.prog (w.alloc (.cells z e)) = .ok () (w.alloc (.cells (fltC x) e)) :=
  hg ▸ run_stS_new infoFlt w z (fltC x) hz (fltC_size x) (fltC_one x hnums hops hreps)
theorem fieldsFlt : Tryd.prog.underlying 39 = some (.struct (Tryd.prog.fieldsOf 39)) := by kernel_rfl
theorem placesFlt (w : World) : ((Tryd.prog.fieldsOf 39).mapM fun (f : Field) => do pure (f.offset, ← sizeOf f.type)).run Tryd.prog w = .ok #[(0, 1), (1, 1), (2, 1)] w := by kernel_rfl
@[go_sem ↓] theorem buildFlt_rw (parts : Array (Nat × Value)) : Instr.build 39 parts = bdS 39 parts := rfl
@[go_sem] theorem buildFlt (a0 : Value) (a1 : Value) (a2 : Value) (k0 : (a0).cells = #[a0]) (k1 : (a1).cells = #[a1]) (k2 : (a2).cells = #[a2]) (w : World) : (bdS 39 #[(0, a0), (1, a1), (2, a2)]).run Tryd.prog w = .ok (.agg (fltC ⟨a0, a1, a2⟩)) w := by
  refine run_build w fieldsFlt _ (zeroFlt_run w) _ (placesFlt w) [(0, a0), (1, a1), (2, a2)] _ ?_
  rw [show fltC flt0 = (#[] : Array Value) ++ #[(.slice none 0 0)] ++ (#[(.slice none 0 0)] ++ (#[(.slice none 0 0)])) from by first | (simp [fltC, flt0, Array.append_assoc]; done) | (apply Array.ext'; simp [fltC, flt0])]
  rw [fill_step (off := 0) (size := 1) rfl (by simp) (by simp) (by simp [k0])]
  rw [show (#[] : Array Value) ++ (a0).cells ++ (#[(.slice none 0 0)] ++ (#[(.slice none 0 0)])) = (#[a0]) ++ #[(.slice none 0 0)] ++ (#[(.slice none 0 0)]) from by first | (simp [k0, k1, k2, Array.append_assoc]; done) | (apply Array.ext'; simp [k0, k1, k2]; done) | (apply Array.ext'; simp only [Array.toList_append, k0, k1, k2]; simp [Value.cells])]
  rw [fill_step (off := 1) (size := 1) rfl (by simp) (by simp) (by simp [k1])]
  rw [show (#[a0]) ++ (a1).cells ++ (#[(.slice none 0 0)]) = (#[a0] ++ (#[a1])) ++ #[(.slice none 0 0)] ++ (#[] : Array Value) from by first | (simp [k0, k1, k2, Array.append_assoc]; done) | (apply Array.ext'; simp [k0, k1, k2]; done) | (apply Array.ext'; simp only [Array.toList_append, k0, k1, k2]; simp [Value.cells])]
  rw [fill_step (off := 2) (size := 1) rfl (by simp) (by simp) (by simp [k2])]
  first | (simp [Instr.fill, fltC, Array.append_assoc, Value.cells]; done) | (simp only [Instr.fill, fltC, k0, k1, k2]; congr 1; apply Array.ext'; simp [Value.cells, k0, k1, k2]; done) | (simp only [Instr.fill, fltC, k0, k1, k2]; congr 1; done) | (simp only [Instr.fill, fltC, k0, k1, k2]; done)
@[go_sem] theorem buildFlt_0 (a0 : Value) (k0 : (a0).cells = #[a0]) (w : World) : (bdS 39 #[(0, a0)]).run Tryd.prog w = .ok (.agg (fltC ⟨a0, (.slice none 0 0), (.slice none 0 0)⟩)) w := by
  refine run_build w fieldsFlt _ (zeroFlt_run w) _ (placesFlt w) [(0, a0)] _ ?_
  rw [show fltC flt0 = (#[] : Array Value) ++ #[(.slice none 0 0)] ++ (#[(.slice none 0 0)] ++ (#[(.slice none 0 0)])) from by first | (simp [fltC, flt0, Array.append_assoc]; done) | (apply Array.ext'; simp [fltC, flt0])]
  rw [fill_step (off := 0) (size := 1) rfl (by simp) (by simp) (by simp [k0])]
  first | (simp [Instr.fill, fltC, Array.append_assoc, Value.cells]; done) | (simp only [Instr.fill, fltC, k0]; congr 1; apply Array.ext'; simp [Value.cells, k0]; done) | (simp only [Instr.fill, fltC, k0]; congr 1; done) | (simp only [Instr.fill, fltC, k0]; done)
@[go_sem] theorem buildFlt_0_2 (a0 : Value) (a2 : Value) (k0 : (a0).cells = #[a0]) (k2 : (a2).cells = #[a2]) (w : World) : (bdS 39 #[(0, a0), (2, a2)]).run Tryd.prog w = .ok (.agg (fltC ⟨a0, (.slice none 0 0), a2⟩)) w := by
  refine run_build w fieldsFlt _ (zeroFlt_run w) _ (placesFlt w) [(0, a0), (2, a2)] _ ?_
  rw [show fltC flt0 = (#[] : Array Value) ++ #[(.slice none 0 0)] ++ (#[(.slice none 0 0)] ++ (#[(.slice none 0 0)])) from by first | (simp [fltC, flt0, Array.append_assoc]; done) | (apply Array.ext'; simp [fltC, flt0])]
  rw [fill_step (off := 0) (size := 1) rfl (by simp) (by simp) (by simp [k0])]
  rw [show (#[] : Array Value) ++ (a0).cells ++ (#[(.slice none 0 0)] ++ (#[(.slice none 0 0)])) = (#[a0] ++ (#[(.slice none 0 0)])) ++ #[(.slice none 0 0)] ++ (#[] : Array Value) from by first | (simp [k0, k2, Array.append_assoc]; done) | (apply Array.ext'; simp [k0, k2]; done) | (apply Array.ext'; simp only [Array.toList_append, k0, k2]; simp [Value.cells])]
  rw [fill_step (off := 2) (size := 1) rfl (by simp) (by simp) (by simp [k2])]
  first | (simp [Instr.fill, fltC, Array.append_assoc, Value.cells]; done) | (simp only [Instr.fill, fltC, k0, k2]; congr 1; apply Array.ext'; simp [Value.cells, k0, k2]; done) | (simp only [Instr.fill, fltC, k0, k2]; congr 1; done) | (simp only [Instr.fill, fltC, k0, k2]; done)
theorem buildFlt_none (w : World) : (bdS 39 #[]).run Tryd.prog w = .ok (.agg (fltC flt0)) w := by kernel_rfl
attribute [go_sem] buildFlt_none

theorem stS_at {P : Program} {t : TypeId} {k : Nat} (hi : (P.info? t).map (·.size) = some k) (w : World) (g : Nat) (z cs : Array Value) (e : TypeId) (h : w.heap[g]? = some (.cells z e (0, 0))) (hz : z.size = k) (hc : cs.size = k) (h1 : ∀ u ∈ cs.toList, u.oneCell' = true) :
    (stS t ⟨g, 0, none⟩ (.agg cs)).run P w = .ok () (w.setRow g cs) := by
  unfold stS storeVar
  cases hinfo : P.info? t with
  | none => rw [hinfo] at hi; cases hi
  | some i =>
    rw [hinfo] at hi
    have hk : i.size = k := by simpa using hi
    have hst := run_storeCells_at P g 0 e cs.toList 0 z w h (by simp; omega) h1
    have hE : (z.toList.take (0 + 0) ++ cs.toList ++ z.toList.drop (0 + 0 + cs.toList.length)).toArray = cs := by
      rw [List.drop_of_length_le (by simp; omega)]
      simp
    rw [hE] at hst
    simp [Value.cells, sizeOf, typeInfo, hinfo, hk, hc]
    exact hst
theorem keep_setRow (w : World) (g : Nat) (c : Array Value) : Keep [g] w (w.setRow g c) := ⟨rfl, rfl, rfl, by simp [World.setRow], fun x _ hx => setRow_other w g x _ (by simpa using hx)⟩

/-- The value v is a slice that reads as the rows L, none of its memory in S. -/
def VIn (S : List Nat) (w : World) (v : Value) (k : Nat) (L : List (Array Value)) : Prop :=
  ∃ A cap, v = .slice A L.length cap ∧ SlR w A L.length k L ∧ (A = none → cap = 0) ∧ ∀ x ∈ blk A, x ∉ S ∧ x < w.heap.size
theorem VIn.kept {S : List Nat} {w w' : World} {v : Value} {k : Nat} {L : List (Array Value)} (h : VIn S w v k L) (hk : Keep S w w') : VIn S w' v k L := by
  obtain ⟨A, cap, e, hs, hn, hb⟩ := h
  exact ⟨A, cap, e, hs.kept hk (fun x hx => (hb x hx).1), hn, fun x hx => ⟨(hb x hx).1, Nat.lt_of_lt_of_le (hb x hx).2 hk.size⟩⟩
theorem VIn.re {S S' : List Nat} {w : World} {v : Value} {k : Nat} {L : List (Array Value)} (h : VIn S w v k L) (hs : ∀ x ∈ S', x ∈ S ∨ w.heap.size ≤ x) : VIn S' w v k L := by
  obtain ⟨A, cap, e, h1, hn, hb⟩ := h
  exact ⟨A, cap, e, h1, hn, fun x hx => ⟨fun hm => by have := hb x hx; rcases hs x hm with h | h; exact this.1 h; omega, (hb x hx).2⟩⟩
theorem VIn.below {S : List Nat} {w w' : World} {v : Value} {k : Nat} {L : List (Array Value)} (h : VIn S w v k L) (hb : Below w.heap.size w w') : VIn S w' v k L := h.kept ((Keep.of_below hb).mono (by simp))
theorem VIn.nil (S : List Nat) (w : World) (k : Nat) : VIn S w (.slice none 0 0) k [] := ⟨none, 0, rfl, SlR.nil_, fun _ => rfl, by simp [blk]⟩
theorem VIn.own {S : List Nat} {w : World} {B : Nat} {E : TypeId} {k n cap : Nat} {A : Option Addr} {L : List (Array Value)} (h : Own w B E k A n cap L) (hS : ∀ x ∈ S, x < B) : VIn S w (.slice A n cap) k L := by
  have hl := h.len
  subst hl
  exact ⟨A, cap, rfl, h.slr, fun e => (h.cap_le.2 e).2, fun x hx => ⟨fun hm => by have := hS x hm; have := (h.at_base hx).1; omega, (h.at_base hx).2⟩⟩
theorem VIn.one {S : List Nat} {w : World} {v : Value} {k : Nat} {L : List (Array Value)} (h : VIn S w v k L) : v.oneCell' = true := by
  obtain ⟨A, cap, rfl, _⟩ := h; rfl

/-- Lists of ids behind slices. -/
def AllIn (S : List Nat) (w : World) : List Value → List (List Id32) → Prop
  | [], [] => True
  | u :: us, R :: Rs => VIn S w u 32 (R.map idC) ∧ AllIn S w us Rs
  | _, _ => False
theorem AllIn.len {S : List Nat} {w : World} : ∀ {us : List Value} {Rs : List (List Id32)}, AllIn S w us Rs → us.length = Rs.length
  | [], [], _ => rfl
  | _ :: _, _ :: _, h => by simp [h.2.len]
theorem AllIn.map {S S' : List Nat} {w w' : World} (f : ∀ v L, VIn S w v 32 L → VIn S' w' v 32 L) : ∀ {us : List Value} {Rs : List (List Id32)}, AllIn S w us Rs → AllIn S' w' us Rs
  | [], [], _ => trivial
  | _ :: _, _ :: _, h => ⟨f _ _ h.1, h.2.map f⟩
theorem AllIn.app {S : List Nat} {w : World} : ∀ {us vs : List Value} {Rs Qs : List (List Id32)}, AllIn S w us Rs → AllIn S w vs Qs → AllIn S w (us ++ vs) (Rs ++ Qs)
  | [], _, [], _, _, h => h
  | _ :: _, _, _ :: _, _, h, h' => ⟨h.1, h.2.app h'⟩
theorem AllIn.one {S : List Nat} {w : World} : ∀ {us : List Value} {Rs : List (List Id32)}, AllIn S w us Rs → ∀ r ∈ us.map (fun u => #[u]), ∀ u ∈ r.toList, u.oneCell' = true
  | [], [], _, _, hr => by simp at hr
  | v :: us, R :: Rs, h, r, hr => by
    rcases List.mem_cons.1 hr with e | hr
    · subst e; intro u hu; simp at hu; subst hu; exact h.1.one
    · exact h.2.one r hr
def RepsIn (S : List Nat) (w : World) (v : Value) (Rs : List (List Id32)) : Prop := ∃ us : List Value, VIn S w v 1 (us.map fun u => #[u]) ∧ AllIn S w us Rs
def intR (n : Int) : Array Value := #[.int .i64 n]
theorem ints_one {L : List Int} : ∀ r ∈ L.map intR, ∀ u ∈ r.toList, u.oneCell' = true := fun r hr u hu => by
  obtain ⟨x, _, rfl⟩ := List.mem_map.1 hr
  simp [intR] at hu; subst hu; rfl
structure FltAt (S : List Nat) (w : World) (nums : List Int) (ops : List ByteArray) (reps : List (List Id32)) (x : Flt) : Prop where
  n : VIn S w x.nums 1 (nums.map intR)
  o : VIn S w x.ops 1 (ops.map strR)
  r : RepsIn S w x.reps reps
theorem FltAt.kept {S : List Nat} {w w' : World} {nums : List Int} {ops : List ByteArray} {reps : List (List Id32)} {x : Flt} (h : FltAt S w nums ops reps x) (hk : Keep S w w') : FltAt S w' nums ops reps x := by
  obtain ⟨us, h1, h2⟩ := h.r
  exact ⟨h.n.kept hk, h.o.kept hk, us, h1.kept hk, h2.map fun _ _ h => h.kept hk⟩
theorem FltAt.below {S : List Nat} {w w' : World} {nums : List Int} {ops : List ByteArray} {reps : List (List Id32)} {x : Flt} (h : FltAt S w nums ops reps x) (hb : Below w.heap.size w w') : FltAt S w' nums ops reps x := h.kept ((Keep.of_below hb).mono (by simp))
theorem FltAt.re {S S' : List Nat} {w : World} {nums : List Int} {ops : List ByteArray} {reps : List (List Id32)} {x : Flt} (h : FltAt S w nums ops reps x) (hs : ∀ x ∈ S', x ∈ S ∨ w.heap.size ≤ x) : FltAt S' w nums ops reps x := by
  obtain ⟨us, h1, h2⟩ := h.r
  exact ⟨h.n.re hs, h.o.re hs, us, h1.re hs, h2.map fun _ _ h => h.re hs⟩
theorem FltAt.zero (S : List Nat) (w : World) : FltAt S w [] [] [] flt0 := ⟨VIn.nil _ _ _, VIn.nil _ _ _, [], VIn.nil _ _ _, trivial⟩
theorem RepsIn.one {S : List Nat} {w : World} {v : Value} {Rs : List (List Id32)} (h : RepsIn S w v Rs) : v.oneCell' = true := by obtain ⟨us, h1, _⟩ := h; exact h1.one

def numbersOf : ErrT → List Int
  | .num e => [e]
  | .rep _ => [16]
  | .wrap _ t => numbersOf t
  | .both a b => numbersOf a ++ numbersOf b
def reportsOf : ErrT → List (List Id32)
  | .num _ => []
  | .rep ids => [ids]
  | .wrap _ t => reportsOf t
  | .both a b => reportsOf a ++ reportsOf b
theorem numbersOf_ne : ∀ t, numbersOf t ≠ []
  | .num _ => by simp [numbersOf]
  | .rep _ => by simp [numbersOf]
  | .wrap _ t => numbersOf_ne t
  | .both a b => by simp [numbersOf, numbersOf_ne a]
theorem code_head : ∀ t, (numbersOf t).head? = some (codeOf t)
  | .num _ => rfl
  | .rep _ => rfl
  | .wrap _ t => code_head t
  | .both a b => by
    have := code_head a
    unfold numbersOf codeOf
    rw [List.head?_append, this]; rfl
theorem rep_head : ∀ t, (reportsOf t).head? = repOf t
  | .num _ => rfl
  | .rep _ => rfl
  | .wrap _ t => rep_head t
  | .both a b => by
    unfold reportsOf repOf
    rw [List.head?_append, rep_head a, rep_head b]
    cases repOf a <;> rfl
theorem is_any_num (e : Int) : ∀ t, (numbersOf t).any (· == e) = isOf e t
  | .num _ => by simp [numbersOf, isOf]
  | .rep _ => by simp [numbersOf, isOf]
  | .wrap _ t => is_any_num e t
  | .both a b => by unfold numbersOf isOf; rw [List.any_append, is_any_num e a, is_any_num e b]
def numsO : Option ErrT → List Int | none => [] | some t => numbersOf t
def opsO : Option ErrT → List ByteArray | none => [] | some t => opsOf t
def repsO : Option ErrT → List (List Id32) | none => [] | some t => reportsOf t
abbrev FltO (S : List Nat) (w : World) (o : Option ErrT) (x : Flt) : Prop := FltAt S w (numsO o) (opsO o) (repsO o) x

def FltRes (S : List Nat) (w : World) (nums : List Int) (ops : List ByteArray) (reps : List (List Id32)) (e : Ending) (w' : World) : Prop :=
  ∃ x, e = .returned (.agg (fltC x)) ∧ FltAt S w' nums ops reps x ∧ Below w.heap.size w w'
theorem einfoInt : ElemInfo Tryd.prog 36 3 1 8 :=
  .of (z := .int .i64 0) Tryd.underlying36 (by kernel_rfl) (by kernel_rfl) (by kernel_rfl) rfl (by omega)
theorem einfoIds : ElemInfo Tryd.prog 37 22 1 24 :=
  .of (z := .slice none 0 0) Tryd.underlying37 (by kernel_rfl) (by kernel_rfl) (by kernel_rfl) rfl (by omega)

theorem store0_run (w : World) : (stS 39 ⟨w.heap.size, 0, none⟩ (.agg (fltC flt0))).run Tryd.prog (w.alloc (.cells (fltC flt0) 39)) = .ok () (w.alloc (.cells (fltC flt0) 39)) :=
  storeFlt_run w w.heap.size rfl (fltC flt0) (fltC_size _) flt0 rfl rfl rfl 39
/-- The result's block, filled at the end. -/
theorem fill_last {B : Nat} {w W : World} {x : Flt} (hw : W.heap[B]? = some (.cells (fltC flt0) 39 (0, 0))) (hB : w.heap.size ≤ B) (hb : Below w.heap.size w W) {S : List Nat} {nums : List Int} {ops : List ByteArray} {reps : List (List Id32)} (h : FltAt (B :: S) W nums ops reps x) :
    ∃ W', (stS 39 ⟨B, 0, none⟩ (.agg (fltC x))).run Tryd.prog W = .ok () W' ∧ W'.heap[B]? = some (.cells (fltC x) 39 (0, 0)) ∧ FltAt S W' nums ops reps x ∧ Below w.heap.size w W' := by
  have hks := keep_setRow W B (fltC x)
  refine ⟨_, stS_at infoFlt W B _ (fltC x) _ hw (fltC_size _) (fltC_size _) (fltC_one x h.n.one h.o.one h.r.one), setRow_heap W B _ (fltC x) _ _ hw, ?_, hb.trans (hks.below hb.size (by simpa using hB))⟩
  exact (h.kept (hks.mono (by simp))).re (fun x hx => .inl (List.mem_cons.2 (.inr hx)))

set_option maxRecDepth 100000 in
theorem rnew_zero (S : List Nat) (w : World) : Calls Tryd.prog 22 #[.int .i64 0] w (FltRes S w [] [] []) := by
  have hb : Below w.heap.size w (w.alloc (.cells (fltC flt0) 39)) := (Below.refl _ _).alloc (Nat.le_refl _) _
  have hst := store0_run w
  go_enter Tryd.func22, Tryd.ntmps22
  go_wp2_with fail
  exact bodyPost_ret (results_cell_row Tryd.results22 _ _ w.heap.size 39 (fltC flt0) (0, 0) _ rfl (heap_alloc_new w _) Tryd.underlying39 rfl (by rw [fltC_size]; exact infoFlt)) rfl ⟨_, rfl, FltAt.zero _ _, hb⟩
set_option maxRecDepth 100000 in
theorem rnew_some (S : List Nat) (n : Int) (hn : n ≠ 0) (w : World) (hS : ∀ x ∈ S, x < w.heap.size) : Calls Tryd.prog 22 #[.int .i64 n] w (FltRes S w [n] [] []) := by
  have hz : (n == 0) = false := by simpa using hn
  have hb1 : Below w.heap.size w (w.alloc (.cells (fltC flt0) 39)) := (Below.refl _ _).alloc (Nat.le_refl _) _
  have hb2 : Below w.heap.size w ((w.alloc (.cells (fltC flt0) 39)).alloc (.cells #[.int .i64 n] 3)) := hb1.alloc (by simp) _
  have hown : Own ((w.alloc (.cells (fltC flt0) 39)).alloc (.cells #[.int .i64 n] 3)) (w.heap.size + 1) 3 1 (some ⟨w.heap.size + 1, 0, none⟩) 1 1 [intR n] := by
    have := Own.single (w.alloc (.cells (fltC flt0) 39)) (w.heap.size + 1) 3 (intR n) (by simp)
    rw [show (w.alloc (.cells (fltC flt0) 39)).heap.size = w.heap.size + 1 by simp] at this
    exact this
  have hg : ((w.alloc (.cells (fltC flt0) 39)).alloc (.cells #[.int .i64 n] 3)).heap[w.heap.size]? = some (.cells (fltC flt0) 39 (0, 0)) := by
    rw [Below.heap_alloc _ _ _ (by simp)]; exact heap_alloc_new w _
  have hF : FltAt (w.heap.size :: S) ((w.alloc (.cells (fltC flt0) 39)).alloc (.cells #[.int .i64 n] 3)) [n] [] [] ⟨.slice (some ⟨w.heap.size + 1, 0, none⟩) 1 1, .slice none 0 0, .slice none 0 0⟩ :=
    ⟨VIn.own (L := [intR n]) hown (fun x hx => by rcases List.mem_cons.1 hx with e | hx; omega; have := hS x hx; omega), VIn.nil _ _ _, [], VIn.nil _ _ _, trivial⟩
  obtain ⟨W', hst, hfin, hF', hb3⟩ := fill_last hg (Nat.le_refl _) hb2 hF
  have hbd := buildFlt_0 (.slice (some ⟨w.heap.size + 1, 0, none⟩) 1 1) rfl
  have Hfin := Lib.hid hfin; have HF := Lib.hid hF'; have Hb3 := Lib.hid hb3
  clear hfin hF hF' hb3 hown hb1 hb2 hg
  go_enter Tryd.func22, Tryd.ntmps22
  go_wp2_with fail
  exact bodyPost_ret (results_cell_row Tryd.results22 _ _ w.heap.size 39 _ (0, 0) _ rfl Hfin.out Tryd.underlying39 rfl (by rw [fltC_size]; exact infoFlt)) rfl ⟨_, rfl, HF.out, Hb3.out⟩

end Go.Proofs.YtiihicmodohaeaaDoor
