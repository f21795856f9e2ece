/- The statements of layer 4: made: the program's errors beside the document's: what holds of both stacks. -/
import Derived.Test.YtiihicmodohaeaaDoorFltW
namespace Go.Proofs.YtiihicmodohaeaaDoor
open Go.RowKit Go.Extern.Stop Go.Stop Go.Extern

/-- The value v is the error t, none of its memory in S. -/
def ErrOut (S : List Nat) (w : World) : ErrT → Value → Prop
  | .num e, v => e ≠ 0 ∧ v = .iface 42 (.int .i64 e)
  | .rep ids, v => ∃ g A n cap, v = .iface 53 (.pointer (some ⟨g, 0, none⟩)) ∧ w.heap[g]? = some (.cells #[.slice A n cap] 56 (0, 0)) ∧ SlR w A n 32 (ids.map idC) ∧ 0 < n ∧ g ∉ S ∧ ∀ x ∈ blk A, x ∉ S
  | .wrap op t, v => ∃ g u, v = .iface 57 (.pointer (some ⟨g, 0, none⟩)) ∧ w.heap[g]? = some (.cells #[.string op, u] 59 (0, 0)) ∧ ErrOut S w t u ∧ g ∉ S
  | .both a b, v => ∃ g x y, v = .iface 71 (.pointer (some ⟨g, 0, none⟩)) ∧ w.heap[g]? = some (.cells #[x, y] 73 (0, 0)) ∧ ErrOut S w a x ∧ ErrOut S w b y ∧ g ∉ S
theorem ErrOut.at_ {S : List Nat} {w : World} : ∀ {t : ErrT} {v : Value}, ErrOut S w t v → ErrAt w t v
  | .num _, _, h => h
  | .rep _, _, ⟨g, A, n, cap, e, hg, hs, hn, _⟩ => ⟨g, A, n, cap, e, hg, hs, hn⟩
  | .wrap _ _, _, ⟨g, u, e, hg, ht, _⟩ => ⟨g, u, e, hg, ht.at_⟩
  | .both _ _, _, ⟨g, x, y, e, hg, hx, hy, _⟩ => ⟨g, x, y, e, hg, hx.at_, hy.at_⟩
theorem ErrOut.kept {S : List Nat} {w w' : World} (hk : Keep S w w') : ∀ {t : ErrT} {v : Value}, ErrOut S w t v → ErrOut S w' t v
  | .num _, _, h => h
  | .rep _, _, ⟨g, A, n, cap, e, hg, hs, hn, h1, h2⟩ => ⟨g, A, n, cap, e, (hk.block g (heap_lt hg) h1).trans hg, hs.kept hk h2, hn, h1, h2⟩
  | .wrap _ _, _, ⟨g, u, e, hg, ht, h1⟩ => ⟨g, u, e, (hk.block g (heap_lt hg) h1).trans hg, ht.kept hk, h1⟩
  | .both _ _, _, ⟨g, x, y, e, hg, hx, hy, h1⟩ => ⟨g, x, y, e, (hk.block g (heap_lt hg) h1).trans hg, hx.kept hk, hy.kept hk, h1⟩
theorem ErrOut.below {S : List Nat} {w w' : World} {t : ErrT} {v : Value} (h : ErrOut S w t v) (hb : Below w.heap.size w w') : ErrOut S w' t v := h.kept ((Keep.of_below hb).mono (by simp))
theorem not_re {S S' : List Nat} {n g : Nat} (hs : ∀ x ∈ S', x ∈ S ∨ n ≤ x) (h1 : g ∉ S) (h2 : g < n) : g ∉ S' := fun hm => by rcases hs g hm with h | h; exact h1 h; omega
theorem blk_lt {w : World} {A : Option Addr} {n k : Nat} {L : List (Array Value)} (h : SlR w A n k L) (hn : 0 < n) : ∀ x ∈ blk A, x < w.heap.size := fun x hx => by
  obtain ⟨g, o, e, hr⟩ := h.at_ hn
  subst e
  have : x = g := by simpa [blk] using hx
  subst this
  exact rowAt_lt hr
theorem ErrOut.re {S S' : List Nat} {w : World} (hs : ∀ x ∈ S', x ∈ S ∨ w.heap.size ≤ x) : ∀ {t : ErrT} {v : Value}, ErrOut S w t v → ErrOut S' w t v
  | .num _, _, h => h
  | .rep _, _, ⟨g, A, n, cap, e, hg, h, hn, h1, h2⟩ => ⟨g, A, n, cap, e, hg, h, hn, not_re hs h1 (heap_lt hg), fun x hx => not_re hs (h2 x hx) (blk_lt h hn x hx)⟩
  | .wrap _ _, _, ⟨g, u, e, hg, ht, h1⟩ => ⟨g, u, e, hg, ht.re hs, not_re hs h1 (heap_lt hg)⟩
  | .both _ _, _, ⟨g, x, y, e, hg, hx, hy, h1⟩ => ⟨g, x, y, e, hg, hx.re hs, hy.re hs, not_re hs h1 (heap_lt hg)⟩
theorem ErrFrom.out {B : Nat} {S : List Nat} {w : World} (hS : ∀ x ∈ S, x < B) : ∀ {t : ErrT} {v : Value}, ErrFrom B w t v → ErrOut S w t v
  | .num _, _, h => h
  | .rep _, _, ⟨g, A, n, cap, e, hg, h, hn, h1, h2⟩ => ⟨g, A, n, cap, e, hg, h, hn, fun hm => by have := hS g hm; omega, fun x hx hm => by have := hS x hm; have := h2 x hx; omega⟩
  | .wrap _ _, _, ⟨g, u, e, hg, ht, h1⟩ => ⟨g, u, e, hg, ht.out hS, fun hm => by have := hS g hm; omega⟩
  | .both _ _, _, ⟨g, x, y, e, hg, hx, hy, h1⟩ => ⟨g, x, y, e, hg, hx.out hS, hy.out hS, fun hm => by have := hS g hm; omega⟩
/-- An error that may be none. -/
def ErrOO (S : List Nat) (w : World) (o : Option ErrT) (v : Value) : Prop := match o with | none => v = .nilIface | some t => ErrOut S w t v
theorem ErrOO.kept {S : List Nat} {w w' : World} (hk : Keep S w w') {o : Option ErrT} {v : Value} (h : ErrOO S w o v) : ErrOO S w' o v := by
  cases o with
  | none => exact h
  | some t => exact ErrOut.kept hk h
theorem ErrOO.re {S S' : List Nat} {w : World} (hs : ∀ x ∈ S', x ∈ S ∨ w.heap.size ≤ x) {o : Option ErrT} {v : Value} (h : ErrOO S w o v) : ErrOO S' w o v := by
  cases o with
  | none => exact h
  | some t => exact ErrOut.re hs h
theorem ErrOO.one {S : List Nat} {w : World} {o : Option ErrT} {v : Value} (h : ErrOO S w o v) : v = .nilIface ∨ ∃ d x, v = .iface d x := by
  cases o with
  | none => exact .inl h
  | some t => exact .inr (ErrOut.at_ h).iface

/-- The calls, at whatever errors. -/
def OORes (S : List Nat) (w : World) (o : Option ErrT) (e : Ending) (w' : World) : Prop := ∃ v, e = .returned v ∧ ErrOO S w' o v ∧ Below w.heap.size w w'
theorem new_oo (S : List Nat) (n : Int) (w : World) : Calls Tryd.prog 19 #[.int .i64 n] w (OORes S w (if n = 0 then none else some (.num n))) := by
  by_cases hn : n = 0
  · subst hn
    rw [if_pos rfl]
    exact (fnew_zero w).mono fun e w' ⟨he, hw⟩ => ⟨_, he, rfl, hw ▸ Below.refl _ _⟩
  · rw [if_neg hn]
    exact (fnew_some n hn w).mono fun e w' ⟨he, hw⟩ => ⟨_, he, ⟨hn, rfl⟩, hw ▸ Below.refl _ _⟩
theorem missing_oo (S : List Nat) (w : World) (A : Option Addr) (n cap : Nat) (R : List Id32) (h : IdsIn w A n R) (hb : n ≤ 1000000000000) (hS : ∀ x ∈ S, x < w.heap.size) :
    Calls Tryd.prog 7 #[.slice A n cap] w (OORes S w (if n = 0 then none else some (.rep R))) := by
  by_cases hn : n = 0
  · subst hn
    rw [if_pos rfl]
    exact (fmissing_nil A cap w).mono fun e w' ⟨he, hw⟩ => ⟨_, he, rfl, hw ▸ Below.refl _ _⟩
  · rw [if_neg hn]
    exact (fmissing_new w A n cap R h (by omega) hb).mono fun e w' ⟨v, he, ht, hb⟩ => ⟨v, he, ht.out hS, hb⟩
theorem wrap_oo (S : List Nat) (op : ByteArray) (o : Option ErrT) (v : Value) (w : World) (h : ErrOO S w o v) (hS : ∀ x ∈ S, x < w.heap.size) : Calls Tryd.prog 9 #[.string op, v] w (OORes S w (o.map (.wrap op))) := by
  cases o with
  | none =>
    have e : v = .nilIface := h
    subst e
    exact (fwrap_nil op w).mono fun e w' ⟨he, hw⟩ => ⟨_, he, rfl, hw ▸ Below.refl _ _⟩
  | some t =>
    have h' : ErrOut S w t v := h
    obtain ⟨d, x, rfl⟩ := h'.at_.iface
    have hb : Below w.heap.size w (w.alloc (.cells #[.string op, .iface d x] 59)) := (Below.refl _ _).alloc (Nat.le_refl _) _
    have H := Lib.hid h'
    clear h h'
    go_enter Tryd.func9, Tryd.ntmps9
    go_wp2_with fail
    go_ret
    exact ⟨_, rfl, ⟨w.heap.size, _, rfl, heap_alloc_new w _, H.out.below hb, fun hm => by have := hS _ hm; omega⟩, hb⟩
def joinO : Option ErrT → Option ErrT → Option ErrT
  | none, b => b
  | some a, none => some a
  | some a, some b => some (.both a b)
theorem join_oo (S : List Nat) (a b : Option ErrT) (u v : Value) (w : World) (hu : ErrOO S w a u) (hv : ErrOO S w b v) (hS : ∀ x ∈ S, x < w.heap.size) : Calls Tryd.prog 18 #[u, v] w (OORes S w (joinO a b)) := by
  cases a with
  | none =>
    have e : u = .nilIface := hu
    subst e
    exact (fjoin_nil v w).mono fun e w' ⟨he, hw⟩ => ⟨_, he, hw ▸ hv, hw ▸ Below.refl _ _⟩
  | some a =>
    cases b with
    | none =>
      have e : v = .nilIface := hv
      subst e
      exact (fjoin_right a u w (ErrOut.at_ hu)).mono fun e w' ⟨he, hw⟩ => ⟨_, he, hw ▸ hu, hw ▸ Below.refl _ _⟩
    | some b =>
      have hu' : ErrOut S w a u := hu
      have hv' : ErrOut S w b v := hv
      obtain ⟨d, x, rfl⟩ := hu'.at_.iface
      obtain ⟨d', x', rfl⟩ := hv'.at_.iface
      have hb : Below w.heap.size w (w.alloc (.cells #[.iface d x, .iface d' x'] 73)) := (Below.refl _ _).alloc (Nat.le_refl _) _
      have H := Lib.hid hu'; have H' := Lib.hid hv'
      clear hu hv hu' hv'
      go_enter Tryd.func18, Tryd.ntmps18
      go_wp2_with fail
      go_ret
      exact ⟨_, rfl, ⟨w.heap.size, _, _, rfl, heap_alloc_new w _, H.out.below hb, H'.out.below hb, fun hm => by have := hS _ hm; omega⟩, hb⟩
def FORes (S : List Nat) (w : World) (o : Option ErrT) (e : Ending) (w' : World) : Prop := ∃ x, e = .returned (.agg (fltC x)) ∧ FltO S w' o x ∧ Below w.heap.size w w'
theorem rnew_oo (S : List Nat) (n : Int) (w : World) (hS : ∀ x ∈ S, x < w.heap.size) : Calls Tryd.prog 22 #[.int .i64 n] w (FORes S w (if n = 0 then none else some (.num n))) := by
  by_cases hn : n = 0
  · subst hn; rw [if_pos rfl]; exact rnew_zero S w
  · rw [if_neg hn]; exact rnew_some S n hn w hS
theorem rmissing_oo (S : List Nat) (w : World) (A : Option Addr) (n cap : Nat) (R : List Id32) (h : IdsIn w A n R) (hb : n ≤ 1000000) (hS : ∀ x ∈ S, x < w.heap.size) :
    Calls Tryd.prog 23 #[.slice A n cap] w (FORes S w (if n = 0 then none else some (.rep R))) := by
  by_cases hn : n = 0
  · subst hn; rw [if_pos rfl]; exact rmissing_nil S A cap w
  · rw [if_neg hn]; exact rmissing_some S w A n cap R h (by omega) hb hS
def SzO : Option ErrT → Nat | none => 0 | some t => t.sz
theorem nums_le : ∀ t, (numbersOf t).length ≤ t.sz
  | .num _ => by simp [numbersOf, ErrT.sz]
  | .rep _ => by simp [numbersOf, ErrT.sz]
  | .wrap _ t => by have := nums_le t; simp only [numbersOf, ErrT.sz]; omega
  | .both a b => by have := nums_le a; have := nums_le b; simp only [numbersOf, ErrT.sz, List.length_append]; omega
theorem ops_le : ∀ t, (opsOf t).length ≤ t.sz
  | .num _ => by simp [opsOf]
  | .rep _ => by simp [opsOf]
  | .wrap _ t => by have := ops_le t; simp only [opsOf, ErrT.sz, List.length_cons]; omega
  | .both a b => by have := ops_le a; have := ops_le b; simp only [opsOf, ErrT.sz, List.length_append]; omega
theorem reps_le : ∀ t, (reportsOf t).length ≤ t.sz
  | .num _ => by simp [reportsOf]
  | .rep _ => by simp [reportsOf, ErrT.sz]
  | .wrap _ t => by have := reps_le t; simp only [reportsOf, ErrT.sz]; omega
  | .both a b => by have := reps_le a; have := reps_le b; simp only [reportsOf, ErrT.sz, List.length_append]; omega
theorem numsO_le (o : Option ErrT) : (numsO o).length ≤ SzO o := by cases o; exact Nat.le_refl _; exact nums_le _
theorem opsO_le (o : Option ErrT) : (opsO o).length ≤ SzO o := by cases o; exact Nat.le_refl _; exact ops_le _
theorem repsO_le (o : Option ErrT) : (repsO o).length ≤ SzO o := by cases o; exact Nat.le_refl _; exact reps_le _
theorem rwrap_oo (S : List Nat) (op : ByteArray) (o : Option ErrT) (x : Flt) (w : World) (h : FltO S w o x) (hS : ∀ x ∈ S, x < w.heap.size) (hl : SzO o ≤ 4294967296) :
    Calls Tryd.prog 24 #[.string op, .agg (fltC x)] w (FORes S w (o.map (.wrap op))) := by
  cases o with
  | none => exact rwrap_nil S op x [] [] w h hS
  | some t => exact rwrap_some S op x (numbersOf t) (numbersOf_ne t) (opsOf t) (reportsOf t) w h hS (Nat.le_trans (ops_le t) hl) (Nat.le_trans (nums_le t) hl)
theorem rjoin_oo (S : List Nat) (a b : Option ErrT) (x y : Flt) (w : World) (hx : FltO S w a x) (hy : FltO S w b y) (hS : ∀ x ∈ S, x < w.heap.size) (ha : SzO a ≤ 4294967296) (hb : SzO b ≤ 4294967296) :
    Calls Tryd.prog 25 #[.agg (fltC x), .agg (fltC y)] w (FORes S w (joinO a b)) := by
  have h := rjoin S x y _ _ _ _ _ _ w hx hy hS ⟨Nat.le_trans (numsO_le a) ha, Nat.le_trans (numsO_le b) hb, Nat.le_trans (opsO_le a) ha, Nat.le_trans (opsO_le b) hb, Nat.le_trans (repsO_le a) ha, Nat.le_trans (repsO_le b) hb⟩
  have e1 : numsO a ++ numsO b = numsO (joinO a b) := by cases a <;> cases b <;> simp [numsO, joinO, numbersOf]
  have e2 : opsO a ++ opsO b = opsO (joinO a b) := by cases a <;> cases b <;> simp [opsO, joinO, opsOf]
  have e3 : repsO a ++ repsO b = repsO (joinO a b) := by cases a <;> cases b <;> simp [repsO, joinO, reportsOf]
  rw [e1, e2, e3] at h
  exact h

/-! ### The stacks -/
structure Ent where
  o : Option ErrT
  v : Value
  x : Flt
def shortO (o : Option ErrT) : Prop := ∀ R ∈ repsO o, R.length ≤ 20
def EntOk (S : List Nat) (w : World) (P : Nat) (e : Ent) : Prop := ErrOO S w e.o e.v ∧ FltO S w e.o e.x ∧ SzO e.o + 1 ≤ P ∧ shortO e.o
theorem EntOk.kept {S : List Nat} {w w' : World} {P : Nat} {e : Ent} (h : EntOk S w P e) (hk : Keep S w w') : EntOk S w' P e := ⟨h.1.kept hk, h.2.1.kept hk, h.2.2⟩
theorem EntOk.re {S S' : List Nat} {w : World} {P : Nat} {e : Ent} (h : EntOk S w P e) (hs : ∀ x ∈ S', x ∈ S ∨ w.heap.size ≤ x) : EntOk S' w P e := ⟨h.1.re hs, h.2.1.re hs, h.2.2⟩
theorem EntOk.more {S : List Nat} {w : World} {P Q : Nat} {e : Ent} (h : EntOk S w P e) (hq : P ≤ Q) : EntOk S w Q e := ⟨h.1, h.2.1, Nat.le_trans h.2.2.1 hq, h.2.2.2⟩
def vR (e : Ent) : Array Value := #[e.v]
def xR (e : Ent) : Array Value := fltC e.x
theorem vR_one {S : List Nat} {w : World} {o : Option ErrT} {v : Value} (h : ErrOO S w o v) : ∀ u ∈ (#[v] : Array Value).toList, u.oneCell' = true := fun u hu => by
  simp at hu; subst hu
  rcases h.one with e | ⟨d, x, e⟩ <;> subst e <;> rfl
theorem xR_one {S : List Nat} {w : World} {nums : List Int} {ops : List ByteArray} {reps : List (List Id32)} {x : Flt} (h : FltAt S w nums ops reps x) : ∀ u ∈ (fltC x).toList, u.oneCell' = true := fltC_one x h.n.one h.o.one h.r.one
theorem einfoErr : ElemInfo Tryd.prog 62 26 1 16 :=
  .of (z := .nilIface) Tryd.underlying62 (by kernel_rfl) (by kernel_rfl) (by kernel_rfl) rfl (by omega)
theorem einfoFlt : ElemInfo Tryd.prog 63 39 3 72 :=
  .of (z := .agg (fltC flt0)) Tryd.underlying63 (by kernel_rfl) (by kernel_rfl) (by kernel_rfl) (fltC_size _) (by omega)
@[go_sem ↓] theorem bsFlt_rw (n : Nat) (parts : Array (Nat × Value)) : Instr.buildSlice 63 n parts = bsS 63 n parts := rfl
@[go_sem] theorem bsFlt_run (w : World) (x : Flt) : (bsS 63 1 #[(0, .agg (fltC x))]).run Tryd.prog w = .ok (.slice (some ⟨w.heap.size, 0, none⟩) 1 1) (w.alloc (.cells (fltC x) 39)) :=
  run_bsS1 einfoFlt (by omega) w (fltC x) (fltC_size x)
theorem Own.take_ {w : World} {B : Nat} {E : TypeId} {k n cap : Nat} {A : Option Addr} {L : List (Array Value)} (h : Own w B E k A n cap L) {m : Nat} (hm : m ≤ n) (hA : A ≠ none) : Own w B E k A m cap (L.take m) := by
  have hfl := flat_len (L.take m) k (fun c hc => h.size c (List.mem_of_mem_take hc))
  have hl := h.len
  have hflat := flat_len L k h.size
  refine ⟨⟨by rw [hfl, List.length_take, hl, Nat.min_eq_left hm], ?_⟩, by rw [List.length_take, hl, Nat.min_eq_left hm], fun c hc => h.size c (List.mem_of_mem_take hc)⟩
  rcases h.row.2 with ⟨h1, _⟩ | ⟨g, c, cur, hv, hb, hg, hnc, hcm, hcs, htake⟩
  · injection h1 with h1; exact absurd h1 hA
  · injection hv with e1 e2 e3
    subst e1; subst e3
    refine .inr ⟨g, cap, cur, rfl, hb, hg, by omega, hcm, hcs, ?_⟩
    have e : (L.take m).flatMap Array.toList = (L.flatMap Array.toList).take (m * k) := by
      have h2 : L.flatMap Array.toList = (L.take m).flatMap Array.toList ++ (L.drop m).flatMap Array.toList := by rw [← List.flatMap_append, List.take_append_drop]
      rw [h2, List.take_left' (by rw [hfl, List.length_take, hl, Nat.min_eq_left hm])]
    rw [e, ← htake, List.take_take, Nat.min_eq_left (Nat.mul_le_mul_right k hm)]

end Go.Proofs.YtiihicmodohaeaaDoor
