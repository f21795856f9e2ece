/- The statements of layer 4: made: the walk. -/
import Derived.Test.YtiihicmodohaeaaDoorMade
namespace Go.Proofs.YtiihicmodohaeaaDoor
open Go.RowKit Go.Extern.Stop Go.Stop Go.Extern

theorem own_set1 {w : World} {B : Nat} {E : TypeId} {g n cap : Nat} {L : List (Array Value)} (h : Own w B E 1 (some ⟨g, 0, none⟩) n cap L) {i : Nat} (hi : i < n) (v : Value) :
    Own (w.setCell ⟨g, i, none⟩ v) B E 1 (some ⟨g, 0, none⟩) n cap (L.set i #[v]) ∧ Keep [g] w (w.setCell ⟨g, i, none⟩ v) ∧ (∃ u, w.cell? ⟨g, i, none⟩ = some u) ∧ w.frozen? ⟨g, i, none⟩ = false := by
  have hL := h.len
  have hs := h.size
  rcases h.row.2 with ⟨h2, _⟩ | ⟨g', c, cur, hv, hb, hg, hnc, hcm, hcsz, htake⟩
  · cases h2
  · injection hv with hA _ hc
    injection hA with hA
    injection hA with hA
    subst hA; subst hc
    have hsz : cur.size = cap := by omega
    have hset := heap_set_row hg i v
    refine ⟨⟨⟨?_, .inr ⟨g, cap, _, rfl, hb, hset, hnc, hcm, by simpa using hcsz, ?_⟩⟩, by simp [hL], ?_⟩, Keep.setCell w ⟨g, i, none⟩ v, ⟨cur[i]'(by omega), by rw [cell_of_row w g i cur _ _ hg]; exact Array.getElem?_eq_getElem (by omega)⟩, by simp [World.frozen?, hg]⟩
    · rw [flat_len _ 1 (fun c hc => by
        rcases List.mem_or_eq_of_mem_set hc with h | h
        · exact hs c h
        · rw [h]; rfl), List.length_set, hL]
    · rw [flat_set L 1 hs i #[v] (by omega), ← htake]
      apply List.ext_getElem?
      intro j
      simp only [Array.toList_setIfInBounds, List.getElem?_take, List.getElem?_set, List.getElem?_append, List.length_append, List.length_take, List.getElem?_drop, Array.length_toList]
      have m2 : min (i * 1) (min (n * 1) cur.size) = i := by omega
      simp only [m2]
      by_cases c1 : j < i
      · have c3 : j < n * 1 := by omega
        have c4 : i ≠ j := by omega
        have c5 : j < i * 1 := by omega
        have c6 : j < i + 1 := by omega
        simp [c1, c3, c4, c5, c6]
      · by_cases c2 : j = i
        · subst c2
          have c3 : j < n * 1 := by omega
          have c4 : j < cur.size := by omega
          simp [c3, c4, hi]
        · have c4 : i ≠ j := by omega
          have e : i + 1 + (j - (i + 1)) = j := by omega
          have c7 : ¬ j < i + 1 := by omega
          simp [c1, c4, c7, e]
    · intro c hc
      rcases List.mem_or_eq_of_mem_set hc with h | h
      · exact hs c h
      · rw [h]; rfl
theorem run_bsS1v {P : Program} {T E : TypeId} {bytes : Nat} (I : ElemInfo P T E 1 bytes) (w : World) (v : Value) (hv : v.cells = #[v]) :
    (bsS T 1 #[(0, v)]).run P w = .ok (.slice (some ⟨w.heap.size, 0, none⟩) 1 1) (w.alloc (.cells #[v] E)) := by
  obtain ⟨i, z, hi, hz, hsz, hby, hzs⟩ := I.info
  unfold bsS Instr.buildSlice
  have hf : Instr.fill (fun i => some (i * 1, 1)) (Array.map (fun x => z.cells[x % z.cells.size]!) (Array.range (1 * 1))) [(0, v)] = some #[v] := by
    have e : Array.map (fun x => z.cells[x % z.cells.size]!) (Array.range (1 * 1)) = (#[] : Array Value) ++ Array.map (fun x => z.cells[x % z.cells.size]!) (Array.range (1 * 1)) ++ #[] := by simp
    rw [e, fill_step (off := 0) (size := 1) (by simp) rfl (by simp) (by simp [hv])]
    simp [Instr.fill, hv]
  simp only [Sem.run_bind, run_underlying I.und, Result.andThen_ok, sizeOf, typeInfo, hi, hsz]
  simp [hi, hz, zeroValue, typeInfo, hsz, newRow]
  simp only [Nat.mul_one] at hf
  rw [hf]
  rfl
@[go_sem ↓] theorem bsErr_rw (n : Nat) (parts : Array (Nat × Value)) : Instr.buildSlice 62 n parts = bsS 62 n parts := rfl
theorem ErrOO.cells {S : List Nat} {w : World} {o : Option ErrT} {v : Value} (h : ErrOO S w o v) : v.cells = #[v] := by
  rcases h.one with e | ⟨d, x, e⟩ <;> subst e <;> rfl

/-- Entries at a later world, S turned into S'. -/
theorem EntOk.move {S S' : List Nat} {w w' : World} {P : Nat} {e : Ent} (h : EntOk S w P e) (hk : Keep S w w') (hs : ∀ x ∈ S', x ∈ S ∨ w.heap.size ≤ x) : EntOk S' w' P e :=
  ((h.re (S' := S ++ S') (fun x hx => by
    rcases List.mem_append.1 hx with h | h
    · exact .inl h
    · exact hs x h)).kept (hk.mono (fun x hx => .inl (List.mem_append.2 (.inl hx))))).re (fun x hx => .inl (List.mem_append.2 (.inr hx)))
theorem ErrOO.move {S S' : List Nat} {w w' : World} {o : Option ErrT} {v : Value} (h : ErrOO S w o v) (hk : Keep S w w') (hs : ∀ x ∈ S', x ∈ S ∨ w.heap.size ≤ x) : ErrOO S' w' o v :=
  ((h.re (S' := S ++ S') (fun x hx => by
    rcases List.mem_append.1 hx with h | h
    · exact .inl h
    · exact hs x h)).kept (hk.mono (fun x hx => .inl (List.mem_append.2 (.inl hx))))).re (fun x hx => .inl (List.mem_append.2 (.inr hx)))
theorem FltAt.move {S S' : List Nat} {w w' : World} {nums : List Int} {ops : List ByteArray} {reps : List (List Id32)} {x : Flt} (h : FltAt S w nums ops reps x) (hk : Keep S w w') (hs : ∀ x ∈ S', x ∈ S ∨ w.heap.size ≤ x) : FltAt S' w' nums ops reps x :=
  ((h.re (S' := S ++ S') (fun x hx => by
    rcases List.mem_append.1 hx with h | h
    · exact .inl h
    · exact hs x h)).kept (hk.mono (fun x hx => .inl (List.mem_append.2 (.inl hx))))).re (fun x hx => .inl (List.mem_append.2 (.inr hx)))

/-- Two turns, one behind the other: the errors' slice (b1 to b1'), then the document's (b2 to b2'). -/
structure Turns (b1 b2 b1' b2' : List Nat) (wr w1 w3 w4 w5 : World) : Prop where
  a : Below wr.heap.size wr w1
  b : Keep b1 w1 w3
  c : ∀ x ∈ b1', x ∈ b1 ∨ w1.heap.size ≤ x
  d : Below w3.heap.size w3 w4
  e : Keep b2 w4 w5
  f : ∀ x ∈ b2', x ∈ b2 ∨ w4.heap.size ≤ x
theorem Turns.keep {b1 b2 b1' b2' : List Nat} {wr w1 w3 w4 w5 : World} (t : Turns b1 b2 b1' b2' wr w1 w3 w4 w5) : Keep (b1 ++ b2) wr w5 :=
  Keep.trans (Keep.trans (Keep.trans ((Keep.of_below t.a).mono (S' := b1 ++ b2) (by simp)) (t.b.mono (S' := b1 ++ b2) (fun x hx => .inl (List.mem_append.2 (.inl hx)))) (fun x hx => .inl hx)) ((Keep.of_below t.d).mono (S' := b1 ++ b2) (by simp)) (fun x hx => .inl hx)) (t.e.mono (S' := b1 ++ b2) (fun x hx => .inl (List.mem_append.2 (.inr hx)))) (fun x hx => .inl hx)
theorem Turns.sizes {b1 b2 b1' b2' : List Nat} {wr w1 w3 w4 w5 : World} (t : Turns b1 b2 b1' b2' wr w1 w3 w4 w5) : wr.heap.size ≤ w1.heap.size ∧ w1.heap.size ≤ w3.heap.size ∧ w3.heap.size ≤ w4.heap.size ∧ w4.heap.size ≤ w5.heap.size := ⟨t.a.size, t.b.size, t.d.size, t.e.size⟩
theorem Turns.new {b1 b2 b1' b2' : List Nat} {wr w1 w3 w4 w5 : World} (t : Turns b1 b2 b1' b2' wr w1 w3 w4 w5) : ∀ x ∈ b1' ++ b2', x ∈ b1 ++ b2 ∨ wr.heap.size ≤ x := fun x hx => by
  obtain ⟨z1, z2, z3, _⟩ := t.sizes
  rcases List.mem_append.1 hx with h | h
  · rcases t.c x h with h | h
    · exact .inl (List.mem_append.2 (.inl h))
    · right; omega
  · rcases t.f x h with h | h
    · exact .inl (List.mem_append.2 (.inr h))
    · right; omega
theorem Turns.old {b1 b2 b1' b2' : List Nat} {wr w1 w3 w4 w5 : World} (t : Turns b1 b2 b1' b2' wr w1 w3 w4 w5) {P Q : Nat} (hq : P ≤ Q) {e : Ent} (h : EntOk (b1 ++ b2) wr P e) : EntOk (b1' ++ b2') w5 Q e := (h.move t.keep t.new).more hq
theorem Turns.ent {b1 b2 b1' b2' : List Nat} {wr w1 w3 w4 w5 : World} (t : Turns b1 b2 b1' b2' wr w1 w3 w4 w5) {o : Option ErrT} {v : Value} {x : Flt} (hv : ErrOO (b1 ++ b2) w1 o v) (hx : FltO (b1' ++ b2) w4 o x) {Q : Nat} (hq : SzO o + 1 ≤ Q) (hs : shortO o) : EntOk (b1' ++ b2') w5 Q ⟨o, v, x⟩ := by
  obtain ⟨z1, z2, z3, z4⟩ := t.sizes
  refine ⟨hv.move (Keep.trans (Keep.trans (t.b.mono (S' := b1 ++ b2) (fun x hx => .inl (List.mem_append.2 (.inl hx)))) ((Keep.of_below t.d).mono (S' := b1 ++ b2) (by simp)) (fun x hx => .inl hx)) (t.e.mono (S' := b1 ++ b2) (fun x hx => .inl (List.mem_append.2 (.inr hx)))) (fun x hx => .inl hx)) (fun x hx => ?_), hx.move (t.e.mono (S' := b1' ++ b2) (fun x hx => .inl (List.mem_append.2 (.inr hx)))) (fun x hx => ?_), hq, hs⟩
  · rcases List.mem_append.1 hx with h | h
    · rcases t.c x h with h | h
      · exact .inl (List.mem_append.2 (.inl h))
      · right; exact h
    · rcases t.f x h with h | h
      · exact .inl (List.mem_append.2 (.inr h))
      · right; omega
  · rcases List.mem_append.1 hx with h | h
    · exact .inl (List.mem_append.2 (.inl h))
    · rcases t.f x h with h | h
      · exact .inl (List.mem_append.2 (.inr h))
      · right; exact h

/-- A step that came in. -/
structure StepV where
  k : Int
  e : Int
  op : ByteArray
  A : Option Addr
  n : Nat
  cap : Nat
  R : List Id32
def stepC (s : StepV) : Array Value := #[.int .i64 s.k, .int .i64 s.e, .string s.op, .slice s.A s.n s.cap]
def stepOk (w : World) (s : StepV) : Prop := IdsIn w s.A s.n s.R ∧ s.n ≤ s.cap ∧ s.cap ≤ 9223372036854775807
theorem step_cells {w : World} {q o : Nat} {s : StepV} (h : rowAt w q o 4 = some (stepC s)) : w.cell? ⟨q, o, none⟩ = some (.int .i64 s.k) ∧ w.cell? ⟨q, o + 1, none⟩ = some (.int .i64 s.e) ∧ w.cell? ⟨q, o + 2, none⟩ = some (.string s.op) ∧ w.cell? ⟨q, o + 3, none⟩ = some (.slice s.A s.n s.cap) :=
  ⟨by simpa [stepC] using rowAt_cell h (j := 0) (by omega), by simpa [stepC] using rowAt_cell h (j := 1) (by omega), by simpa [stepC] using rowAt_cell h (j := 2) (by omega), by simpa [stepC] using rowAt_cell h (j := 3) (by omega)⟩

def MadeRes (w : World) (e : Ending) (w' : World) : Prop :=
  ∃ (o : Option ErrT) (v : Value) (x : Flt), e = .returned (.tuple #[v, .agg (fltC x)]) ∧ ErrOO [] w' o v ∧ FltO [] w' o x ∧ SzO o ≤ 4294967296 ∧ shortO o ∧ Below w.heap.size w w'

end Go.Proofs.YtiihicmodohaeaaDoor
