/- Memory: what a call keeps; rows of cells read and written whole; slices that read as lists; ids. No program is named here. -/
import Derived.Test.YtlonihfhgfmplaaBase
import Derived.Laws.AppendOwn
import Derived.Laws.OwnMore
namespace Go.Proofs.Ytlonihfhgfmplaa
open Go.RowKit

/-! ### What a call keeps: every old block but those of S -/
structure Keep (S : List Nat) (w w' : World) : Prop where
  os : w'.os = w.os
  tape : w'.tape = w.tape
  output : w'.output = w.output
  size : w.heap.size ≤ w'.heap.size
  block : ∀ k, k < w.heap.size → k ∉ S → w'.heap[k]? = w.heap[k]?

theorem Keep.refl (S : List Nat) (w : World) : Keep S w w := ⟨rfl, rfl, rfl, Nat.le_refl _, fun _ _ _ => rfl⟩
theorem Keep.trans {S S' : List Nat} {a b c : World} (h : Keep S a b) (k : Keep S' b c) (hs : ∀ x ∈ S', x ∈ S ∨ a.heap.size ≤ x) : Keep S a c :=
  ⟨k.os.trans h.os, k.tape.trans h.tape, k.output.trans h.output, Nat.le_trans h.size k.size, fun i hi hn =>
    (k.block i (Nat.lt_of_lt_of_le hi h.size) (fun hm => (hs i hm).elim hn (by omega))).trans (h.block i hi hn)⟩
theorem Keep.mono {S S' : List Nat} {a b : World} (h : Keep S a b) (hs : ∀ x ∈ S, x ∈ S' ∨ a.heap.size ≤ x) : Keep S' a b :=
  ⟨h.os, h.tape, h.output, h.size, fun i hi hn => h.block i hi (fun hm => (hs i hm).elim hn (by omega))⟩
theorem Keep.alloc (w : World) (o : Obj) : Keep [] w (w.alloc o) := ⟨rfl, rfl, rfl, by simp, fun k hk _ => Below.heap_alloc _ _ _ hk⟩
theorem Keep.drew (w : World) : Keep [] w w.drew := ⟨rfl, rfl, rfl, Nat.le_refl _, fun _ _ _ => rfl⟩
theorem Keep.drewN (w : World) (n : Nat) : Keep [] w (w.drewN n) := ⟨rfl, rfl, rfl, Nat.le_refl _, fun _ _ _ => rfl⟩
theorem Keep.setCell (w : World) (p : Addr) (u : Value) : Keep [p.block] w (w.setCell p u) :=
  ⟨rfl, rfl, rfl, by simp [World.setCell], fun k _ hn => Below.heap_setCell _ _ _ _ (by simpa using hn)⟩
theorem Keep.below {B : Nat} {S : List Nat} {w w' : World} (h : Keep S w w') (hB : B ≤ w.heap.size) (hs : ∀ x ∈ S, B ≤ x) : Below B w w' :=
  ⟨h.os, h.tape, h.output, h.size, fun k hk => h.block k (by omega) (fun hm => by have := hs k hm; omega)⟩
theorem Keep.of_below {w w' : World} (h : Below w.heap.size w w') : Keep [] w w' := ⟨h.os, h.tape, h.output, h.size, fun k hk _ => h.block k hk⟩
theorem Keep.grown {w w' : World} {row : Option Nat} (h : w.grownBy w' row) : Keep row.toList w w' :=
  ⟨h.os, h.tape, h.output, h.size, fun k hk hn => h.block k hk (fun e => hn (by rw [← e]; simp))⟩
theorem Keep.cell {S : List Nat} {w w' : World} (h : Keep S w w') {p : Addr} (hp : p.block < w.heap.size) (hn : p.block ∉ S) : w'.cell? p = w.cell? p := World.cell?_of_block (w := w) (h.block p.block hp hn)
theorem Keep.frozen {S : List Nat} {w w' : World} (h : Keep S w w') {p : Addr} (hp : p.block < w.heap.size) (hn : p.block ∉ S) : w'.frozen? p = w.frozen? p := World.frozen?_of_block (w := w) (h.block p.block hp hn)
/-- A block that is none of S's stays none. -/
theorem not_later {S S' : List Nat} {w : World} {q : Nat} (h : q ∉ S) (hq : q < w.heap.size) (hs : ∀ x ∈ S', x ∈ S ∨ w.heap.size ≤ x) : q ∉ S' :=
  fun hm => (hs q hm).elim h (by omega)

/-! ### Rows of cells, read and written whole -/
def rowAt (w : World) (g o k : Nat) : Option (Array Value) :=
  match w.heap[g]? with
  | some (.cells c _ _) => if o + k ≤ c.size then some (c.extract o (o + k)) else none
  | _ => none
/-- The load of a struct or an array, behind a name that the walk does not open. -/
def ldS (t : TypeId) (a : Addr) : Sem Value := loadVar t a
def bdS (t : TypeId) (parts : Array (Nat × Value)) : Sem Value := Instr.build t parts
def stS (t : TypeId) (a : Addr) (v : Value) : Sem Unit := storeVar t a v

theorem rowAt_of_block {w w' : World} {g : Nat} (h : w'.heap[g]? = w.heap[g]?) (o k : Nat) : rowAt w' g o k = rowAt w g o k := by unfold rowAt; rw [h]
theorem Keep.row {S : List Nat} {w w' : World} (h : Keep S w w') {g : Nat} (hg : g < w.heap.size) (hn : g ∉ S) (o k : Nat) : rowAt w' g o k = rowAt w g o k := rowAt_of_block (h.block g hg hn) o k
theorem rowAt_lt {w : World} {g o k : Nat} {cs : Array Value} (h : rowAt w g o k = some cs) : g < w.heap.size := by
  rcases Nat.lt_or_ge g w.heap.size with hl | hl
  · exact hl
  · unfold rowAt at h; rw [Array.getElem?_eq_none hl] at h; cases h
theorem rowAt_size {w : World} {g o k : Nat} {cs : Array Value} (h : rowAt w g o k = some cs) : cs.size = k := by
  unfold rowAt at h
  split at h
  · split at h
    · injection h with h; subst h; simp; omega
    · cases h
  · cases h
theorem rowAt_cell {w : World} {g o k : Nat} {cs : Array Value} (h : rowAt w g o k = some cs) {j : Nat} (hj : j < k) : w.cell? ⟨g, o + j, none⟩ = cs[j]? := by
  unfold rowAt at h
  split at h
  · rename_i c t f hg
    split at h
    · injection h with h; subst h
      simp only [World.cell?, hg, Option.isSome_none, Bool.false_eq_true, if_false, Array.getElem?_extract]
      rw [if_pos (by omega)]
    · cases h
  · cases h
theorem rowAt_sub {w : World} {g o k : Nat} {cs : Array Value} (h : rowAt w g o k = some cs) {j m : Nat} (hj : j + m ≤ k) : rowAt w g (o + j) m = some (cs.extract j (j + m)) := by
  unfold rowAt at h ⊢
  split at h
  · rename_i c t f hg
    split at h
    · rename_i hle
      injection h with h; subst h
      rw [if_pos (by omega)]
      congr 1
      rw [Array.extract_extract]
      congr 1 <;> omega
    · cases h
  · cases h
@[simp, go_sem] theorem rowAt_drew (w : World) (g o k : Nat) : rowAt (w.drew) g o k = rowAt w g o k := rfl
@[simp, go_sem] theorem rowAt_drewN (w : World) (n g o k : Nat) : rowAt (w.drewN n) g o k = rowAt w g o k := rfl
@[go_sem] theorem rowAt_alloc (w : World) (c : Array Value) (e : TypeId) (fr : Nat × Nat) (g o k : Nat) :
    rowAt (w.alloc (.cells c e fr)) g o k = if g = w.heap.size then (if o + k ≤ c.size then some (c.extract o (o + k)) else none) else rowAt w g o k := by
  by_cases h : g = w.heap.size
  · subst h
    unfold rowAt
    rw [heap_alloc_new]; simp
  · rw [if_neg h]
    refine rowAt_of_block ?_ o k
    show (w.heap.push _)[g]? = _
    rw [Array.getElem?_push, if_neg h]
@[go_sem] theorem rowAt_alloc_map (w : World) (es : Array MapEntry) (c : Nat) (g o k : Nat) :
    rowAt (w.alloc (.map es c)) g o k = if g = w.heap.size then none else rowAt w g o k := by
  by_cases h : g = w.heap.size
  · subst h
    unfold rowAt
    rw [heap_alloc_new]; simp
  · rw [if_neg h]
    refine rowAt_of_block ?_ o k
    show (w.heap.push _)[g]? = _
    rw [Array.getElem?_push, if_neg h]
theorem rowAt_setCell_other (w : World) (p : Addr) (u : Value) (g o k : Nat) (h : g ≠ p.block) : rowAt (w.setCell p u) g o k = rowAt w g o k :=
  rowAt_of_block (Below.heap_setCell w p u g h) o k

section
variable {P : Program}
theorem run_ldS {t : TypeId} {d : TypeDesc} {k : Nat} (hu : P.underlying t = some d) (hd : (match d with | .struct _ | .array _ _ => true | _ => false) = true) (hi : (P.info? t).map (·.size) = some k) (w : World) (g o : Nat) :
    (ldS t ⟨g, o, none⟩).run P w = match rowAt w g o k with | some cs => .ok (.agg cs) w | none => (loadVar t ⟨g, o, none⟩).run P w := by
  cases h : rowAt w g o k with
  | none => rfl
  | some cs =>
    have hsz := rowAt_size h
    have hl : (loadCells ⟨g, o, none⟩ cs.toList.length).run P w = .ok cs.toList.toArray w :=
      run_loadCells_list (P := P) w ⟨g, o, none⟩ cs.toList (fun j v hv => by
        have hadd : (⟨g, o, none⟩ : Addr).add j = ⟨g, o + j, none⟩ := by unfold Addr.add; split <;> simp_all
        have hj : j < k := by
          have := (List.getElem?_eq_some_iff.1 hv).1
          simp at this; omega
        rw [hadd, rowAt_cell h hj]
        simpa using hv)
    simp only [Array.length_toList, hsz] at hl
    have hagg : (isAgg t).run P w = .ok true w := by
      cases d <;> simp_all [isAgg, run_underlying hu]
    unfold ldS loadVar
    simp only [Sem.run_bind, hagg, Result.andThen_ok]
    cases hinfo : P.info? t with
    | none => rw [hinfo] at hi; cases hi
    | some i =>
      rw [hinfo] at hi
      have hk : i.size = k := by simpa using hi
      simp [sizeOf, typeInfo, hinfo, hk, hl]

theorem setRow_alloc (w : World) (z c : Array Value) (e : TypeId) (fr : Nat × Nat) : (w.alloc (.cells z e fr)).setRow w.heap.size c = w.alloc (.cells c e fr) := by
  show ({ w with heap := (w.heap.push (.cells z e fr)).modify w.heap.size _ } : World) = { w with heap := w.heap.push (.cells c e fr) }
  congr 1
  apply Array.ext
  · simp
  · intro i h1 h2
    simp only [Array.getElem_modify, Array.getElem_push]
    by_cases h : w.heap.size = i
    · subst h; simp
    · have hi : i < w.heap.size := by simp at h1; omega
      simp [h, hi]
/-- A store into the newest block, whole. -/
theorem run_stS_new {t e : TypeId} {k : Nat} (hi : (P.info? t).map (·.size) = some k) (w : World) (z cs : Array Value) (hz : z.size = k) (hc : cs.size = k) (h1 : ∀ u ∈ cs.toList, u.oneCell' = true) :
    (stS t ⟨w.heap.size, 0, none⟩ (.agg cs)).run P (w.alloc (.cells z e)) = .ok () (w.alloc (.cells cs e)) := by
  unfold stS storeVar
  cases hinfo : P.info? t with
  | none => rw [hinfo] at hi; cases hi
  | some i =>
    rw [hinfo] at hi
    have hk : i.size = k := by simpa using hi
    have hst := run_storeCells_at P w.heap.size 0 e cs.toList 0 z (w.alloc (.cells z e)) (heap_alloc_new w _) (by simp; omega) h1
    have hE : (z.toList.take (0 + 0) ++ cs.toList ++ z.toList.drop (0 + 0 + cs.toList.length)).toArray = cs := by
      rw [List.drop_of_length_le (by simp; omega)]
      simp
    rw [hE, setRow_alloc] at hst
    simp [Value.cells, sizeOf, typeInfo, hinfo, hk, hc]
    exact hst
end

/-! ### Structs built out of parts -/
theorem arr_mid (A B C : Array Value) (i j : Nat) (hi : A.size = i) (hj : i + B.size = j) : (A ++ B ++ C).extract i j = B := by
  subst hi; subst hj
  rw [Array.append_assoc]
  apply Array.ext'
  simp
theorem arr_at (A C : Array Value) (v : Value) (i : Nat) (hi : A.size = i) : (A ++ #[v] ++ C)[i]? = some v := by
  subst hi
  rw [Array.getElem?_append_left (by simp), Array.getElem?_append_right (by omega)]
  simp
theorem fold_seg (v : List Value) : ∀ (A B C : List Value) (n : Nat), B.length = v.length →
    (v.zipIdx n).foldl (fun (cs : Array Value) (p : Value × Nat) => cs.setIfInBounds (A.length - n + p.2) p.1) (A ++ B ++ C).toArray = (A ++ v ++ C).toArray ∨ A.length < n := by
  induction v with
  | nil => intro A B C n h; left; have : B = [] := List.eq_nil_of_length_eq_zero h; subst this; rfl
  | cons u v ih =>
    intro A B C n h
    match B, h with
    | b :: B, h =>
      by_cases hn : A.length < n
      · exact .inr hn
      · left
        have h1 := ih (A ++ [u]) B C (n + 1) (by simpa using h)
        rcases h1 with h1 | h1
        · simp only [List.zipIdx_cons, List.foldl_cons]
          have e : (A ++ b :: B ++ C).toArray.setIfInBounds (A.length - n + n) u = (A ++ [u] ++ B ++ C).toArray := by
            rw [Nat.sub_add_cancel (by omega)]
            simp
          rw [e]
          have e2 : (A ++ [u]).length - (n + 1) = A.length - n := by simp
          rw [e2] at h1
          rw [h1]; simp
        · simp at h1; omega
theorem fill_step {place : Nat → Option (Nat × Nat)} {A B C : Array Value} {i off size : Nat} {v : Value} {rest : List (Nat × Value)} (hp : place i = some (off, size)) (hA : A.size = off) (hB : B.size = size) (hv : v.cells.size = size) :
    Instr.fill place (A ++ B ++ C) ((i, v) :: rest) = Instr.fill place (A ++ v.cells ++ C) rest := by
  have hd : v.cells.zipIdx.foldl (fun (cs : Array Value) (p : Value × Nat) => cs.setIfInBounds (off + p.2) p.1) (A ++ B ++ C) = A ++ v.cells ++ C := by
    have := fold_seg v.cells.toList A.toList B.toList C.toList 0 (by simp; omega)
    rcases this with h | h
    · simp only [Array.length_toList, Nat.sub_zero, hA] at h
      have eA : (A.toList ++ B.toList ++ C.toList).toArray = A ++ B ++ C := by apply Array.ext'; simp
      have eB : (A.toList ++ v.cells.toList ++ C.toList).toArray = A ++ v.cells ++ C := by apply Array.ext'; simp
      rw [eA, eB] at h
      rw [← Array.foldl_toList, Array.toList_zipIdx]
      exact h
    · omega
  simp only [Instr.fill, hp]
  rw [if_neg (by simp [hv, hB, hA])]
  exact congrArg (fun cs => Instr.fill place cs rest) hd
theorem run_build {P : Program} {t : TypeId} (w : World) (hu : P.underlying t = some (.struct (P.fieldsOf t))) (z : Array Value) (hz : (zeroValue t).run P w = .ok (.agg z) w) (pl : Array (Nat × Nat))
    (hpl : ((P.fieldsOf t).mapM fun (f : Field) => do pure (f.offset, ← sizeOf f.type)).run P w = .ok pl w) (parts : List (Nat × Value)) (cs : Array Value) (hf : Instr.fill (pl[·]?) z parts = some cs) :
    (Instr.build t parts.toArray).run P w = .ok (.agg cs) w := by
  unfold Instr.build
  simp only [Sem.run_bind, hz, Result.andThen_ok, run_underlying hu, hpl, Value.cells, hf, Sem.run_pure]

end Go.Proofs.Ytlonihfhgfmplaa
